/- Part MU of the proof: texts X0. -/
import Derived.Test.YtoedkepcaigkeaaGreatDoorMT
import Derived.Test.YtoedkepcaigkeaaGreatDoorMC
import Derived.Test.YtoedkepcaigkeaaGreatDoorProg
namespace Go.Proofs.YtoedkepcaigkeaaGreatDoor
set_option linter.unusedVariables false
set_option linter.unusedSectionVars false
set_option linter.unusedSimpArgs false
set_option maxHeartbeats 4000000
set_option maxRecDepth 100000
def Qkp (Γ:Gam) (rv:List Qab) (cf:Cf):Prop:=Go Tryz.prog Tryz.f71 [] Γ (one (lL 2 rv Qab.enc)) [] cf
def Qiq (Γ:Gam) (rv:List Qab) (word:ByteArray) (l:List Qab) (l1:List Qab) (i:Int):Prop:=Qkp Γ rv ⟨[.c 116,.l 116,.b 0,.c 15],⟨40,[vS 0 word,vL 1 2 l Qab.enc,vO 5 0 2 l1 Qab.enc,vI 6 i],[oS 2 151 l1 Qab.enc]⟩⟩
def QhQ (Γ:Gam) (rv:List Qab) (word:ByteArray) (l:List Qab) (l2:List Qab):Prop:=Qkp Γ rv ⟨[.c 15],⟨40,[vO 5 0 2 l2 Qab.enc],[oS 2 151 l2 Qab.enc]⟩⟩
theorem Qli (Γ:Gam) (rv:List Qab) {word l l1 i at_} {x:(List Qab×Int)⊕(List Qab)} (h:QfT word l l1 i at_=some x) (hI:∀ s:List Qab×Int,x=.inl s→Qiq Γ rv word l s.1 s.2) (hE:∀ e:List Qab,x=.inr e→QhQ Γ rv word l e):Qkp Γ rv ⟨[.c 3731,.b 1,.c 467,.l 116,.b 0,.c 15],⟨40,[vS 0 word,vL 1 2 l Qab.enc,vO 5 0 2 l1 Qab.enc,vI 6 i,vS 7 at_],[oS 2 151 l1 Qab.enc]⟩⟩:=by
 unfold QfT at h
 obtain ⟨x1,h5,h⟩:=Qae h
 obtain ⟨h6,h⟩:=Qax h
 exact gn 4 [0,1,5,6] [2] [cE Qab.enc h5,oO (Eq.refl ([(Qab.mk x1.err at_)].map Qab.enc).length),aO Qab.enc h6] (hI _ (oJ h))
theorem QqS (Γ:Gam) (rv:List Qab) {word l} {s:List Qab×Int} {e:List Qab} (h:loopF (fun s=>QeO word l s.1 s.2) s=some e) (hD:QhQ Γ rv word l e):Qiq Γ rv word l s.1 s.2:=by
 refine QaD (C:=fun (s:List Qab×Int)=>Qiq Γ rv word l s.1 s.2) (D:=fun (e:List Qab)=>QhQ Γ rv word l e) ?_ h hD
 clear h hD s e
 rintro ⟨l1,i⟩ z_ h hI hE
 replace h:QeO word l l1 i=_:=h
 unfold QeO at h
 rcases Qaj h with ⟨h0,h⟩|⟨h0,h⟩
 ·obtain ⟨x0,h1,h⟩:=Qae h
  rcases Qaj h with ⟨h2,h⟩|⟨h2,h⟩
  ·exact gn 14 [0,1,5,6,7] [0] [nL Qab.enc l,bT h0,cE Qab.enc h1,nF h2] (Qli Γ rv h hI hE)
  ·obtain ⟨h3,h⟩:=Qax h
   obtain ⟨h4,h⟩:=Qax h
   exact gn 14 [0,1,5,6,7] [0] [nL Qab.enc l,bT h0,cE Qab.enc h1,nT h2,oO (h3),cE Qab.enc h1,oO (h4)] (Qli Γ rv h hI hE)
 ·exact gn 5 [5] [0] [nL Qab.enc l,bF h0] (hE _ (oJ h))
theorem QjC {word l} {rv:List Qab} (h:Qgs word l=some rv):AFn Tryz.prog 71 [.one (.str word),.one (lL 2 l Qab.enc)] [] (one (lL 2 rv Qab.enc)) []:=by
 refine QaM Tryz.func71 (by kernel_rfl) (by kernel_rfl) (fun Γ=>?_)
 unfold Qgs at h
 obtain ⟨e0,h7,h⟩:=Qae h
 refine gn 9 [0,1,5,6] [0] [hW 12,hH (.adopt 5 2 151)] (QqS Γ rv h7 ?_)
 obtain ⟨l2,rfl⟩:∃ x,x=e0:=⟨_,rfl⟩
 replace h:(some l2:Option (List Qab))=some _:=h
 obtain rfl:=Option.some.inj h
 exact gr 2 [] [hW 4,hH (.frz 0),rp 3 (eL l2 Qab.enc)]
def QiV (Γ:Gam) (rv:ByteArray) (cf:Cf):Prop:=Go Tryz.prog Tryz.f113 [] Γ (one (.str rv)) [] cf
def Qhm (Γ:Gam) (rv:ByteArray) (n:Int) (s0:ByteArray) (left:Int) (again:Bool):Prop:=QiV Γ rv ⟨[.c 244,.l 244,.b 0,.c 31],⟨31,[vI 0 n,vS 3 s0,vI 4 left,vB 5 again],[]⟩⟩
def QgM (Γ:Gam) (rv:ByteArray) (n:Int) (s1:ByteArray):Prop:=QiV Γ rv ⟨[.c 31],⟨31,[vI 0 n,vS 3 s1],[]⟩⟩
theorem Qjt (Γ:Gam) (rv:ByteArray) {n s0 left d} {x:(ByteArray×Int×Bool)⊕(ByteArray)} (h:QdK n s0 left d=some x) (hI:∀ s:ByteArray×Int×Bool,x=.inl s→Qhm Γ rv n s.1 s.2.1 s.2.2) (hE:∀ e:ByteArray,x=.inr e→QgM Γ rv n e):QiV Γ rv ⟨[.c 7827,.b 1,.c 979,.l 244,.b 0,.c 31],⟨31,[vI 0 n,vS 3 s0,vI 4 left,vI 6 d],[]⟩⟩:=by
 unfold QdK at h
 obtain ⟨h2,h⟩:=Qax h
 exact gn 6 [0,3,4,5] [] [hH (.ints [(cvK .u8 (addK .i64 48 d))]),oO (Eq.refl ([(cvK .u8 (addK .i64 48 d))].map e_u8).length),oO (Eq.refl (([(cvK .u8 (addK .i64 48 d))].map e_u8):List (List Lf))),oO (h2),oO (oA (n:=10))] (hI _ (oJ h))
theorem QpE (Γ:Gam) (rv:ByteArray) {n} {s:ByteArray×Int×Bool} {e:ByteArray} (h:loopF (fun s=>Qgd n s.1 s.2.1 s.2.2) s=some e) (hD:QgM Γ rv n e):Qhm Γ rv n s.1 s.2.1 s.2.2:=by
 refine QaD (C:=fun (s:ByteArray×Int×Bool)=>Qhm Γ rv n s.1 s.2.1 s.2.2) (D:=fun (e:ByteArray)=>QgM Γ rv n e) ?_ h hD
 clear h hD s e
 rintro ⟨s0,left,again⟩ z_ h hI hE
 replace h:Qgd n s0 left again=_:=h
 unfold Qgd at h
 rcases Qaj h with ⟨h0,h⟩|⟨h0,h⟩
 ·rcases Qaj h with ⟨h1,h⟩|⟨h1,h⟩
  ·exact gn 14 [0,3,4,6] [] [bT h0,oO (oA (n:=10)),bT h1] (Qjt Γ rv h hI hE)
  ·exact gn 14 [0,3,4,6] [] [bT h0,oO (oA (n:=10)),bF h1] (Qjt Γ rv h hI hE)
 ·exact gn 5 [0,3] [] [bF h0] (hE _ (oJ h))
theorem Qb4 {n} {rv:ByteArray} (h:Qca n=some rv):AFn Tryz.prog 113 [.one (lI n)] [] (one (.str rv)) []:=by
 refine QaM Tryz.func113 (by kernel_rfl) (by kernel_rfl) (fun Γ=>?_)
 unfold Qca at h
 obtain ⟨e0,h3,h⟩:=Qae h
 refine gn 11 [0,3,4,5] [] [] (QpE Γ rv h3 ?_)
 obtain ⟨s1,rfl⟩:∃ x,x=e0:=⟨_,rfl⟩
 replace h:(br (ltI n 0) (chk (QwI.size+s1.size≤9223372036854775807) (some (catS QwI s1))) (some s1):Option ByteArray)=some _:=h
 rcases Qaj h with ⟨h4,h⟩|⟨h4,h⟩
 ·obtain ⟨h5,h⟩:=Qax h
  obtain rfl:=Option.some.inj h
  exact gr 6 [] [bT h4,oO (h5)]
 ·obtain rfl:=Option.some.inj h
  exact gr 7 [] [bF h4]
theorem Qht {c} {rv:Bool} (h:Qju c=some rv):AFn Tryz.prog 190 [.one (.int .u8 c)] [] (one (.bool rv)) []:=by
 refine QaM Tryz.func190 (by kernel_rfl) (by kernel_rfl) (fun Γ=>?_)
 unfold Qju at h
 obtain rfl:=Option.some.inj h
 exact gr 4 [] [hP,hP,hP,oI ((geI c 48)=true),oR True ((geI c 48)=true)]
theorem QiW {c} {rv:Bool} (h:QlM c=some rv):AFn Tryz.prog 191 [.one (.int .u8 c)] [] (one (.bool rv)) []:=by
 refine QaM Tryz.func191 (by kernel_rfl) (by kernel_rfl) (fun Γ=>?_)
 unfold QlM at h
 obtain rfl:=Option.some.inj h
 exact gr 4 [] [rp 14 hP,oI ((geI c 97)=true),oR True ((geI c 97)=true),rp 2 (oI (((geI c 97)&&(leI c 122))=false)),oI ((((geI c 97)&&(leI c 122))=false)∧(geI c 65)=true),oI (((geI c 97)&&(leI c 122))=false),oI ((((geI c 97)&&(leI c 122))=false)∧(geI c 65)=true),oR True (((geI c 97)&&(leI c 122))=false),oI ((((geI c 97)&&(leI c 122))||((geI c 65)&&(leI c 90)))=false),oR True ((((geI c 97)&&(leI c 122))||((geI c 65)&&(leI c 90)))=false)]
def QpT (Γ:Gam) (rv:Bool) (cf:Cf):Prop:=Go Tryz.prog Tryz.f157 [] Γ (one (.bool rv)) [] cf
def Qm1 (Γ:Gam) (rv:Bool) (s0:ByteArray) (b:UInt8) (i:Int):Prop:=QpT Γ rv ⟨[.c 116,.l 116,.b 0,.c 15],⟨35,[vS 0 s0,vI 3 i],[]⟩⟩
def Ql4 (Γ:Gam) (rv:Bool) (s0:ByteArray) (b:UInt8):Prop:=QpT Γ rv ⟨[.c 15],⟨35,[],[]⟩⟩
theorem QrH (Γ:Gam) (rv:Bool) {s0 b} {s:Int} {e:(Unit)⊕(Bool)} (h:loopF (fun s=>Qfb s0 b s) s=some e) (hD:sel e (fun e=>Ql4 Γ rv s0 b) (fun e=>e=rv)):Qm1 Γ rv s0 b s:=by
 refine QaD (C:=fun (s:Int)=>Qm1 Γ rv s0 b s) (D:=fun (e:(Unit)⊕(Bool))=>sel e (fun e=>Ql4 Γ rv s0 b) (fun e=>e=rv)) ?_ h hD
 clear h hD s e
 intro i z_ h hI hE
 replace h:Qfb s0 b i=_:=h
 unfold Qfb at h
 rcases Qaj h with ⟨h4,h⟩|⟨h4,h⟩
 ·obtain ⟨b1,h5,h⟩:=Qae h
  obtain ⟨r1,h6,h⟩:=Qae h
  rcases Qaj h with ⟨h7,h⟩|⟨h7,h⟩
  ·exact gn 14 [0,3] [] [bT h4,yE h5,cC (QiW h6),rp 6 (nF h7),fF] (hI _ (oJ h))
  ·obtain ⟨r2,h8,h⟩:=Qae h
   rcases Qaj h with ⟨h9,h⟩|⟨h9,h⟩
   ·exact gn 14 [0,3] [] [bT h4,yE h5,cC (QiW h6),rp 3 (nT h7),yE h5,nT h7,cC (Qht h8),nT h7,nT h7,nF h9] (hI _ (oJ h))
   ·obtain rfl:=(hE _ (oJ h):_=rv)
    exact gr 12 [] [bT h4,yE h5,cC (QiW h6),rp 3 (nT h7),yE h5,nT h7,cC (Qht h8),nT h7,nT h7,nT h9]
 ·exact gn 5 [] [] [bF h4] (hE _ (oJ h))
theorem Qfc {s0} {rv:Bool} (h:Qf4 s0=some rv):AFn Tryz.prog 157 [.one (.str s0)] [] (one (.bool rv)) []:=by
 refine QaM Tryz.func157 (by kernel_rfl) (by kernel_rfl) (fun Γ=>?_)
 unfold Qf4 at h
 rcases Qaj h with ⟨h0,h⟩|⟨h0,h⟩
 ·obtain rfl:=Option.some.inj h
  exact gr 8 [] [rp 4 hP,rp 2 (oI ((ltI (sizeS s0) 1)=false)),oR True ((ltI (sizeS s0) 1)=false),rp 4 (bT h0),tT]
 ·obtain ⟨b,h1,h⟩:=Qae h
  obtain ⟨r,h2,h⟩:=Qae h
  rcases Qaj h with ⟨h3,h⟩|⟨h3,h⟩
  ·obtain rfl:=Option.some.inj h
   exact gr 8 [] [rp 4 hP,rp 2 (oI ((ltI (sizeS s0) 1)=false)),oR True ((ltI (sizeS s0) 1)=false),bF h0,bF h0,yE h1,bF h0,cC (Qht h2),bF h0,bT h3]
  ·obtain ⟨e0,h10,h⟩:=Qae h
   refine gn 12 [0,3] [] [rp 4 hP,rp 2 (oI ((ltI (sizeS s0) 1)=false)),oR True ((ltI (sizeS s0) 1)=false),bF h0,bF h0,yE h1,bF h0,cC (Qht h2),bF h0,bF h3] (QrH Γ rv h10 ?_)
   rcases e0 with e0|e0
   ·replace h:(some true:Option Bool)=some _:=h
    obtain rfl:=Option.some.inj h
    exact gr 2 [] []
   ·obtain ⟨r3,rfl⟩:∃ x,x=e0:=⟨_,rfl⟩
    replace h:(some r3:Option Bool)=some _:=h
    exact Option.some.inj h
def Qh4 (Γ:Gam) (rv:List Qab) (cf:Cf):Prop:=Go Tryz.prog Tryz.f158 [] Γ (one (lL 2 rv Qab.enc)) [] cf
def Qio (Γ:Gam) (rv:List Qab) (l:List Qao) (l2:List Qab) (i:Int):Prop:=Qh4 Γ rv ⟨[.c 244,.l 244,.b 0,.c 31],⟨88,[vL 0 2 l Qao.enc,vO 3 0 2 l2 Qab.enc,vI 4 i],[oS 2 151 l2 Qab.enc]⟩⟩
def QhI (Γ:Gam) (rv:List Qab) (l:List Qao) (l4:List Qab):Prop:=Qh4 Γ rv ⟨[.c 31],⟨88,[vO 3 0 2 l4 Qab.enc],[oS 2 151 l4 Qab.enc]⟩⟩
theorem QkM (Γ:Gam) (rv:List Qab) {l i x0 l3} {x:(List Qab×Int)⊕(List Qab)} (h:Qez l i x0 l3=some x) (hI:∀ s:List Qab×Int,x=.inl s→Qio Γ rv l s.1 s.2) (hE:∀ e:List Qab,x=.inr e→QhI Γ rv l e):Qh4 Γ rv ⟨[.c 7827,.b 1,.c 979,.l 244,.b 0,.c 31],⟨88,[vL 0 2 l Qao.enc,vO 3 0 2 l3 Qab.enc,vI 4 i,vP 5 1 2],[oS 2 151 l3 Qab.enc,oX 2 117 (Qao.enc x0)]⟩⟩:=by
 unfold Qez at h
 rcases Qaj h with ⟨h7,h⟩|⟨h7,h⟩
 ·obtain ⟨x1,h8,h⟩:=Qae h
  rcases Qaj h with ⟨h9,h⟩|⟨h9,h⟩
  ·obtain ⟨r1,h10,h⟩:=Qae h
   obtain ⟨h11,h⟩:=Qax h
   exact gn 7 [0,3,4] [3] [hH (.draw 24 []),rp 6 (bT h7),cE Qao.enc h8,rp 4 (bT h7),rp 9 (bT h9),bT h7,bT h9,bT h7,tT,cC (Qb4 h10),oO (Eq.refl ([(Qab.mk 13 r1)].map Qab.enc).length),aO Qab.enc h11] (hI _ (oJ h))
  ·rcases Qaj h with ⟨h12,h⟩|⟨h12,h⟩
   ·obtain ⟨r2,h13,h⟩:=Qae h
    obtain ⟨h14,h⟩:=Qax h
    exact gn 7 [0,3,4] [3] [hH (.draw 24 []),rp 6 (bT h7),cE Qao.enc h8,rp 4 (bT h7),rp 6 (bF h9),cE Qao.enc h8,rp 3 (bF h9),bT h7,bF h9,bT h7,bT h12,cC (Qb4 h13),oO (Eq.refl ([(Qab.mk 13 r2)].map Qab.enc).length),aO Qab.enc h14] (hI _ (oJ h))
   ·exact gn 7 [0,3,4] [0] [hH (.draw 24 []),rp 6 (bT h7),cE Qao.enc h8,rp 4 (bT h7),rp 6 (bF h9),cE Qao.enc h8,rp 3 (bF h9),bT h7,bF h9,bT h7,bF h12] (hI _ (oJ h))
 ·exact gn 7 [0,3,4] [0] [hH (.draw 24 []),rp 10 (bF h7),rp 9 kF,bF h7,bF h7,fF] (hI _ (oJ h))
theorem QqJ (Γ:Gam) (rv:List Qab) {l} {s:List Qab×Int} {e:List Qab} (h:loopF (fun s=>QdC l s.1 s.2) s=some e) (hD:QhI Γ rv l e):Qio Γ rv l s.1 s.2:=by
 refine QaD (C:=fun (s:List Qab×Int)=>Qio Γ rv l s.1 s.2) (D:=fun (e:List Qab)=>QhI Γ rv l e) ?_ h hD
 clear h hD s e
 rintro ⟨l2,i⟩ z_ h hI hE
 replace h:QdC l l2 i=_:=h
 unfold QdC at h
 rcases Qaj h with ⟨h2,h⟩|⟨h2,h⟩
 ·obtain ⟨x0,h3,h⟩:=Qae h
  rcases Qaj h with ⟨h4,h⟩|⟨h4,h⟩
  ·obtain ⟨r,h5,h⟩:=Qae h
   obtain ⟨h6,h⟩:=Qax h
   exact gn 14 [0,3,4,5] [3,1] [nL Qao.enc l,bT h2,cE Qao.enc h3,rp 17 hP,rp 2 (oI ((ltI x0.t 0)=false)),oR True ((ltI x0.t 0)=false),rp 4 (oI (((ltI x0.t 0)||(gtI x0.t 4096))=false)),oR True (((ltI x0.t 0)||(gtI x0.t 4096))=false),rp 5 (oI ((((ltI x0.t 0)||(gtI x0.t 4096))||(ltI x0.a x0.t))=false)),oR True ((((ltI x0.t 0)||(gtI x0.t 4096))||(ltI x0.a x0.t))=false),bT h4,cC (Qb4 h5),oO (Eq.refl ([(Qab.mk 2 r)].map Qab.enc).length),aO Qab.enc h6] (QkM Γ rv h hI hE)
  ·exact gn 14 [0,3,4,5] [0,1] [nL Qao.enc l,bT h2,cE Qao.enc h3,rp 17 hP,rp 2 (oI ((ltI x0.t 0)=false)),oR True ((ltI x0.t 0)=false),rp 4 (oI (((ltI x0.t 0)||(gtI x0.t 4096))=false)),oR True (((ltI x0.t 0)||(gtI x0.t 4096))=false),rp 5 (oI ((((ltI x0.t 0)||(gtI x0.t 4096))||(ltI x0.a x0.t))=false)),oR True ((((ltI x0.t 0)||(gtI x0.t 4096))||(ltI x0.a x0.t))=false),bF h4] (QkM Γ rv h hI hE)
 ·exact gn 5 [3] [0] [nL Qao.enc l,bF h2] (hE _ (oJ h))
theorem QkL (Γ:Gam) (rv:List Qab) {l l1} (h:QfM l l1=some rv):Qh4 Γ rv ⟨[.c 15],⟨88,[vL 0 2 l Qao.enc,vO 3 0 2 l1 Qab.enc],[oS 2 151 l1 Qab.enc]⟩⟩:=by
 unfold QfM at h
 obtain ⟨e0,h15,h⟩:=Qae h
 refine gn 5 [0,3,4] [0] [] (QqJ Γ rv h15 ?_)
 obtain ⟨l4,rfl⟩:∃ x,x=e0:=⟨_,rfl⟩
 replace h:(some l4:Option (List Qab))=some _:=h
 obtain rfl:=Option.some.inj h
 exact gr 2 [] [hW 4,hH (.frz 0),rp 3 (eL l4 Qab.enc)]
theorem Qjw {l} {rv:List Qab} (h:Qfr l=some rv):AFn Tryz.prog 158 [.one (lL 2 l Qao.enc)] [] (one (lL 2 rv Qab.enc)) []:=by
 refine QaM Tryz.func158 (by kernel_rfl) (by kernel_rfl) (fun Γ=>?_)
 unfold Qfr at h
 rcases Qaj h with ⟨h0,h⟩|⟨h0,h⟩
 ·obtain ⟨h1,h⟩:=Qax h
  exact gn 9 [0,3] [1] [nL Qao.enc l,hP,hP,oI ((ltI (lenI l) 1)=false),nL Qao.enc l,hP,hP,oI ((ltI (lenI l) 1)=false),oR True ((ltI (lenI l) 1)=false),bT h0,oO (Eq.refl ([(Qab.mk 4 ByteArray.empty)].map Qab.enc).length),aN (l:=([(Qab.mk 4 ByteArray.empty)]:List Qab)) Qab.enc h1] (QkL Γ rv h)
 ·exact gn 9 [0,3] [0] [nL Qao.enc l,hP,hP,oI ((ltI (lenI l) 1)=false),nL Qao.enc l,hP,hP,oI ((ltI (lenI l) 1)=false),oR True ((ltI (lenI l) 1)=false),bF h0,hW 1,hH (.adopt 3 2 151)] (QkL Γ rv h)
theorem QcY {t} {rv:Bool} (h:Qhc t=some rv):AFn Tryz.prog 159 [.one (lI t)] [] (one (.bool rv)) []:=by
 refine QaM Tryz.func159 (by kernel_rfl) (by kernel_rfl) (fun Γ=>?_)
 unfold Qhc at h
 obtain rfl:=Option.some.inj h
 exact gr 4 [] [hP,hP,hP,oI ((geI t 0)=true),oR True ((geI t 0)=true)]
def QbK (Γ:Gam) (rv:List Qab) (cf:Cf):Prop:=Go Tryz.prog Tryz.f110 [] Γ (one (lL 2 rv Qab.enc)) [] cf
def Qjx (Γ:Gam) (rv:List Qab) (n:Qam) (i:Int) (r:ByteArray) (x0:Qas) (l:List Qab) (l1:List Qab) (twice:Bool) (k:Int):Prop:=QbK Γ rv ⟨[.c 4084,.l 4084,.b 0,.c 511],⟨192,[vI 1 i,vP 2 0 2,vO 5 1 2 l1 Qab.enc,vS 6 (catS QaX r),vP 7 2 6,vB 8 twice,vI 9 k],[oX 2 25 (Qam.enc n),oS 2 151 l1 Qab.enc,oX 6 120 (Qas.enc x0)]⟩⟩
def Qjc (Γ:Gam) (rv:List Qab) (n:Qam) (i:Int) (r:ByteArray) (x0:Qas) (l:List Qab) (l1:List Qab) (twice1:Bool):Prop:=QbK Γ rv ⟨[.c 511],⟨192,[vO 5 0 2 l1 Qab.enc,vS 6 (catS QaX r),vP 7 1 6,vB 8 twice1],[oS 2 151 l1 Qab.enc,oX 6 120 (Qas.enc x0)]⟩⟩
def Qjy (Γ:Gam) (rv:List Qab) (r:ByteArray) (x0:Qas) (l:List Qab) (r1:List Qab) (l3:List Qab) (k1:Int):Prop:=QbK Γ rv ⟨[.c 32756,.l 32756,.b 2,.c 4095],⟨192,[vO 5 0 2 l3 Qab.enc,vS 6 (catS QaX r),vP 7 1 6,vL 11 2 r1 Qab.enc,vI 12 k1],[oS 2 151 l3 Qab.enc,oX 6 120 (Qas.enc x0)]⟩⟩
def Qjd (Γ:Gam) (rv:List Qab) (r:ByteArray) (x0:Qas) (l:List Qab) (r1:List Qab) (l4:List Qab):Prop:=QbK Γ rv ⟨[.c 4095],⟨192,[vO 5 0 2 l4 Qab.enc,vS 6 (catS QaX r),vP 7 1 6],[oS 2 151 l4 Qab.enc,oX 6 120 (Qas.enc x0)]⟩⟩
def Qjz (Γ:Gam) (rv:List Qab) (r:ByteArray) (x0:Qas) (l:List Qab) (l6:List Qab) (k2:Int):Prop:=QbK Γ rv ⟨[.c 131060,.l 131060,.b 4,.c 16383],⟨192,[vO 5 0 2 l6 Qab.enc,vS 6 (catS QaX r),vP 7 1 6,vI 13 k2],[oS 2 151 l6 Qab.enc,oX 6 120 (Qas.enc x0)]⟩⟩
def Qje (Γ:Gam) (rv:List Qab) (r:ByteArray) (x0:Qas) (l:List Qab) (l7:List Qab):Prop:=QbK Γ rv ⟨[.c 16383],⟨192,[vO 5 0 2 l7 Qab.enc],[oS 2 151 l7 Qab.enc]⟩⟩
theorem QoR (Γ:Gam) (rv:List Qab) {n i r x0 l l1} {s:Bool×Int} {e:Bool} (h:loopF (fun s=>Qci n i r x0 l l1 s.1 s.2) s=some e) (hD:Qjc Γ rv n i r x0 l l1 e):Qjx Γ rv n i r x0 l l1 s.1 s.2:=by
 refine QaD (C:=fun (s:Bool×Int)=>Qjx Γ rv n i r x0 l l1 s.1 s.2) (D:=fun (e:Bool)=>Qjc Γ rv n i r x0 l l1 e) ?_ h hD
 clear h hD s e
 rintro ⟨twice,k⟩ z_ h hI hE
 replace h:Qci n i r x0 l l1 twice k=_:=h
 unfold Qci at h
 rcases Qaj h with ⟨h7,h⟩|⟨h7,h⟩
 ·obtain ⟨x1,h8,h⟩:=Qae h
  exact gn 13 [1,2,5,6,7,8,9] [0,1,2] [bT h7,cE Qas.enc h8,rp 22 hP,rp 5 (oI (twice=false)),rp 4 (oI ((twice=false)∧(eqI x0.from_ x1.from_)=true)),oI (twice=false),oI ((twice=false)∧(eqI x0.from_ x1.from_)=true),oI (twice=false),rp 4 (oI ((twice=false)∧((eqI x0.from_ x1.from_)&&(eqI x0.to_ x1.to_))=true)),oI (twice=false),oI ((twice=false)∧((eqI x0.from_ x1.from_)&&(eqI x0.to_ x1.to_))=true),oR True (twice=false)] (hI _ (oJ h))
 ·exact gn 5 [5,6,7,8] [1,2] [bF h7] (hE _ (oJ h))
theorem QoS (Γ:Gam) (rv:List Qab) {r x0 l r1} {s:List Qab×Int} {e:List Qab} (h:loopF (fun s=>Qcj r x0 l r1 s.1 s.2) s=some e) (hD:Qjd Γ rv r x0 l r1 e):Qjy Γ rv r x0 l r1 s.1 s.2:=by
 refine QaD (C:=fun (s:List Qab×Int)=>Qjy Γ rv r x0 l r1 s.1 s.2) (D:=fun (e:List Qab)=>Qjd Γ rv r x0 l r1 e) ?_ h hD
 clear h hD s e
 rintro ⟨l3,k1⟩ z_ h hI hE
 replace h:Qcj r x0 l r1 l3 k1=_:=h
 unfold Qcj at h
 rcases Qaj h with ⟨h13,h⟩|⟨h13,h⟩
 ·obtain ⟨x2,h14,h⟩:=Qae h
  obtain ⟨h15,h⟩:=Qax h
  exact gn 11 [5,6,7,11,12] [3,1] [nL Qab.enc r1,bT h13,cE Qab.enc h14,oO (Eq.refl ([(Qab.mk x2.err (catS QaX r))].map Qab.enc).length),aO Qab.enc h15] (hI _ (oJ h))
 ·exact gn 5 [5,6,7] [0,1] [nL Qab.enc r1,bF h13] (hE _ (oJ h))
theorem QoT (Γ:Gam) (rv:List Qab) {r x0 l} {s:List Qab×Int} {e:List Qab} (h:loopF (fun s=>Qck r x0 l s.1 s.2) s=some e) (hD:Qje Γ rv r x0 l e):Qjz Γ rv r x0 l s.1 s.2:=by
 refine QaD (C:=fun (s:List Qab×Int)=>Qjz Γ rv r x0 l s.1 s.2) (D:=fun (e:List Qab)=>Qje Γ rv r x0 l e) ?_ h hD
 clear h hD s e
 rintro ⟨l6,k2⟩ z_ h hI hE
 replace h:Qck r x0 l l6 k2=_:=h
 unfold Qck at h
 rcases Qaj h with ⟨h19,h⟩|⟨h19,h⟩
 ·obtain ⟨x3,h20,h⟩:=Qae h
  obtain ⟨r2,h21,h⟩:=Qae h
  rcases Qaj h with ⟨h22,h⟩|⟨h22,h⟩
  ·obtain ⟨r3,h23,h⟩:=Qae h
   rcases Qaj h with ⟨h24,h⟩|⟨h24,h⟩
   ·rcases Qaj h with ⟨h25,h⟩|⟨h25,h⟩
    ·obtain ⟨x4,h26,h⟩:=Qae h
     rcases Qaj h with ⟨h27,h⟩|⟨h27,h⟩
     ·obtain ⟨h28,h⟩:=Qax h
      exact gn 16 [5,6,7,13] [4,1] [nL Qao.enc x0.slow,bT h19,cE Qao.enc h20,hH (.draw 26 []),cC (QcY h21),rp 3 (nF h22),cC (QcY h23),rp 2 (nF h22),rp 3 (nF h24),rp 7 (bT h25),cE Qao.enc h26,rp 3 (bT h25),nF h24,bT h25,nF h24,bT h27,oO (Eq.refl ([(Qab.mk 2 (catS QaX r))].map Qab.enc).length),aO Qab.enc h28] (hI _ (oJ h))
     ·exact gn 16 [5,6,7,13] [0,1] [nL Qao.enc x0.slow,bT h19,cE Qao.enc h20,hH (.draw 26 []),cC (QcY h21),rp 3 (nF h22),cC (QcY h23),rp 2 (nF h22),rp 3 (nF h24),rp 7 (bT h25),cE Qao.enc h26,rp 3 (bT h25),nF h24,bT h25,nF h24,bF h27] (hI _ (oJ h))
    ·exact gn 16 [5,6,7,13] [0,1] [nL Qao.enc x0.slow,bT h19,cE Qao.enc h20,hH (.draw 26 []),cC (QcY h21),rp 3 (nF h22),cC (QcY h23),rp 2 (nF h22),rp 3 (nF h24),rp 10 (bF h25),nF h24,bF h25,nF h24,fF] (hI _ (oJ h))
   ·obtain ⟨h29,h⟩:=Qax h
    exact gn 16 [5,6,7,13] [4,1] [nL Qao.enc x0.slow,bT h19,cE Qao.enc h20,hH (.draw 26 []),cC (QcY h21),rp 3 (nF h22),cC (QcY h23),rp 2 (nF h22),rp 3 (nT h24),rp 10 kF,rp 2 (nT h24),tT,oO (Eq.refl ([(Qab.mk 2 (catS QaX r))].map Qab.enc).length),aO Qab.enc h29] (hI _ (oJ h))
  ·obtain ⟨h30,h⟩:=Qax h
   exact gn 16 [5,6,7,13] [4,1] [nL Qao.enc x0.slow,bT h19,cE Qao.enc h20,hH (.draw 26 []),cC (QcY h21),rp 5 (nT h22),tT,tT,tT,rp 10 kF,tT,tT,tT,oO (Eq.refl ([(Qab.mk 2 (catS QaX r))].map Qab.enc).length),aO Qab.enc h30] (hI _ (oJ h))
 ·exact gn 5 [5] [0] [nL Qao.enc x0.slow,bF h19] (hE _ (oJ h))
theorem Qjb (Γ:Gam) (rv:List Qab) {r x0 l l5} (h:QbP r x0 l l5=some rv):QbK Γ rv ⟨[.c 8191],⟨192,[vO 5 0 2 l5 Qab.enc,vS 6 (catS QaX r),vP 7 1 6],[oS 2 151 l5 Qab.enc,oX 6 120 (Qas.enc x0)]⟩⟩:=by
 unfold QbP at h
 obtain ⟨e2,h31,h⟩:=Qae h
 refine gn 5 [5,6,7,13] [0,1] [] (QoT Γ rv h31 ?_)
 obtain ⟨l7,rfl⟩:∃ x,x=e2:=⟨_,rfl⟩
 replace h:(some l7:Option (List Qab))=some _:=h
 obtain rfl:=Option.some.inj h
 exact gr 2 [] [hW 4,hH (.frz 0),rp 3 (eL l7 Qab.enc)]
theorem Qja (Γ:Gam) (rv:List Qab) {r x0 l l2} (h:Qch r x0 l l2=some rv):QbK Γ rv ⟨[.c 1023],⟨192,[vO 5 0 2 l2 Qab.enc,vS 6 (catS QaX r),vP 7 1 6],[oS 2 151 l2 Qab.enc,oX 6 120 (Qas.enc x0)]⟩⟩:=by
 unfold Qch at h
 obtain ⟨r1,h12,h⟩:=Qae h
 obtain ⟨e1,h16,h⟩:=Qae h
 refine gn 7 [5,6,7,11,12] [0,1] [cC (Qjw h12)] (QoS Γ rv h16 ?_)
 obtain ⟨l4,rfl⟩:∃ x,x=e1:=⟨_,rfl⟩
 replace h:(br (gtI (lenI x0.slow) 16) (chk (okN (l4++[(Qab.mk 4 (catS QaX r))]).length 24) (QbP r x0 l (l4++[(Qab.mk 4 (catS QaX r))]))) (QbP r x0 l l4):Option (List Qab))=some _:=h
 rcases Qaj h with ⟨h17,h⟩|⟨h17,h⟩
 ·obtain ⟨h18,h⟩:=Qax h
  exact gn 5 [5,6,7] [3,1] [nL Qao.enc x0.slow,bT h17,oO (Eq.refl ([(Qab.mk 4 (catS QaX r))].map Qab.enc).length),aO Qab.enc h18] (Qjb Γ rv h)
 ·exact gn 5 [5,6,7] [0,1] [nL Qao.enc x0.slow,bF h17] (Qjb Γ rv h)
theorem Qi9 (Γ:Gam) (rv:List Qab) {n i r x0 l l1} (h:Qds n i r x0 l l1=some rv):QbK Γ rv ⟨[.c 127],⟨192,[vI 1 i,vP 2 0 2,vO 5 1 2 l1 Qab.enc,vS 6 (catS QaX r),vP 7 2 6],[oX 2 25 (Qam.enc n),oS 2 151 l1 Qab.enc,oX 6 120 (Qas.enc x0)]⟩⟩:=by
 unfold Qds at h
 obtain ⟨e0,h9,h⟩:=Qae h
 refine gn 7 [1,2,5,6,7,8,9] [0,1,2] [] (QoR Γ rv h9 ?_)
 obtain ⟨twice1,rfl⟩:∃ x,x=e0:=⟨_,rfl⟩
 replace h:(br twice1 (chk (okN (l1++[(Qab.mk 6 (catS QaX r))]).length 24) (Qch r x0 l (l1++[(Qab.mk 6 (catS QaX r))]))) (Qch r x0 l l1):Option (List Qab))=some _:=h
 rcases Qaj h with ⟨h10,h⟩|⟨h10,h⟩
 ·obtain ⟨h11,h⟩:=Qax h
  exact gn 5 [5,6,7] [3,1] [bT h10,oO (Eq.refl ([(Qab.mk 6 (catS QaX r))].map Qab.enc).length),aO Qab.enc h11] (Qja Γ rv h)
 ·exact gn 5 [5,6,7] [0,1] [bF h10] (Qja Γ rv h)
theorem Qi8 (Γ:Gam) (rv:List Qab) {n i r x0 l} (h:Qdr n i r x0 l=some rv):QbK Γ rv ⟨[.c 63],⟨192,[vI 1 i,vP 2 0 2,vO 5 1 2 l Qab.enc,vS 6 (catS QaX r),vP 7 2 6],[oX 2 25 (Qam.enc n),oS 2 151 l Qab.enc,oX 6 120 (Qas.enc x0)]⟩⟩:=by
 unfold Qdr at h
 rcases Qaj h with ⟨h5,h⟩|⟨h5,h⟩
 ·obtain ⟨h6,h⟩:=Qax h
  exact gn 5 [1,2,5,6,7] [0,4,2] [rp 18 hP,rp 2 (oI ((ltI x0.profile 0)=false)),oR True ((ltI x0.profile 0)=false),rp 2 (oI (((ltI x0.profile 0)||(gtI x0.profile 7))=false)),oR True (((ltI x0.profile 0)||(gtI x0.profile 7))=false),rp 2 (oI ((((ltI x0.profile 0)||(gtI x0.profile 7))||(ltI x0.miles 0))=false)),oR True ((((ltI x0.profile 0)||(gtI x0.profile 7))||(ltI x0.miles 0))=false),rp 4 (oI (((((ltI x0.profile 0)||(gtI x0.profile 7))||(ltI x0.miles 0))||(gtI x0.miles 10000))=false)),oR True (((((ltI x0.profile 0)||(gtI x0.profile 7))||(ltI x0.miles 0))||(gtI x0.miles 10000))=false),bT h5,oO (Eq.refl ([(Qab.mk 2 (catS QaX r))].map Qab.enc).length),aO Qab.enc h6] (Qi9 Γ rv h)
 ·exact gn 5 [1,2,5,6,7] [0,1,2] [rp 18 hP,rp 2 (oI ((ltI x0.profile 0)=false)),oR True ((ltI x0.profile 0)=false),rp 2 (oI (((ltI x0.profile 0)||(gtI x0.profile 7))=false)),oR True (((ltI x0.profile 0)||(gtI x0.profile 7))=false),rp 2 (oI ((((ltI x0.profile 0)||(gtI x0.profile 7))||(ltI x0.miles 0))=false)),oR True ((((ltI x0.profile 0)||(gtI x0.profile 7))||(ltI x0.miles 0))=false),rp 4 (oI (((((ltI x0.profile 0)||(gtI x0.profile 7))||(ltI x0.miles 0))||(gtI x0.miles 10000))=false)),oR True (((((ltI x0.profile 0)||(gtI x0.profile 7))||(ltI x0.miles 0))||(gtI x0.miles 10000))=false),bF h5] (Qi9 Γ rv h)
theorem QqL {n i} {rv:List Qab} (h:QfO n i=some rv):AFn Tryz.prog 110 [.agg (Qam.enc n),.one (lI i)] [] (one (lL 2 rv Qab.enc)) []:=by
 refine QaM Tryz.func110 (by kernel_rfl) (by kernel_rfl) (fun Γ=>?_)
 unfold QfO at h
 obtain ⟨r,h0,h⟩:=Qae h
 obtain ⟨h1,h⟩:=Qax h
 obtain ⟨x0,h2,h⟩:=Qae h
 rcases Qaj h with ⟨h3,h⟩|⟨h3,h⟩
 ·obtain ⟨h4,h⟩:=Qax h
  exact gn 13 [1,2,5,6,7] [0,3,1] [cC (Qb4 h0),oO (h1),cE Qas.enc h2,rp 5 hP,rp 3 (oI ((ltI x0.from_ 0)=false)),nL e_str n.places,rp 11 hP,rp 2 (oI ((ltI x0.from_ 0)=false)),oR True ((ltI x0.from_ 0)=false),rp 2 (oI (((ltI x0.from_ 0)||(geI x0.from_ (lenI n.places)))=false)),oR True (((ltI x0.from_ 0)||(geI x0.from_ (lenI n.places)))=false),rp 3 (oI ((((ltI x0.from_ 0)||(geI x0.from_ (lenI n.places)))||(ltI x0.to_ 0))=false)),nL e_str n.places,hP,hP,rp 2 (oI ((((ltI x0.from_ 0)||(geI x0.from_ (lenI n.places)))||(ltI x0.to_ 0))=false)),oR True ((((ltI x0.from_ 0)||(geI x0.from_ (lenI n.places)))||(ltI x0.to_ 0))=false),bT h3,oO (Eq.refl ([(Qab.mk 11 (catS QaX r))].map Qab.enc).length),aN (l:=([(Qab.mk 11 (catS QaX r))]:List Qab)) Qab.enc h4] (Qi8 Γ rv h)
 ·exact gn 13 [1,2,5,6,7] [0,2,1] [cC (Qb4 h0),oO (h1),cE Qas.enc h2,rp 5 hP,rp 3 (oI ((ltI x0.from_ 0)=false)),nL e_str n.places,rp 11 hP,rp 2 (oI ((ltI x0.from_ 0)=false)),oR True ((ltI x0.from_ 0)=false),rp 2 (oI (((ltI x0.from_ 0)||(geI x0.from_ (lenI n.places)))=false)),oR True (((ltI x0.from_ 0)||(geI x0.from_ (lenI n.places)))=false),rp 3 (oI ((((ltI x0.from_ 0)||(geI x0.from_ (lenI n.places)))||(ltI x0.to_ 0))=false)),nL e_str n.places,hP,hP,rp 2 (oI ((((ltI x0.from_ 0)||(geI x0.from_ (lenI n.places)))||(ltI x0.to_ 0))=false)),oR True ((((ltI x0.from_ 0)||(geI x0.from_ (lenI n.places)))||(ltI x0.to_ 0))=false),bF h3,hW 1,hH (.adopt 5 2 151)] (Qi8 Γ rv h)
def QcJ (Γ:Gam) (rv:List Qab) (cf:Cf):Prop:=Go Tryz.prog Tryz.f109 [] Γ (one (lO 0 2 rv Qab.enc)) [oS 2 151 rv Qab.enc] cf
def QgE (Γ:Gam) (rv:List Qab) (n:Qam) (l:List Qab) (l1:List Qab) (i:Int) (r:ByteArray) (twice:Bool) (k:Int):Prop:=QcJ Γ rv ⟨[.c 250484,.l 250484,.b 2,.c 31311,.b 1,.c 979,.l 244,.b 0,.c 31],⟨64,[vP 1 0 2,vO 3 1 2 l1 Qab.enc,vI 4 i,vS 5 (catS QdR r),vB 6 twice,vI 7 k],[oX 2 25 (Qam.enc n),oS 2 151 l1 Qab.enc]⟩⟩
def Qgn (Γ:Gam) (rv:List Qab) (n:Qam) (l:List Qab) (l1:List Qab) (i:Int) (r:ByteArray) (twice1:Bool):Prop:=QcJ Γ rv ⟨[.c 31311,.b 1,.c 979,.l 244,.b 0,.c 31],⟨64,[vP 1 0 2,vO 3 1 2 l1 Qab.enc,vI 4 i,vS 5 (catS QdR r),vB 6 twice1],[oX 2 25 (Qam.enc n),oS 2 151 l1 Qab.enc]⟩⟩
def QgD (Γ:Gam) (rv:List Qab) (n:Qam) (l:List Qab) (l1:List Qab) (i:Int):Prop:=QcJ Γ rv ⟨[.c 244,.l 244,.b 0,.c 31],⟨64,[vP 1 0 2,vO 3 1 2 l1 Qab.enc,vI 4 i],[oX 2 25 (Qam.enc n),oS 2 151 l1 Qab.enc]⟩⟩
def Qgm (Γ:Gam) (rv:List Qab) (n:Qam) (l:List Qab) (l2:List Qab):Prop:=QcJ Γ rv ⟨[.c 31],⟨64,[vO 3 0 2 l2 Qab.enc],[oS 2 151 l2 Qab.enc]⟩⟩
theorem Qko (Γ:Gam) (rv:List Qab) {n l l1 i r} {s:Bool×Int} {e:Bool} (h:loopF (fun s=>Qbh n l l1 i r s.1 s.2) s=some e) (hD:Qgn Γ rv n l l1 i r e):QgE Γ rv n l l1 i r s.1 s.2:=by
 refine QaD (C:=fun (s:Bool×Int)=>QgE Γ rv n l l1 i r s.1 s.2) (D:=fun (e:Bool)=>Qgn Γ rv n l l1 i r e) ?_ h hD
 clear h hD s e
 rintro ⟨twice,k⟩ z_ h hI hE
 replace h:Qbh n l l1 i r twice k=_:=h
 unfold Qbh at h
 rcases Qaj h with ⟨h8,h⟩|⟨h8,h⟩
 ·rcases Qaj h with ⟨h9,h⟩|⟨h9,h⟩
  ·exact gn 11 [1,3,4,5,6,7] [0,1] [bT h8,hH (.draw 14 []),rp 12 (bT h9)] (hI _ (oJ h))
  ·obtain ⟨x1,h10,h⟩:=Qae h
   obtain ⟨x2,h11,h⟩:=Qae h
   exact gn 11 [1,3,4,5,6,7] [0,1] [bT h8,hH (.draw 14 []),rp 4 (bF h9),cE e_str h10,rp 5 (bF h9),cE e_str h11,rp 3 (bF h9)] (hI _ (oJ h))
 ·exact gn 5 [1,3,4,5,6] [0,1] [bF h8] (hE _ (oJ h))
theorem Qkn (Γ:Gam) (rv:List Qab) {n l} {s:List Qab×Int} {e:List Qab} (h:loopF (fun s=>Qbg n l s.1 s.2) s=some e) (hD:Qgm Γ rv n l e):QgD Γ rv n l s.1 s.2:=by
 refine QaD (C:=fun (s:List Qab×Int)=>QgD Γ rv n l s.1 s.2) (D:=fun (e:List Qab)=>Qgm Γ rv n l e) ?_ h hD
 clear h hD s e
 rintro ⟨l1,i⟩ z_ h hI hE
 replace h:Qbg n l l1 i=_:=h
 unfold Qbg at h
 rcases Qaj h with ⟨h2,h⟩|⟨h2,h⟩
 ·obtain ⟨r,h3,h⟩:=Qae h
  obtain ⟨h4,h⟩:=Qax h
  obtain ⟨x0,h5,h⟩:=Qae h
  obtain ⟨r1,h6,h⟩:=Qae h
  rcases Qaj h with ⟨h7,h⟩|⟨h7,h⟩
  ·obtain ⟨e0,h12,h⟩:=Qae h
   refine gn 21 [1,3,4,5,6,7] [0,1] [nL e_str n.places,bT h2,cC (Qb4 h3),oO (h4),cE e_str h5,cC (Qfc h6),nF h7] (Qko Γ rv h12 ?_)
   obtain ⟨twice1,rfl⟩:∃ x,x=e0:=⟨_,rfl⟩
   replace h:(br twice1 (chk (okN (l1++[(Qab.mk 6 (catS QdR r))]).length 24) (some (.inl ((l1++[(Qab.mk 6 (catS QdR r))]),(addK .i64 i 1))))) (some (.inl (l1,(addK .i64 i 1)))):Option ((List Qab×Int)⊕(List Qab)))=some _:=h
   rcases Qaj h with ⟨h13,h⟩|⟨h13,h⟩
   ·obtain ⟨h14,h⟩:=Qax h
    exact gn 7 [1,3,4] [0,3] [bT h13,oO (Eq.refl ([(Qab.mk 6 (catS QdR r))].map Qab.enc).length),aO Qab.enc h14] (hI _ (oJ h))
   ·exact gn 7 [1,3,4] [0,1] [bF h13] (hI _ (oJ h))
  ·obtain ⟨h15,h⟩:=Qax h
   exact gn 18 [1,3,4] [0,3] [nL e_str n.places,bT h2,cC (Qb4 h3),oO (h4),cE e_str h5,cC (Qfc h6),nT h7,oO (Eq.refl ([(Qab.mk 5 (catS QdR r))].map Qab.enc).length),aO Qab.enc h15] (hI _ (oJ h))
 ·exact gn 5 [3] [1] [nL e_str n.places,bF h2] (hE _ (oJ h))
theorem Qgl (Γ:Gam) (rv:List Qab) {n l} (h:Qcy n l=some rv):QcJ Γ rv ⟨[.c 15],⟨64,[vP 1 0 2,vO 3 1 2 l Qab.enc],[oX 2 25 (Qam.enc n),oS 2 151 l Qab.enc]⟩⟩:=by
 unfold Qcy at h
 obtain ⟨e1,h16,h⟩:=Qae h
 refine gn 5 [1,3,4] [0,1] [] (Qkn Γ rv h16 ?_)
 obtain ⟨l2,rfl⟩:∃ x,x=e1:=⟨_,rfl⟩
 replace h:(some l2:Option (List Qab))=some _:=h
 obtain rfl:=Option.some.inj h
 exact gr 2 [0] []
theorem Qhu {n} {rv:List Qab} (h:Qdi n=some rv):AFn Tryz.prog 109 [.agg (Qam.enc n)] [] (one (lO 0 2 rv Qab.enc)) [oS 2 151 rv Qab.enc]:=by
 refine QaM Tryz.func109 (by kernel_rfl) (by kernel_rfl) (fun Γ=>?_)
 unfold Qdi at h
 rcases Qaj h with ⟨h0,h⟩|⟨h0,h⟩
 ·obtain ⟨h1,h⟩:=Qax h
  exact gn 9 [1,3] [0,2] [nL e_str n.places,bT h0,oO (Eq.refl ([(Qab.mk 4 QlE)].map Qab.enc).length),aN (l:=([(Qab.mk 4 QlE)]:List Qab)) Qab.enc h1] (Qgl Γ rv h)
 ·exact gn 9 [1,3] [0,1] [nL e_str n.places,bF h0,hW 1,hH (.adopt 3 2 151)] (Qgl Γ rv h)
def Qkm (Γ:Gam) (rv:List Qab) (cf:Cf):Prop:=Go Tryz.prog Tryz.f72 [] Γ (one (lL 2 rv Qab.enc)) [] cf
def Ql8 (Γ:Gam) (rv:List Qab) (n:Qam) (l:List Qab) (l1:List Qab) (i:Int):Prop:=Qkm Γ rv ⟨[.c 244,.l 244,.b 0,.c 31],⟨28,[vP 1 0 2,vO 3 1 2 l1 Qab.enc,vI 4 i],[oX 2 25 (Qam.enc n),oS 2 151 l1 Qab.enc]⟩⟩
def QkP (Γ:Gam) (rv:List Qab) (n:Qam) (l:List Qab) (l2:List Qab):Prop:=Qkm Γ rv ⟨[.c 31],⟨28,[vO 3 0 2 l2 Qab.enc],[oS 2 151 l2 Qab.enc]⟩⟩
theorem QqK (Γ:Gam) (rv:List Qab) {n l} {s:List Qab×Int} {e:List Qab} (h:loopF (fun s=>Qc9 n l s.1 s.2) s=some e) (hD:QkP Γ rv n l e):Ql8 Γ rv n l s.1 s.2:=by
 refine QaD (C:=fun (s:List Qab×Int)=>Ql8 Γ rv n l s.1 s.2) (D:=fun (e:List Qab)=>QkP Γ rv n l e) ?_ h hD
 clear h hD s e
 rintro ⟨l1,i⟩ z_ h hI hE
 replace h:Qc9 n l l1 i=_:=h
 unfold Qc9 at h
 rcases Qaj h with ⟨h3,h⟩|⟨h3,h⟩
 ·obtain ⟨r1,h4,h⟩:=Qae h
  obtain ⟨h5,h⟩:=Qax h
  exact gn 11 [1,3,4] [0,2] [nL Qas.enc n.arcs,bT h3,cC (QqL h4),aO Qab.enc h5] (hI _ (oJ h))
 ·exact gn 5 [3] [1] [nL Qas.enc n.arcs,bF h3] (hE _ (oJ h))
theorem QkO (Γ:Gam) (rv:List Qab) {n l} (h:QfN n l=some rv):Qkm Γ rv ⟨[.c 15],⟨28,[vP 1 0 2,vO 3 1 2 l Qab.enc],[oX 2 25 (Qam.enc n),oS 2 151 l Qab.enc]⟩⟩:=by
 unfold QfN at h
 obtain ⟨e0,h6,h⟩:=Qae h
 refine gn 5 [1,3,4] [0,1] [] (QqK Γ rv h6 ?_)
 obtain ⟨l2,rfl⟩:∃ x,x=e0:=⟨_,rfl⟩
 replace h:(some l2:Option (List Qab))=some _:=h
 obtain rfl:=Option.some.inj h
 exact gr 2 [] [hW 4,hH (.frz 0),rp 3 (eL l2 Qab.enc)]
theorem QsP {n} {rv:List Qab} (h:QhJ n=some rv):AFn Tryz.prog 72 [.agg (Qam.enc n)] [] (one (lL 2 rv Qab.enc)) []:=by
 refine QaM Tryz.func72 (by kernel_rfl) (by kernel_rfl) (fun Γ=>?_)
 unfold QhJ at h
 obtain ⟨r,h0,h⟩:=Qae h
 rcases Qaj h with ⟨h1,h⟩|⟨h1,h⟩
 ·obtain ⟨h2,h⟩:=Qax h
  exact gn 9 [1,3] [0,3] [cC (Qhu h0),nL Qas.enc n.arcs,bT h1,oO (Eq.refl ([(Qab.mk 4 QrA)].map Qab.enc).length),aO Qab.enc h2] (QkO Γ rv h)
 ·exact gn 9 [1,3] [0,1] [cC (Qhu h0),nL Qas.enc n.arcs,bF h1] (QkO Γ rv h)
theorem Qan {n lo hi} {rv:Bool} (h:QaV n lo hi=some rv):AFn Tryz.prog 111 [.one (lI n),.one (lI lo),.one (lI hi)] [] (one (.bool rv)) []:=by
 refine QaM Tryz.func111 (by kernel_rfl) (by kernel_rfl) (fun Γ=>?_)
 unfold QaV at h
 obtain rfl:=Option.some.inj h
 exact gr 4 [] [rp 4 hP,rp 2 (oI ((geI n lo)=true)),oR True ((geI n lo)=true)]
theorem Qgp {l} {rv:Int} (h:Qf5 l=some rv):AFn Tryz.prog 75 [.one (lL 14 l Qai.enc)] [] (one (lI rv)) []:=by
 refine QaM Tryz.func75 (by kernel_rfl) (by kernel_rfl) (fun Γ=>?_)
 unfold Qf5 at h
 rcases Qaj h with ⟨h0,h⟩|⟨h0,h⟩
 ·obtain rfl:=Option.some.inj h
  exact gr 8 [] [nL Qai.enc l,bT h0]
 ·obtain ⟨x0,h1,h⟩:=Qae h
  obtain rfl:=Option.some.inj h
  exact gr 9 [] [nL Qai.enc l,bF h0,cE Qai.enc h1,nL e_i64 x0.cap]
def QoW (Γ:Gam) (rv:Bool) (cf:Cf):Prop:=Go Tryz.prog Tryz.f160 [] Γ (one (.bool rv)) [] cf
def Qme (Γ:Gam) (rv:Bool) (l:List Qai) (at_:Int) (name:ByteArray) (i:Int):Prop:=QoW Γ rv ⟨[.c 52,.l 52,.b 0,.c 7],⟨20,[vL 0 14 l Qai.enc,vI 1 at_,vS 2 name,vI 7 i],[]⟩⟩
def QkT (Γ:Gam) (rv:Bool) (l:List Qai) (at_:Int) (name:ByteArray):Prop:=QoW Γ rv ⟨[.c 7],⟨20,[],[]⟩⟩
theorem QqO (Γ:Gam) (rv:Bool) {l at_ name} {s:Int} {e:(Unit)⊕(Bool)} (h:loopF (fun s=>Qcz l at_ name s) s=some e) (hD:sel e (fun e=>QkT Γ rv l at_ name) (fun e=>e=rv)):Qme Γ rv l at_ name s:=by
 refine QaD (C:=fun (s:Int)=>Qme Γ rv l at_ name s) (D:=fun (e:(Unit)⊕(Bool))=>sel e (fun e=>QkT Γ rv l at_ name) (fun e=>e=rv)) ?_ h hD
 clear h hD s e
 intro i z_ h hI hE
 replace h:Qcz l at_ name i=_:=h
 unfold Qcz at h
 rcases Qaj h with ⟨h0,h⟩|⟨h0,h⟩
 ·obtain ⟨x0,h1,h⟩:=Qae h
  rcases Qaj h with ⟨h2,h⟩|⟨h2,h⟩
  ·obtain rfl:=(hE _ (oJ h):_=rv)
   exact gr 12 [] [bT h0,cE Qai.enc h1,bT h2]
  ·exact gn 14 [0,1,2,7] [] [bT h0,cE Qai.enc h1,bF h2] (hI _ (oJ h))
 ·exact gn 5 [] [] [bF h0] (hE _ (oJ h))
theorem QnV {l at_ name} {rv:Bool} (h:QhL l at_ name=some rv):AFn Tryz.prog 160 [.one (lL 14 l Qai.enc),.one (lI at_),.one (.str name)] [] (one (.bool rv)) []:=by
 refine QaM Tryz.func160 (by kernel_rfl) (by kernel_rfl) (fun Γ=>?_)
 unfold QhL at h
 obtain ⟨e0,h3,h⟩:=Qae h
 refine gn 7 [0,1,2,7] [] [] (QqO Γ rv h3 ?_)
 rcases e0 with e0|e0
 ·replace h:(some false:Option Bool)=some _:=h
  obtain rfl:=Option.some.inj h
  exact gr 2 [] []
 ·obtain ⟨r,rfl⟩:∃ x,x=e0:=⟨_,rfl⟩
  replace h:(some r:Option Bool)=some _:=h
  exact Option.some.inj h
def Qmd (Γ:Gam) (rv:Bool) (cf:Cf):Prop:=Go Tryz.prog Tryz.f161 [] Γ (one (.bool rv)) [] cf
def QjA (Γ:Gam) (rv:Bool) (l:List Int) (i:Int):Prop:=Qmd Γ rv ⟨[.c 116,.l 116,.b 0,.c 15],⟨28,[vL 0 1 l e_i64,vI 5 i],[]⟩⟩
def Qjf (Γ:Gam) (rv:Bool) (l:List Int):Prop:=Qmd Γ rv ⟨[.c 15],⟨28,[],[]⟩⟩
theorem QoV (Γ:Gam) (rv:Bool) {l} {s:Int} {e:(Unit)⊕(Bool)} (h:loopF (fun s=>QbQ l s) s=some e) (hD:sel e (fun e=>Qjf Γ rv l) (fun e=>e=rv)):QjA Γ rv l s:=by
 refine QaD (C:=fun (s:Int)=>QjA Γ rv l s) (D:=fun (e:(Unit)⊕(Bool))=>sel e (fun e=>Qjf Γ rv l) (fun e=>e=rv)) ?_ h hD
 clear h hD s e
 intro i z_ h hI hE
 replace h:QbQ l i=_:=h
 unfold QbQ at h
 rcases Qaj h with ⟨h2,h⟩|⟨h2,h⟩
 ·obtain ⟨x0,h3,h⟩:=Qae h
  obtain ⟨r1,h4,h⟩:=Qae h
  rcases Qaj h with ⟨h5,h⟩|⟨h5,h⟩
  ·exact gn 14 [0,5] [] [nL e_i64 l,bT h2,cE e_i64 h3,cC (Qan h4),nF h5] (hI _ (oJ h))
  ·obtain rfl:=(hE _ (oJ h):_=rv)
   exact gr 12 [] [nL e_i64 l,bT h2,cE e_i64 h3,cC (Qan h4),nT h5]
 ·exact gn 5 [] [] [nL e_i64 l,bF h2] (hE _ (oJ h))
theorem QfQ {l dims} {rv:Bool} (h:QeA l dims=some rv):AFn Tryz.prog 161 [.one (lL 1 l e_i64),.one (lI dims)] [] (one (.bool rv)) []:=by
 refine QaM Tryz.func161 (by kernel_rfl) (by kernel_rfl) (fun Γ=>?_)
 unfold QeA at h
 obtain ⟨r,h0,h⟩:=Qae h
 rcases Qaj h with ⟨h1,h⟩|⟨h1,h⟩
 ·obtain rfl:=Option.some.inj h
  exact gr 8 [] [nL e_i64 l,cC (Qan h0),hP,hP,oI ((!r)=false),nL e_i64 l,hP,hP,hP,rp 2 (oI ((!r)=false)),oR True ((!r)=false),bT h1]
 ·obtain ⟨e0,h6,h⟩:=Qae h
  refine gn 12 [0,5] [] [nL e_i64 l,cC (Qan h0),hP,hP,oI ((!r)=false),nL e_i64 l,hP,hP,hP,rp 2 (oI ((!r)=false)),oR True ((!r)=false),bF h1] (QoV Γ rv h6 ?_)
  rcases e0 with e0|e0
  ·replace h:(some true:Option Bool)=some _:=h
   obtain rfl:=Option.some.inj h
   exact gr 2 [] []
  ·obtain ⟨r2,rfl⟩:∃ x,x=e0:=⟨_,rfl⟩
   replace h:(some r2:Option Bool)=some _:=h
   exact Option.some.inj h
def QbN (Γ:Gam) (rv:List Int) (cf:Cf):Prop:=Go Tryz.prog Tryz.f112 [] Γ (one (lL 1 rv e_i64)) [] cf
theorem Qk1 (Γ:Gam) (rv:List Int) {x0 l8} (h:QeI x0 l8=some rv):QbN Γ rv ⟨[.c 4095],⟨125,[vP 7 0 14,vO 8 1 1 l8 e_i64],[oX 14 94 (Qai.enc x0),oS 1 40 l8 e_i64]⟩⟩:=by
 unfold QeI at h
 obtain ⟨r11,h30,h⟩:=Qae h
 rcases Qaj h with ⟨h31,h⟩|⟨h31,h⟩
 ·obtain ⟨r12,h32,h⟩:=Qae h
  rcases Qaj h with ⟨h33,h⟩|⟨h33,h⟩
  ·obtain ⟨r13,h34,h⟩:=Qae h
   rcases Qaj h with ⟨h35,h⟩|⟨h35,h⟩
   ·obtain ⟨r14,h36,h⟩:=Qae h
    rcases Qaj h with ⟨h37,h⟩|⟨h37,h⟩
    ·obtain rfl:=Option.some.inj h
     exact gr 7 [] [cC (Qan h30),rp 3 (nF h31),cC (Qan h32),rp 2 (nF h31),rp 3 (nF h33),cC (Qan h34),rp 2 (nF h33),rp 3 (nF h35),cC (Qan h36),rp 2 (nF h35),nF h37,hW 5,hH (.frz 1),rp 3 (eL l8 e_i64)]
    ·obtain ⟨h38,h⟩:=Qax h
     obtain rfl:=Option.some.inj h
     exact gr 7 [] [cC (Qan h30),rp 3 (nF h31),cC (Qan h32),rp 2 (nF h31),rp 3 (nF h33),cC (Qan h34),rp 2 (nF h33),rp 3 (nF h35),cC (Qan h36),rp 2 (nF h35),nT h37,oO (Eq.refl ([2].map e_i64).length),aO e_i64 h38,hW 5,hH (.frz 3),rp 4 (oO (Eq.refl ((l8++[2]).map e_i64).length))]
   ·obtain ⟨h39,h⟩:=Qax h
    obtain rfl:=Option.some.inj h
    exact gr 7 [] [cC (Qan h30),rp 3 (nF h31),cC (Qan h32),rp 2 (nF h31),rp 3 (nF h33),cC (Qan h34),rp 2 (nF h33),rp 5 (nT h35),tT,oO (Eq.refl ([2].map e_i64).length),aO e_i64 h39,hW 5,hH (.frz 3),rp 4 (oO (Eq.refl ((l8++[2]).map e_i64).length))]
  ·obtain ⟨h40,h⟩:=Qax h
   obtain rfl:=Option.some.inj h
   exact gr 7 [] [cC (Qan h30),rp 3 (nF h31),cC (Qan h32),rp 2 (nF h31),rp 5 (nT h33),rp 6 tT,oO (Eq.refl ([2].map e_i64).length),aO e_i64 h40,hW 5,hH (.frz 3),rp 4 (oO (Eq.refl ((l8++[2]).map e_i64).length))]
 ·obtain ⟨h41,h⟩:=Qax h
  obtain rfl:=Option.some.inj h
  exact gr 7 [] [cC (Qan h30),rp 5 (nT h31),rp 11 tT,oO (Eq.refl ([2].map e_i64).length),aO e_i64 h41,hW 5,hH (.frz 3),rp 4 (oO (Eq.refl ((l8++[2]).map e_i64).length))]
theorem Qk0 (Γ:Gam) (rv:List Int) {x0 l7} (h:QeH x0 l7=some rv):QbN Γ rv ⟨[.c 2047],⟨125,[vP 7 0 14,vO 8 1 1 l7 e_i64],[oX 14 94 (Qai.enc x0),oS 1 40 l7 e_i64]⟩⟩:=by
 unfold QeH at h
 obtain ⟨r9,h25,h⟩:=Qae h
 rcases Qaj h with ⟨h26,h⟩|⟨h26,h⟩
 ·obtain ⟨r10,h27,h⟩:=Qae h
  rcases Qaj h with ⟨h28,h⟩|⟨h28,h⟩
  ·exact gn 5 [7,8] [0,1] [cC (Qan h25),rp 3 (nF h26),cC (Qan h27),rp 2 (nF h26),nF h28] (Qk1 Γ rv h)
  ·obtain ⟨h29,h⟩:=Qax h
   exact gn 5 [7,8] [0,3] [cC (Qan h25),rp 3 (nF h26),cC (Qan h27),rp 2 (nF h26),nT h28,oO (Eq.refl ([16].map e_i64).length),aO e_i64 h29] (Qk1 Γ rv h)
 ·obtain ⟨h42,h⟩:=Qax h
  obtain ⟨r15,h43,h⟩:=Qae h
  rcases Qaj h with ⟨h44,h⟩|⟨h44,h⟩
  ·obtain ⟨r16,h45,h⟩:=Qae h
   rcases Qaj h with ⟨h46,h⟩|⟨h46,h⟩
   ·obtain ⟨r17,h47,h⟩:=Qae h
    rcases Qaj h with ⟨h48,h⟩|⟨h48,h⟩
    ·obtain ⟨r18,h49,h⟩:=Qae h
     rcases Qaj h with ⟨h50,h⟩|⟨h50,h⟩
     ·obtain rfl:=Option.some.inj h
      exact gr 12 [] [cC (Qan h25),rp 5 (nT h26),tT,oO (Eq.refl ([16].map e_i64).length),aO e_i64 h42,cC (Qan h43),rp 3 (nF h44),cC (Qan h45),rp 2 (nF h44),rp 3 (nF h46),cC (Qan h47),rp 2 (nF h46),rp 3 (nF h48),cC (Qan h49),rp 2 (nF h48),nF h50,hW 5,hH (.frz 3),rp 4 (oO (Eq.refl ((l7++[16]).map e_i64).length))]
     ·obtain ⟨h51,h⟩:=Qax h
      obtain rfl:=Option.some.inj h
      exact gr 12 [] [cC (Qan h25),rp 5 (nT h26),tT,oO (Eq.refl ([16].map e_i64).length),aO e_i64 h42,cC (Qan h43),rp 3 (nF h44),cC (Qan h45),rp 2 (nF h44),rp 3 (nF h46),cC (Qan h47),rp 2 (nF h46),rp 3 (nF h48),cC (Qan h49),rp 2 (nF h48),nT h50,oO (Eq.refl ([2].map e_i64).length),aO e_i64 h51,hW 5,hH (.frz 5),rp 4 (oO (Eq.refl (((l7++[16])++[2]).map e_i64).length))]
    ·obtain ⟨h52,h⟩:=Qax h
     obtain rfl:=Option.some.inj h
     exact gr 12 [] [cC (Qan h25),rp 5 (nT h26),tT,oO (Eq.refl ([16].map e_i64).length),aO e_i64 h42,cC (Qan h43),rp 3 (nF h44),cC (Qan h45),rp 2 (nF h44),rp 3 (nF h46),cC (Qan h47),rp 2 (nF h46),rp 5 (nT h48),tT,oO (Eq.refl ([2].map e_i64).length),aO e_i64 h52,hW 5,hH (.frz 5),rp 4 (oO (Eq.refl (((l7++[16])++[2]).map e_i64).length))]
   ·obtain ⟨h53,h⟩:=Qax h
    obtain rfl:=Option.some.inj h
    exact gr 12 [] [cC (Qan h25),rp 5 (nT h26),tT,oO (Eq.refl ([16].map e_i64).length),aO e_i64 h42,cC (Qan h43),rp 3 (nF h44),cC (Qan h45),rp 2 (nF h44),rp 5 (nT h46),rp 6 tT,oO (Eq.refl ([2].map e_i64).length),aO e_i64 h53,hW 5,hH (.frz 5),rp 4 (oO (Eq.refl (((l7++[16])++[2]).map e_i64).length))]
  ·obtain ⟨h54,h⟩:=Qax h
   obtain rfl:=Option.some.inj h
   exact gr 12 [] [cC (Qan h25),rp 5 (nT h26),tT,oO (Eq.refl ([16].map e_i64).length),aO e_i64 h42,cC (Qan h43),rp 5 (nT h44),rp 11 tT,oO (Eq.refl ([2].map e_i64).length),aO e_i64 h54,hW 5,hH (.frz 5),rp 4 (oO (Eq.refl (((l7++[16])++[2]).map e_i64).length))]
theorem QkZ (Γ:Gam) (rv:List Int) {x0 l6} (h:QeG x0 l6=some rv):QbN Γ rv ⟨[.c 1023],⟨125,[vP 7 0 14,vO 8 1 1 l6 e_i64],[oX 14 94 (Qai.enc x0),oS 1 40 l6 e_i64]⟩⟩:=by
 unfold QeG at h
 obtain ⟨r8,h22,h⟩:=Qae h
 rcases Qaj h with ⟨h23,h⟩|⟨h23,h⟩
 ·obtain ⟨h24,h⟩:=Qax h
  exact gn 5 [7,8] [0,3] [cC (Qan h22),rp 4 hP,rp 2 (oI ((!r8)=false)),oR True ((!r8)=false),bT h23,oO (Eq.refl ([15].map e_i64).length),aO e_i64 h24] (Qk0 Γ rv h)
 ·exact gn 5 [7,8] [0,1] [cC (Qan h22),rp 4 hP,rp 2 (oI ((!r8)=false)),oR True ((!r8)=false),bF h23] (Qk0 Γ rv h)
theorem QkY (Γ:Gam) (rv:List Int) {x0 l5} (h:QeF x0 l5=some rv):QbN Γ rv ⟨[.c 511],⟨125,[vP 7 0 14,vO 8 1 1 l5 e_i64],[oX 14 94 (Qai.enc x0),oS 1 40 l5 e_i64]⟩⟩:=by
 unfold QeF at h
 obtain ⟨r7,h19,h⟩:=Qae h
 rcases Qaj h with ⟨h20,h⟩|⟨h20,h⟩
 ·exact gn 5 [7,8] [0,1] [cC (Qan h19),nF h20] (QkZ Γ rv h)
 ·obtain ⟨h21,h⟩:=Qax h
  exact gn 5 [7,8] [0,3] [cC (Qan h19),nT h20,oO (Eq.refl ([18].map e_i64).length),aO e_i64 h21] (QkZ Γ rv h)
theorem QkX (Γ:Gam) (rv:List Int) {l x0 l4} (h:QeE l x0 l4=some rv):QbN Γ rv ⟨[.c 255],⟨125,[vL 1 14 l Qai.enc,vP 7 0 14,vO 8 1 1 l4 e_i64],[oX 14 94 (Qai.enc x0),oS 1 40 l4 e_i64]⟩⟩:=by
 unfold QeE at h
 obtain ⟨r5,h15,h⟩:=Qae h
 obtain ⟨r6,h16,h⟩:=Qae h
 rcases Qaj h with ⟨h17,h⟩|⟨h17,h⟩
 ·exact gn 5 [7,8] [0,1] [hH (.draw 6 []),cC (Qgp h15),cC (QfQ h16),nF h17] (QkY Γ rv h)
 ·obtain ⟨h18,h⟩:=Qax h
  exact gn 5 [7,8] [0,3] [hH (.draw 6 []),cC (Qgp h15),cC (QfQ h16),nT h17,oO (Eq.refl ([17].map e_i64).length),aO e_i64 h18] (QkY Γ rv h)
theorem Qj3 (Γ:Gam) (rv:List Int) {x0 l12} (h:QgQ x0 l12=some rv):QbN Γ rv ⟨[.c 4095],⟨125,[vP 7 0 14,vO 8 1 1 l12 e_i64],[oX 14 94 (Qai.enc x0),oS 1 40 l12 e_i64]⟩⟩:=by
 unfold QgQ at h
 obtain ⟨r25,h71,h⟩:=Qae h
 rcases Qaj h with ⟨h72,h⟩|⟨h72,h⟩
 ·obtain ⟨r26,h73,h⟩:=Qae h
  rcases Qaj h with ⟨h74,h⟩|⟨h74,h⟩
  ·obtain ⟨r27,h75,h⟩:=Qae h
   rcases Qaj h with ⟨h76,h⟩|⟨h76,h⟩
   ·obtain ⟨r28,h77,h⟩:=Qae h
    rcases Qaj h with ⟨h78,h⟩|⟨h78,h⟩
    ·obtain rfl:=Option.some.inj h
     exact gr 7 [] [cC (Qan h71),rp 3 (nF h72),cC (Qan h73),rp 2 (nF h72),rp 3 (nF h74),cC (Qan h75),rp 2 (nF h74),rp 3 (nF h76),cC (Qan h77),rp 2 (nF h76),nF h78,hW 5,hH (.frz 1),rp 3 (eL l12 e_i64)]
    ·obtain ⟨h79,h⟩:=Qax h
     obtain rfl:=Option.some.inj h
     exact gr 7 [] [cC (Qan h71),rp 3 (nF h72),cC (Qan h73),rp 2 (nF h72),rp 3 (nF h74),cC (Qan h75),rp 2 (nF h74),rp 3 (nF h76),cC (Qan h77),rp 2 (nF h76),nT h78,oO (Eq.refl ([2].map e_i64).length),aO e_i64 h79,hW 5,hH (.frz 3),rp 4 (oO (Eq.refl ((l12++[2]).map e_i64).length))]
   ·obtain ⟨h80,h⟩:=Qax h
    obtain rfl:=Option.some.inj h
    exact gr 7 [] [cC (Qan h71),rp 3 (nF h72),cC (Qan h73),rp 2 (nF h72),rp 3 (nF h74),cC (Qan h75),rp 2 (nF h74),rp 5 (nT h76),tT,oO (Eq.refl ([2].map e_i64).length),aO e_i64 h80,hW 5,hH (.frz 3),rp 4 (oO (Eq.refl ((l12++[2]).map e_i64).length))]
  ·obtain ⟨h81,h⟩:=Qax h
   obtain rfl:=Option.some.inj h
   exact gr 7 [] [cC (Qan h71),rp 3 (nF h72),cC (Qan h73),rp 2 (nF h72),rp 5 (nT h74),rp 6 tT,oO (Eq.refl ([2].map e_i64).length),aO e_i64 h81,hW 5,hH (.frz 3),rp 4 (oO (Eq.refl ((l12++[2]).map e_i64).length))]
 ·obtain ⟨h82,h⟩:=Qax h
  obtain rfl:=Option.some.inj h
  exact gr 7 [] [cC (Qan h71),rp 5 (nT h72),rp 11 tT,oO (Eq.refl ([2].map e_i64).length),aO e_i64 h82,hW 5,hH (.frz 3),rp 4 (oO (Eq.refl ((l12++[2]).map e_i64).length))]
theorem Qj2 (Γ:Gam) (rv:List Int) {x0 l11} (h:QgP x0 l11=some rv):QbN Γ rv ⟨[.c 2047],⟨125,[vP 7 0 14,vO 8 1 1 l11 e_i64],[oX 14 94 (Qai.enc x0),oS 1 40 l11 e_i64]⟩⟩:=by
 unfold QgP at h
 obtain ⟨r23,h66,h⟩:=Qae h
 rcases Qaj h with ⟨h67,h⟩|⟨h67,h⟩
 ·obtain ⟨r24,h68,h⟩:=Qae h
  rcases Qaj h with ⟨h69,h⟩|⟨h69,h⟩
  ·exact gn 5 [7,8] [0,1] [cC (Qan h66),rp 3 (nF h67),cC (Qan h68),rp 2 (nF h67),nF h69] (Qj3 Γ rv h)
  ·obtain ⟨h70,h⟩:=Qax h
   exact gn 5 [7,8] [0,3] [cC (Qan h66),rp 3 (nF h67),cC (Qan h68),rp 2 (nF h67),nT h69,oO (Eq.refl ([16].map e_i64).length),aO e_i64 h70] (Qj3 Γ rv h)
 ·obtain ⟨h83,h⟩:=Qax h
  obtain ⟨r29,h84,h⟩:=Qae h
  rcases Qaj h with ⟨h85,h⟩|⟨h85,h⟩
  ·obtain ⟨r30,h86,h⟩:=Qae h
   rcases Qaj h with ⟨h87,h⟩|⟨h87,h⟩
   ·obtain ⟨r31,h88,h⟩:=Qae h
    rcases Qaj h with ⟨h89,h⟩|⟨h89,h⟩
    ·obtain ⟨r32,h90,h⟩:=Qae h
     rcases Qaj h with ⟨h91,h⟩|⟨h91,h⟩
     ·obtain rfl:=Option.some.inj h
      exact gr 12 [] [cC (Qan h66),rp 5 (nT h67),tT,oO (Eq.refl ([16].map e_i64).length),aO e_i64 h83,cC (Qan h84),rp 3 (nF h85),cC (Qan h86),rp 2 (nF h85),rp 3 (nF h87),cC (Qan h88),rp 2 (nF h87),rp 3 (nF h89),cC (Qan h90),rp 2 (nF h89),nF h91,hW 5,hH (.frz 3),rp 4 (oO (Eq.refl ((l11++[16]).map e_i64).length))]
     ·obtain ⟨h92,h⟩:=Qax h
      obtain rfl:=Option.some.inj h
      exact gr 12 [] [cC (Qan h66),rp 5 (nT h67),tT,oO (Eq.refl ([16].map e_i64).length),aO e_i64 h83,cC (Qan h84),rp 3 (nF h85),cC (Qan h86),rp 2 (nF h85),rp 3 (nF h87),cC (Qan h88),rp 2 (nF h87),rp 3 (nF h89),cC (Qan h90),rp 2 (nF h89),nT h91,oO (Eq.refl ([2].map e_i64).length),aO e_i64 h92,hW 5,hH (.frz 5),rp 4 (oO (Eq.refl (((l11++[16])++[2]).map e_i64).length))]
    ·obtain ⟨h93,h⟩:=Qax h
     obtain rfl:=Option.some.inj h
     exact gr 12 [] [cC (Qan h66),rp 5 (nT h67),tT,oO (Eq.refl ([16].map e_i64).length),aO e_i64 h83,cC (Qan h84),rp 3 (nF h85),cC (Qan h86),rp 2 (nF h85),rp 3 (nF h87),cC (Qan h88),rp 2 (nF h87),rp 5 (nT h89),tT,oO (Eq.refl ([2].map e_i64).length),aO e_i64 h93,hW 5,hH (.frz 5),rp 4 (oO (Eq.refl (((l11++[16])++[2]).map e_i64).length))]
   ·obtain ⟨h94,h⟩:=Qax h
    obtain rfl:=Option.some.inj h
    exact gr 12 [] [cC (Qan h66),rp 5 (nT h67),tT,oO (Eq.refl ([16].map e_i64).length),aO e_i64 h83,cC (Qan h84),rp 3 (nF h85),cC (Qan h86),rp 2 (nF h85),rp 5 (nT h87),rp 6 tT,oO (Eq.refl ([2].map e_i64).length),aO e_i64 h94,hW 5,hH (.frz 5),rp 4 (oO (Eq.refl (((l11++[16])++[2]).map e_i64).length))]
  ·obtain ⟨h95,h⟩:=Qax h
   obtain rfl:=Option.some.inj h
   exact gr 12 [] [cC (Qan h66),rp 5 (nT h67),tT,oO (Eq.refl ([16].map e_i64).length),aO e_i64 h83,cC (Qan h84),rp 5 (nT h85),rp 11 tT,oO (Eq.refl ([2].map e_i64).length),aO e_i64 h95,hW 5,hH (.frz 5),rp 4 (oO (Eq.refl (((l11++[16])++[2]).map e_i64).length))]
theorem Qj1 (Γ:Gam) (rv:List Int) {x0 l10} (h:QgO x0 l10=some rv):QbN Γ rv ⟨[.c 1023],⟨125,[vP 7 0 14,vO 8 1 1 l10 e_i64],[oX 14 94 (Qai.enc x0),oS 1 40 l10 e_i64]⟩⟩:=by
 unfold QgO at h
 obtain ⟨r22,h63,h⟩:=Qae h
 rcases Qaj h with ⟨h64,h⟩|⟨h64,h⟩
 ·obtain ⟨h65,h⟩:=Qax h
  exact gn 5 [7,8] [0,3] [cC (Qan h63),rp 4 hP,rp 2 (oI ((!r22)=false)),oR True ((!r22)=false),bT h64,oO (Eq.refl ([15].map e_i64).length),aO e_i64 h65] (Qj2 Γ rv h)
 ·exact gn 5 [7,8] [0,1] [cC (Qan h63),rp 4 hP,rp 2 (oI ((!r22)=false)),oR True ((!r22)=false),bF h64] (Qj2 Γ rv h)
theorem Qk2 (Γ:Gam) (rv:List Int) {x0 l9} (h:Qhw x0 l9=some rv):QbN Γ rv ⟨[.c 511],⟨125,[vP 7 0 14,vO 8 1 1 l9 e_i64],[oX 14 94 (Qai.enc x0),oS 1 40 l9 e_i64]⟩⟩:=by
 unfold Qhw at h
 obtain ⟨r21,h60,h⟩:=Qae h
 rcases Qaj h with ⟨h61,h⟩|⟨h61,h⟩
 ·exact gn 5 [7,8] [0,1] [cC (Qan h60),nF h61] (Qj1 Γ rv h)
 ·obtain ⟨h62,h⟩:=Qax h
  exact gn 5 [7,8] [0,3] [cC (Qan h60),nT h61,oO (Eq.refl ([18].map e_i64).length),aO e_i64 h62] (Qj1 Γ rv h)
theorem QkW (Γ:Gam) (rv:List Int) {n l x0 l3} (h:QeD n l x0 l3=some rv):QbN Γ rv ⟨[.c 127],⟨125,[vL 1 14 l Qai.enc,vP 3 0 2,vP 7 1 14,vO 8 2 1 l3 e_i64],[oX 2 25 (Qam.enc n),oX 14 94 (Qai.enc x0),oS 1 40 l3 e_i64]⟩⟩:=by
 unfold QeD at h
 obtain ⟨r3,h10,h⟩:=Qae h
 rcases Qaj h with ⟨h11,h⟩|⟨h11,h⟩
 ·obtain ⟨r4,h12,h⟩:=Qae h
  rcases Qaj h with ⟨h13,h⟩|⟨h13,h⟩
  ·exact gn 5 [1,7,8] [1,2] [nL e_str n.places,cC (Qan h10),rp 5 (nF h11),nL e_str n.places,rp 2 (nF h11),cC (Qan h12),rp 2 (nF h11),nF h13] (QkX Γ rv h)
  ·obtain ⟨h14,h⟩:=Qax h
   exact gn 5 [1,7,8] [1,4] [nL e_str n.places,cC (Qan h10),rp 5 (nF h11),nL e_str n.places,rp 2 (nF h11),cC (Qan h12),rp 2 (nF h11),nT h13,oO (Eq.refl ([11].map e_i64).length),aO e_i64 h14] (QkX Γ rv h)
 ·obtain ⟨h55,h⟩:=Qax h
  obtain ⟨r19,h56,h⟩:=Qae h
  obtain ⟨r20,h57,h⟩:=Qae h
  rcases Qaj h with ⟨h58,h⟩|⟨h58,h⟩
  ·exact gn 10 [7,8] [1,4] [nL e_str n.places,cC (Qan h10),rp 9 (nT h11),tT,oO (Eq.refl ([11].map e_i64).length),aO e_i64 h55,hH (.draw 6 []),cC (Qgp h56),cC (QfQ h57),nF h58] (Qk2 Γ rv h)
  ·obtain ⟨h59,h⟩:=Qax h
   exact gn 10 [7,8] [1,6] [nL e_str n.places,cC (Qan h10),rp 9 (nT h11),tT,oO (Eq.refl ([11].map e_i64).length),aO e_i64 h55,hH (.draw 6 []),cC (Qgp h56),cC (QfQ h57),nT h58,oO (Eq.refl ([17].map e_i64).length),aO e_i64 h59] (Qk2 Γ rv h)
theorem QkV (Γ:Gam) (rv:List Int) {n l x0 l2} (h:QeC n l x0 l2=some rv):QbN Γ rv ⟨[.c 63],⟨125,[vL 1 14 l Qai.enc,vP 3 0 2,vP 7 1 14,vO 8 2 1 l2 e_i64],[oX 2 25 (Qam.enc n),oX 14 94 (Qai.enc x0),oS 1 40 l2 e_i64]⟩⟩:=by
 unfold QeC at h
 obtain ⟨r2,h7,h⟩:=Qae h
 rcases Qaj h with ⟨h8,h⟩|⟨h8,h⟩
 ·exact gn 5 [1,3,7,8] [0,1,2] [cC (Qan h7),nF h8] (QkW Γ rv h)
 ·obtain ⟨h9,h⟩:=Qax h
  exact gn 5 [1,3,7,8] [0,1,4] [cC (Qan h7),nT h8,oO (Eq.refl ([22].map e_i64).length),aO e_i64 h9] (QkW Γ rv h)
theorem QkU (Γ:Gam) (rv:List Int) {n l at_ x0 l1} (h:QeB n l at_ x0 l1=some rv):QbN Γ rv ⟨[.c 31],⟨125,[vL 1 14 l Qai.enc,vI 2 at_,vP 3 0 2,vP 7 1 14,vO 8 2 1 l1 e_i64],[oX 2 25 (Qam.enc n),oX 14 94 (Qai.enc x0),oS 1 40 l1 e_i64]⟩⟩:=by
 unfold QeB at h
 obtain ⟨r1,h4,h⟩:=Qae h
 rcases Qaj h with ⟨h5,h⟩|⟨h5,h⟩
 ·obtain ⟨h6,h⟩:=Qax h
  exact gn 5 [1,3,7,8] [0,1,4] [cC (QnV h4),bT h5,oO (Eq.refl ([6].map e_i64).length),aO e_i64 h6] (QkV Γ rv h)
 ·exact gn 5 [1,3,7,8] [0,1,2] [cC (QnV h4),bF h5] (QkV Γ rv h)
theorem QsR {n l at_} {rv:List Int} (h:QhM n l at_=some rv):AFn Tryz.prog 112 [.agg (Qam.enc n),.one (lL 14 l Qai.enc),.one (lI at_)] [] (one (lL 1 rv e_i64)) []:=by
 refine QaM Tryz.func112 (by kernel_rfl) (by kernel_rfl) (fun Γ=>?_)
 unfold QhM at h
 obtain ⟨x0,h0,h⟩:=Qae h
 obtain ⟨r,h1,h⟩:=Qae h
 rcases Qaj h with ⟨h2,h⟩|⟨h2,h⟩
 ·exact gn 11 [1,2,3,7,8] [0,1,2] [cE Qai.enc h0,cC (Qfc h1),nF h2,hW 1,hH (.adopt 8 1 40)] (QkU Γ rv h)
 ·obtain ⟨h3,h⟩:=Qax h
  exact gn 11 [1,2,3,7,8] [0,1,3] [cE Qai.enc h0,cC (Qfc h1),nT h2,oO (Eq.refl ([5].map e_i64).length),aN (l:=([5]:List Int)) e_i64 h3] (QkU Γ rv h)
def Qgo (Γ:Gam) (rv:List Qab) (cf:Cf):Prop:=Go Tryz.prog Tryz.f73 [] Γ (one (lL 2 rv Qab.enc)) [] cf
def Qmc (Γ:Gam) (rv:List Qab) (n:Qam) (l:List Qai) (i:Int) (r1:List Int) (l3:List Qab) (k:Int):Prop:=Qgo Γ rv ⟨[.c 31308,.l 31308,.b 2,.b 1,.c 979,.l 244,.b 0,.c 31],⟨44,[vL 1 14 l Qai.enc,vP 2 0 2,vO 5 1 2 l3 Qab.enc,vI 6 i,vL 7 1 r1 e_i64,vI 8 k],[oX 2 25 (Qam.enc n),oS 2 151 l3 Qab.enc]⟩⟩
def QkS (Γ:Gam) (rv:List Qab) (n:Qam) (l:List Qai) (i:Int) (r1:List Int) (l4:List Qab):Prop:=Qgo Γ rv ⟨[.b 1,.c 979,.l 244,.b 0,.c 31],⟨44,[vL 1 14 l Qai.enc,vP 2 0 2,vO 5 1 2 l4 Qab.enc,vI 6 i],[oX 2 25 (Qam.enc n),oS 2 151 l4 Qab.enc]⟩⟩
def Qmb (Γ:Gam) (rv:List Qab) (n:Qam) (l:List Qai) (l2:List Qab) (i:Int):Prop:=Qgo Γ rv ⟨[.c 244,.l 244,.b 0,.c 31],⟨44,[vL 1 14 l Qai.enc,vP 2 0 2,vO 5 1 2 l2 Qab.enc,vI 6 i],[oX 2 25 (Qam.enc n),oS 2 151 l2 Qab.enc]⟩⟩
def QkR (Γ:Gam) (rv:List Qab) (n:Qam) (l:List Qai) (l5:List Qab):Prop:=Qgo Γ rv ⟨[.c 31],⟨44,[vO 5 0 2 l5 Qab.enc],[oS 2 151 l5 Qab.enc]⟩⟩
theorem QqN (Γ:Gam) (rv:List Qab) {n l i r1} {s:List Qab×Int} {e:List Qab} (h:loopF (fun s=>Qhv n l i r1 s.1 s.2) s=some e) (hD:QkS Γ rv n l i r1 e):Qmc Γ rv n l i r1 s.1 s.2:=by
 refine QaD (C:=fun (s:List Qab×Int)=>Qmc Γ rv n l i r1 s.1 s.2) (D:=fun (e:List Qab)=>QkS Γ rv n l i r1 e) ?_ h hD
 clear h hD s e
 rintro ⟨l3,k⟩ z_ h hI hE
 replace h:Qhv n l i r1 l3 k=_:=h
 unfold Qhv at h
 rcases Qaj h with ⟨h5,h⟩|⟨h5,h⟩
 ·obtain ⟨x0,h6,h⟩:=Qae h
  obtain ⟨r2,h7,h⟩:=Qae h
  obtain ⟨h8,h⟩:=Qax h
  exact gn 11 [1,2,5,6,7,8] [0,3] [nL e_i64 r1,bT h5,hH (.draw 9 []),cE e_i64 h6,cC (Qb4 h7),oO (Eq.refl ([(Qab.mk x0 r2)].map Qab.enc).length),aO Qab.enc h8] (hI _ (oJ h))
 ·exact gn 5 [1,2,5,6] [0,1] [nL e_i64 r1,bF h5] (hE _ (oJ h))
theorem QqM (Γ:Gam) (rv:List Qab) {n l} {s:List Qab×Int} {e:List Qab} (h:loopF (fun s=>Qda n l s.1 s.2) s=some e) (hD:QkR Γ rv n l e):Qmb Γ rv n l s.1 s.2:=by
 refine QaD (C:=fun (s:List Qab×Int)=>Qmb Γ rv n l s.1 s.2) (D:=fun (e:List Qab)=>QkR Γ rv n l e) ?_ h hD
 clear h hD s e
 rintro ⟨l2,i⟩ z_ h hI hE
 replace h:Qda n l l2 i=_:=h
 unfold Qda at h
 rcases Qaj h with ⟨h3,h⟩|⟨h3,h⟩
 ·obtain ⟨r1,h4,h⟩:=Qae h
  obtain ⟨e0,h9,h⟩:=Qae h
  refine gn 13 [1,2,5,6,7,8] [0,1] [nL Qai.enc l,bT h3,cC (QsR h4)] (QqN Γ rv h9 ?_)
  obtain ⟨l4,rfl⟩:∃ x,x=e0:=⟨_,rfl⟩
  replace h:(some (.inl (l4,(addK .i64 i 1))):Option ((List Qab×Int)⊕(List Qab)))=some _:=h
  exact gn 3 [1,2,5,6] [0,1] [] (hI _ (oJ h))
 ·exact gn 5 [5] [1] [nL Qai.enc l,bF h3] (hE _ (oJ h))
theorem QkQ (Γ:Gam) (rv:List Qab) {n l l1} (h:QfP n l l1=some rv):Qgo Γ rv ⟨[.c 15],⟨44,[vL 1 14 l Qai.enc,vP 2 0 2,vO 5 1 2 l1 Qab.enc],[oX 2 25 (Qam.enc n),oS 2 151 l1 Qab.enc]⟩⟩:=by
 unfold QfP at h
 obtain ⟨e1,h10,h⟩:=Qae h
 refine gn 5 [1,2,5,6] [0,1] [] (QqM Γ rv h10 ?_)
 obtain ⟨l5,rfl⟩:∃ x,x=e1:=⟨_,rfl⟩
 replace h:(some l5:Option (List Qab))=some _:=h
 obtain rfl:=Option.some.inj h
 exact gr 2 [] [hW 4,hH (.frz 0),rp 3 (eL l5 Qab.enc)]
theorem QsQ {n l} {rv:List Qab} (h:QhK n l=some rv):AFn Tryz.prog 73 [.agg (Qam.enc n),.one (lL 14 l Qai.enc)] [] (one (lL 2 rv Qab.enc)) []:=by
 refine QaM Tryz.func73 (by kernel_rfl) (by kernel_rfl) (fun Γ=>?_)
 unfold QhK at h
 obtain ⟨r,h0,h⟩:=Qae h
 rcases Qaj h with ⟨h1,h⟩|⟨h1,h⟩
 ·exact gn 9 [1,2,5] [0,1] [nL Qai.enc l,cC (Qan h0),nF h1,hW 1,hH (.adopt 5 2 151)] (QkQ Γ rv h)
 ·obtain ⟨h2,h⟩:=Qax h
  exact gn 9 [1,2,5] [0,2] [nL Qai.enc l,cC (Qan h0),nT h1,oO (Eq.refl ([(Qab.mk 4 ByteArray.empty)].map Qab.enc).length),aN (l:=([(Qab.mk 4 ByteArray.empty)]:List Qab)) Qab.enc h2] (QkQ Γ rv h)
def QoO (Γ:Gam) (rv:Bool) (cf:Cf):Prop:=Go Tryz.prog Tryz.f162 [] Γ (one (.bool rv)) [] cf
def Ql6 (Γ:Gam) (rv:Bool) (a:List Int) (i:Int):Prop:=QoO Γ rv ⟨[.c 116,.l 116,.b 0,.c 15],⟨28,[vL 0 1 a e_i64,vI 5 i],[]⟩⟩
def QkJ (Γ:Gam) (rv:Bool) (a:List Int):Prop:=QoO Γ rv ⟨[.c 15],⟨28,[],[]⟩⟩
theorem QqI (Γ:Gam) (rv:Bool) {a} {s:Int} {e:(Unit)⊕(Bool)} (h:loopF (fun s=>Qcw a s) s=some e) (hD:sel e (fun e=>QkJ Γ rv a) (fun e=>e=rv)):Ql6 Γ rv a s:=by
 refine QaD (C:=fun (s:Int)=>Ql6 Γ rv a s) (D:=fun (e:(Unit)⊕(Bool))=>sel e (fun e=>QkJ Γ rv a) (fun e=>e=rv)) ?_ h hD
 clear h hD s e
 intro i z_ h hI hE
 replace h:Qcw a i=_:=h
 unfold Qcw at h
 rcases Qaj h with ⟨h1,h⟩|⟨h1,h⟩
 ·obtain ⟨x0,h2,h⟩:=Qae h
  rcases Qaj h with ⟨h3,h⟩|⟨h3,h⟩
  ·obtain rfl:=(hE _ (oJ h):_=rv)
   exact gr 12 [] [nL e_i64 a,bT h1,cE e_i64 h2,rp 6 (bT h3),tT]
  ·rcases Qaj h with ⟨h4,h⟩|⟨h4,h⟩
   ·obtain rfl:=(hE _ (oJ h):_=rv)
    exact gr 12 [] [nL e_i64 a,bT h1,cE e_i64 h2,rp 3 (bF h3),cE e_i64 h2,rp 3 (bF h3),bT h4]
   ·exact gn 14 [0,5] [] [nL e_i64 a,bT h1,cE e_i64 h2,rp 3 (bF h3),cE e_i64 h2,rp 3 (bF h3),bF h4] (hI _ (oJ h))
 ·exact gn 5 [] [] [nL e_i64 a,bF h1] (hE _ (oJ h))
theorem QnQ {a dims} {rv:Bool} (h:Qfq a dims=some rv):AFn Tryz.prog 162 [.one (lL 1 a e_i64),.one (lI dims)] [] (one (.bool rv)) []:=by
 refine QaM Tryz.func162 (by kernel_rfl) (by kernel_rfl) (fun Γ=>?_)
 unfold Qfq at h
 rcases Qaj h with ⟨h0,h⟩|⟨h0,h⟩
 ·obtain rfl:=Option.some.inj h
  exact gr 8 [] [nL e_i64 a,bT h0]
 ·obtain ⟨e0,h5,h⟩:=Qae h
  refine gn 12 [0,5] [] [nL e_i64 a,bF h0] (QqI Γ rv h5 ?_)
  rcases e0 with e0|e0
  ·replace h:(some true:Option Bool)=some _:=h
   obtain rfl:=Option.some.inj h
   exact gr 2 [] []
  ·obtain ⟨r,rfl⟩:∃ x,x=e0:=⟨_,rfl⟩
   replace h:(some r:Option Bool)=some _:=h
   exact Option.some.inj h
theorem QaJ {n low high} {rv:Bool} (h:QbR n low high=some rv):AFn Tryz.prog 163 [.one (lI n),.one (lI low),.one (lI high)] [] (one (.bool rv)) []:=by
 refine QaM Tryz.func163 (by kernel_rfl) (by kernel_rfl) (fun Γ=>?_)
 unfold QbR at h
 obtain rfl:=Option.some.inj h
 exact gr 4 [] [rp 4 hP,rp 2 (oI ((geI n low)=true)),oR True ((geI n low)=true)]
theorem QbE {s0} {rv:Int} (h:Qes s0=some rv):AFn Tryz.prog 164 [.agg (Qau.enc s0)] [] (one (lI rv)) []:=by
 refine QaM Tryz.func164 (by kernel_rfl) (by kernel_rfl) (fun Γ=>?_)
 unfold Qes at h
 rcases Qaj h with ⟨h0,h⟩|⟨h0,h⟩
 ·obtain rfl:=Option.some.inj h
  exact gr 8 [] [rp 12 hP,rp 2 (oI ((eqI s0.place (-1))=true)),oR True ((eqI s0.place (-1))=true),rp 2 (oI (((eqI s0.place (-1))&&(eqI s0.open_ 0))=true)),oR True (((eqI s0.place (-1))&&(eqI s0.open_ 0))=true),rp 2 (oI ((((eqI s0.place (-1))&&(eqI s0.open_ 0))&&(eqI s0.close 0))=true)),oR True ((((eqI s0.place (-1))&&(eqI s0.open_ 0))&&(eqI s0.close 0))=true),bT h0]
 ·rcases Qaj h with ⟨h1,h⟩|⟨h1,h⟩
  ·obtain rfl:=Option.some.inj h
   exact gr 13 [] [rp 12 hP,rp 2 (oI ((eqI s0.place (-1))=true)),oR True ((eqI s0.place (-1))=true),rp 2 (oI (((eqI s0.place (-1))&&(eqI s0.open_ 0))=true)),oR True (((eqI s0.place (-1))&&(eqI s0.open_ 0))=true),rp 2 (oI ((((eqI s0.place (-1))&&(eqI s0.open_ 0))&&(eqI s0.close 0))=true)),oR True ((((eqI s0.place (-1))&&(eqI s0.open_ 0))&&(eqI s0.close 0))=true),bF h0,rp 22 hP,rp 2 (oI ((ltI s0.place 0)=false)),oR True ((ltI s0.place 0)=false),rp 4 (oI (((ltI s0.place 0)||(ltI s0.open_ 0))=false)),oR True (((ltI s0.place 0)||(ltI s0.open_ 0))=false),rp 2 (oI ((((ltI s0.place 0)||(ltI s0.open_ 0))||(gtI s0.open_ s0.close))=false)),oR True ((((ltI s0.place 0)||(ltI s0.open_ 0))||(gtI s0.open_ s0.close))=false),rp 2 (oI (((((ltI s0.place 0)||(ltI s0.open_ 0))||(gtI s0.open_ s0.close))||(gtI s0.close 4096))=false)),oR True (((((ltI s0.place 0)||(ltI s0.open_ 0))||(gtI s0.open_ s0.close))||(gtI s0.close 4096))=false),rp 2 (oI ((((((ltI s0.place 0)||(ltI s0.open_ 0))||(gtI s0.open_ s0.close))||(gtI s0.close 4096))||(ltI s0.service 0))=false)),oR True ((((((ltI s0.place 0)||(ltI s0.open_ 0))||(gtI s0.open_ s0.close))||(gtI s0.close 4096))||(ltI s0.service 0))=false),bT h1]
  ·obtain rfl:=Option.some.inj h
   exact gr 14 [] [rp 12 hP,rp 2 (oI ((eqI s0.place (-1))=true)),oR True ((eqI s0.place (-1))=true),rp 2 (oI (((eqI s0.place (-1))&&(eqI s0.open_ 0))=true)),oR True (((eqI s0.place (-1))&&(eqI s0.open_ 0))=true),rp 2 (oI ((((eqI s0.place (-1))&&(eqI s0.open_ 0))&&(eqI s0.close 0))=true)),oR True ((((eqI s0.place (-1))&&(eqI s0.open_ 0))&&(eqI s0.close 0))=true),bF h0,rp 22 hP,rp 2 (oI ((ltI s0.place 0)=false)),oR True ((ltI s0.place 0)=false),rp 4 (oI (((ltI s0.place 0)||(ltI s0.open_ 0))=false)),oR True (((ltI s0.place 0)||(ltI s0.open_ 0))=false),rp 2 (oI ((((ltI s0.place 0)||(ltI s0.open_ 0))||(gtI s0.open_ s0.close))=false)),oR True ((((ltI s0.place 0)||(ltI s0.open_ 0))||(gtI s0.open_ s0.close))=false),rp 2 (oI (((((ltI s0.place 0)||(ltI s0.open_ 0))||(gtI s0.open_ s0.close))||(gtI s0.close 4096))=false)),oR True (((((ltI s0.place 0)||(ltI s0.open_ 0))||(gtI s0.open_ s0.close))||(gtI s0.close 4096))=false),rp 2 (oI ((((((ltI s0.place 0)||(ltI s0.open_ 0))||(gtI s0.open_ s0.close))||(gtI s0.close 4096))||(ltI s0.service 0))=false)),oR True ((((((ltI s0.place 0)||(ltI s0.open_ 0))||(gtI s0.open_ s0.close))||(gtI s0.close 4096))||(ltI s0.service 0))=false),bF h1]
def QbD (Γ:Gam) (rv:List Int) (cf:Cf):Prop:=Go Tryz.prog Tryz.f114 [] Γ (one (lL 1 rv e_i64)) [] cf
def Qmh (Γ:Gam) (rv:List Int) (places:Int) (dims:Int) (types:Int) (l:List Qah) (at_:Int) (x0:Qah) (l1:List Int) (i:Int):Prop:=QbD Γ rv ⟨[.c 500,.l 500,.b 0,.c 63],⟨156,[vI 0 places,vI 1 dims,vI 2 types,vL 3 16 l Qah.enc,vI 4 at_,vO 11 0 1 l1 e_i64,vP 12 1 16,vI 13 i],[oS 1 40 l1 e_i64,oX 16 124 (Qah.enc x0)]⟩⟩
def Qlf (Γ:Gam) (rv:List Int) (places:Int) (dims:Int) (types:Int) (l:List Qah) (at_:Int) (x0:Qah) (l1:List Int) (l2:List Int):Prop:=QbD Γ rv ⟨[.c 63],⟨156,[vI 0 places,vI 1 dims,vI 2 types,vO 11 0 1 l2 e_i64,vP 12 1 16],[oS 1 40 l2 e_i64,oX 16 124 (Qah.enc x0)]⟩⟩
theorem QqR (Γ:Gam) (rv:List Int) {places dims types l at_ x0 l1} {s:Int} {e:List Int} (h:loopF (fun s=>QcA places dims types l at_ x0 l1 s) s=some e) (hD:Qlf Γ rv places dims types l at_ x0 l1 e):Qmh Γ rv places dims types l at_ x0 l1 s:=by
 refine QaD (C:=fun (s:Int)=>Qmh Γ rv places dims types l at_ x0 l1 s) (D:=fun (e:List Int)=>Qlf Γ rv places dims types l at_ x0 l1 e) ?_ h hD
 clear h hD s e
 intro i z_ h hI hE
 replace h:QcA places dims types l at_ x0 l1 i=_:=h
 unfold QcA at h
 rcases Qaj h with ⟨h4,h⟩|⟨h4,h⟩
 ·obtain ⟨x1,h5,h⟩:=Qae h
  rcases Qaj h with ⟨h6,h⟩|⟨h6,h⟩
  ·obtain ⟨h7,h⟩:=Qax h
   exact gn 13 [0,1,2,11,12] [3,1] [bT h4,hH (.draw 8 []),cE Qah.enc h5,bT h6,oO (Eq.refl ([6].map e_i64).length),aO e_i64 h7] (hE _ (oJ h))
  ·exact gn 14 [0,1,2,3,4,11,12,13] [0,1] [bT h4,hH (.draw 8 []),cE Qah.enc h5,bF h6] (hI _ (oJ h))
 ·exact gn 5 [0,1,2,11,12] [0,1] [bF h4] (hE _ (oJ h))
theorem Qla (Γ:Gam) (rv:List Int) {types x0 l6} (h:QeM types x0 l6=some rv):QbD Γ rv ⟨[.c 2047],⟨156,[vI 2 types,vO 11 0 1 l6 e_i64,vP 12 1 16],[oS 1 40 l6 e_i64,oX 16 124 (Qah.enc x0)]⟩⟩:=by
 unfold QeM at h
 obtain ⟨r6,h25,h⟩:=Qae h
 rcases Qaj h with ⟨h26,h⟩|⟨h26,h⟩
 ·obtain ⟨r7,h27,h⟩:=Qae h
  rcases Qaj h with ⟨h28,h⟩|⟨h28,h⟩
  ·obtain ⟨h29,h⟩:=Qax h
   obtain rfl:=Option.some.inj h
   exact gr 9 [] [rp 5 hP,rp 3 (oI ((neI x0.pick.place (-1))=true)),oR True ((neI x0.pick.place (-1))=true),cC (QaJ h25),rp 3 (nF h26),cC (QaJ h27),rp 2 (nF h26),rp 26 hP,rp 4 (oI ((!r7)=false)),oI (((!r7)=false)∧(gtI x0.split 1)=true),oR True ((!r7)=false),rp 2 (oI (((!r7)||((gtI x0.split 1)&&((neI x0.pick.place (-1))&&(neI x0.drop.place (-1)))))=false)),oR True (((!r7)||((gtI x0.split 1)&&((neI x0.pick.place (-1))&&(neI x0.drop.place (-1)))))=false),rp 3 (oI ((((!r7)||((gtI x0.split 1)&&((neI x0.pick.place (-1))&&(neI x0.drop.place (-1)))))||(ltI x0.last_ (-1)))=false)),oR True ((((!r7)||((gtI x0.split 1)&&((neI x0.pick.place (-1))&&(neI x0.drop.place (-1)))))||(ltI x0.last_ (-1)))=false),rp 2 (oI (((((!r7)||((gtI x0.split 1)&&((neI x0.pick.place (-1))&&(neI x0.drop.place (-1)))))||(ltI x0.last_ (-1)))||(geI x0.last_ types))=false)),oR True (((((!r7)||((gtI x0.split 1)&&((neI x0.pick.place (-1))&&(neI x0.drop.place (-1)))))||(ltI x0.last_ (-1)))||(geI x0.last_ types))=false),rp 3 (oI ((((((!r7)||((gtI x0.split 1)&&((neI x0.pick.place (-1))&&(neI x0.drop.place (-1)))))||(ltI x0.last_ (-1)))||(geI x0.last_ types))||(ltI x0.now (-1)))=false)),oR True ((((((!r7)||((gtI x0.split 1)&&((neI x0.pick.place (-1))&&(neI x0.drop.place (-1)))))||(ltI x0.last_ (-1)))||(geI x0.last_ types))||(ltI x0.now (-1)))=false),bT h28,oO (Eq.refl ([2].map e_i64).length),aO e_i64 h29,hW 5,hH (.frz 3),rp 4 (oO (Eq.refl ((l6++[2]).map e_i64).length))]
  ·obtain rfl:=Option.some.inj h
   exact gr 9 [] [rp 5 hP,rp 3 (oI ((neI x0.pick.place (-1))=true)),oR True ((neI x0.pick.place (-1))=true),cC (QaJ h25),rp 3 (nF h26),cC (QaJ h27),rp 2 (nF h26),rp 26 hP,rp 4 (oI ((!r7)=false)),oI (((!r7)=false)∧(gtI x0.split 1)=true),oR True ((!r7)=false),rp 2 (oI (((!r7)||((gtI x0.split 1)&&((neI x0.pick.place (-1))&&(neI x0.drop.place (-1)))))=false)),oR True (((!r7)||((gtI x0.split 1)&&((neI x0.pick.place (-1))&&(neI x0.drop.place (-1)))))=false),rp 3 (oI ((((!r7)||((gtI x0.split 1)&&((neI x0.pick.place (-1))&&(neI x0.drop.place (-1)))))||(ltI x0.last_ (-1)))=false)),oR True ((((!r7)||((gtI x0.split 1)&&((neI x0.pick.place (-1))&&(neI x0.drop.place (-1)))))||(ltI x0.last_ (-1)))=false),rp 2 (oI (((((!r7)||((gtI x0.split 1)&&((neI x0.pick.place (-1))&&(neI x0.drop.place (-1)))))||(ltI x0.last_ (-1)))||(geI x0.last_ types))=false)),oR True (((((!r7)||((gtI x0.split 1)&&((neI x0.pick.place (-1))&&(neI x0.drop.place (-1)))))||(ltI x0.last_ (-1)))||(geI x0.last_ types))=false),rp 3 (oI ((((((!r7)||((gtI x0.split 1)&&((neI x0.pick.place (-1))&&(neI x0.drop.place (-1)))))||(ltI x0.last_ (-1)))||(geI x0.last_ types))||(ltI x0.now (-1)))=false)),oR True ((((((!r7)||((gtI x0.split 1)&&((neI x0.pick.place (-1))&&(neI x0.drop.place (-1)))))||(ltI x0.last_ (-1)))||(geI x0.last_ types))||(ltI x0.now (-1)))=false),bF h28,hW 5,hH (.frz 0),rp 3 (eL l6 e_i64)]
 ·obtain ⟨h30,h⟩:=Qax h
  obtain rfl:=Option.some.inj h
  exact gr 9 [] [rp 5 hP,rp 3 (oI ((neI x0.pick.place (-1))=true)),oR True ((neI x0.pick.place (-1))=true),cC (QaJ h25),rp 5 (nT h26),rp 4 tT,kF,rp 21 tT,oO (Eq.refl ([2].map e_i64).length),aO e_i64 h30,hW 5,hH (.frz 3),rp 4 (oO (Eq.refl ((l6++[2]).map e_i64).length))]
theorem Qlc (Γ:Gam) (rv:List Int) {types x0 l8} (h:Qhy types x0 l8=some rv):QbD Γ rv ⟨[.c 2047],⟨156,[vI 2 types,vO 11 0 1 l8 e_i64,vP 12 1 16],[oS 1 40 l8 e_i64,oX 16 124 (Qah.enc x0)]⟩⟩:=by
 unfold Qhy at h
 obtain ⟨r10,h37,h⟩:=Qae h
 rcases Qaj h with ⟨h38,h⟩|⟨h38,h⟩
 ·obtain ⟨r11,h39,h⟩:=Qae h
  rcases Qaj h with ⟨h40,h⟩|⟨h40,h⟩
  ·obtain ⟨h41,h⟩:=Qax h
   obtain rfl:=Option.some.inj h
   exact gr 9 [] [rp 5 hP,rp 3 (oI ((neI x0.pick.place (-1))=true)),oR True ((neI x0.pick.place (-1))=true),cC (QaJ h37),rp 3 (nF h38),cC (QaJ h39),rp 2 (nF h38),rp 26 hP,rp 4 (oI ((!r11)=false)),oI (((!r11)=false)∧(gtI x0.split 1)=true),oR True ((!r11)=false),rp 2 (oI (((!r11)||((gtI x0.split 1)&&((neI x0.pick.place (-1))&&(neI x0.drop.place (-1)))))=false)),oR True (((!r11)||((gtI x0.split 1)&&((neI x0.pick.place (-1))&&(neI x0.drop.place (-1)))))=false),rp 3 (oI ((((!r11)||((gtI x0.split 1)&&((neI x0.pick.place (-1))&&(neI x0.drop.place (-1)))))||(ltI x0.last_ (-1)))=false)),oR True ((((!r11)||((gtI x0.split 1)&&((neI x0.pick.place (-1))&&(neI x0.drop.place (-1)))))||(ltI x0.last_ (-1)))=false),rp 2 (oI (((((!r11)||((gtI x0.split 1)&&((neI x0.pick.place (-1))&&(neI x0.drop.place (-1)))))||(ltI x0.last_ (-1)))||(geI x0.last_ types))=false)),oR True (((((!r11)||((gtI x0.split 1)&&((neI x0.pick.place (-1))&&(neI x0.drop.place (-1)))))||(ltI x0.last_ (-1)))||(geI x0.last_ types))=false),rp 3 (oI ((((((!r11)||((gtI x0.split 1)&&((neI x0.pick.place (-1))&&(neI x0.drop.place (-1)))))||(ltI x0.last_ (-1)))||(geI x0.last_ types))||(ltI x0.now (-1)))=false)),oR True ((((((!r11)||((gtI x0.split 1)&&((neI x0.pick.place (-1))&&(neI x0.drop.place (-1)))))||(ltI x0.last_ (-1)))||(geI x0.last_ types))||(ltI x0.now (-1)))=false),bT h40,oO (Eq.refl ([2].map e_i64).length),aO e_i64 h41,hW 5,hH (.frz 3),rp 4 (oO (Eq.refl ((l8++[2]).map e_i64).length))]
  ·obtain rfl:=Option.some.inj h
   exact gr 9 [] [rp 5 hP,rp 3 (oI ((neI x0.pick.place (-1))=true)),oR True ((neI x0.pick.place (-1))=true),cC (QaJ h37),rp 3 (nF h38),cC (QaJ h39),rp 2 (nF h38),rp 26 hP,rp 4 (oI ((!r11)=false)),oI (((!r11)=false)∧(gtI x0.split 1)=true),oR True ((!r11)=false),rp 2 (oI (((!r11)||((gtI x0.split 1)&&((neI x0.pick.place (-1))&&(neI x0.drop.place (-1)))))=false)),oR True (((!r11)||((gtI x0.split 1)&&((neI x0.pick.place (-1))&&(neI x0.drop.place (-1)))))=false),rp 3 (oI ((((!r11)||((gtI x0.split 1)&&((neI x0.pick.place (-1))&&(neI x0.drop.place (-1)))))||(ltI x0.last_ (-1)))=false)),oR True ((((!r11)||((gtI x0.split 1)&&((neI x0.pick.place (-1))&&(neI x0.drop.place (-1)))))||(ltI x0.last_ (-1)))=false),rp 2 (oI (((((!r11)||((gtI x0.split 1)&&((neI x0.pick.place (-1))&&(neI x0.drop.place (-1)))))||(ltI x0.last_ (-1)))||(geI x0.last_ types))=false)),oR True (((((!r11)||((gtI x0.split 1)&&((neI x0.pick.place (-1))&&(neI x0.drop.place (-1)))))||(ltI x0.last_ (-1)))||(geI x0.last_ types))=false),rp 3 (oI ((((((!r11)||((gtI x0.split 1)&&((neI x0.pick.place (-1))&&(neI x0.drop.place (-1)))))||(ltI x0.last_ (-1)))||(geI x0.last_ types))||(ltI x0.now (-1)))=false)),oR True ((((((!r11)||((gtI x0.split 1)&&((neI x0.pick.place (-1))&&(neI x0.drop.place (-1)))))||(ltI x0.last_ (-1)))||(geI x0.last_ types))||(ltI x0.now (-1)))=false),bF h40,hW 5,hH (.frz 0),rp 3 (eL l8 e_i64)]
 ·obtain ⟨h42,h⟩:=Qax h
  obtain rfl:=Option.some.inj h
  exact gr 9 [] [rp 5 hP,rp 3 (oI ((neI x0.pick.place (-1))=true)),oR True ((neI x0.pick.place (-1))=true),cC (QaJ h37),rp 5 (nT h38),rp 4 tT,kF,rp 21 tT,oO (Eq.refl ([2].map e_i64).length),aO e_i64 h42,hW 5,hH (.frz 3),rp 4 (oO (Eq.refl ((l8++[2]).map e_i64).length))]
theorem Qlb (Γ:Gam) (rv:List Int) {types x0 l7} (h:QeN types x0 l7=some rv):QbD Γ rv ⟨[.c 1023],⟨156,[vI 2 types,vO 11 0 1 l7 e_i64,vP 12 1 16],[oS 1 40 l7 e_i64,oX 16 124 (Qah.enc x0)]⟩⟩:=by
 unfold QeN at h
 obtain ⟨r9,h34,h⟩:=Qae h
 rcases Qaj h with ⟨h35,h⟩|⟨h35,h⟩
 ·exact gn 5 [2,11,12] [0,1] [cC (QaJ h34),nF h35] (Qlc Γ rv h)
 ·obtain ⟨h36,h⟩:=Qax h
  exact gn 5 [2,11,12] [3,1] [cC (QaJ h34),nT h35,oO (Eq.refl ([18].map e_i64).length),aO e_i64 h36] (Qlc Γ rv h)
theorem Qk9 (Γ:Gam) (rv:List Int) {types x0 l5} (h:QeL types x0 l5=some rv):QbD Γ rv ⟨[.c 511],⟨156,[vI 2 types,vO 11 0 1 l5 e_i64,vP 12 1 16],[oS 1 40 l5 e_i64,oX 16 124 (Qah.enc x0)]⟩⟩:=by
 unfold QeL at h
 obtain ⟨r4,h19,h⟩:=Qae h
 rcases Qaj h with ⟨h20,h⟩|⟨h20,h⟩
 ·obtain ⟨h21,h⟩:=Qax h
  obtain ⟨r5,h22,h⟩:=Qae h
  rcases Qaj h with ⟨h23,h⟩|⟨h23,h⟩
  ·exact gn 10 [2,11,12] [3,1] [cC (QbE h19),rp 5 (bT h20),tT,oO (Eq.refl ([14].map e_i64).length),aO e_i64 h21,cC (QaJ h22),nF h23] (Qla Γ rv h)
  ·obtain ⟨h24,h⟩:=Qax h
   exact gn 10 [2,11,12] [5,1] [cC (QbE h19),rp 5 (bT h20),tT,oO (Eq.refl ([14].map e_i64).length),aO e_i64 h21,cC (QaJ h22),nT h23,oO (Eq.refl ([18].map e_i64).length),aO e_i64 h24] (Qla Γ rv h)
 ·obtain ⟨r8,h31,h⟩:=Qae h
  rcases Qaj h with ⟨h32,h⟩|⟨h32,h⟩
  ·obtain ⟨h33,h⟩:=Qax h
   exact gn 5 [2,11,12] [3,1] [cC (QbE h19),rp 3 (bF h20),cC (QbE h31),rp 2 (bF h20),bT h32,oO (Eq.refl ([14].map e_i64).length),aO e_i64 h33] (Qlb Γ rv h)
  ·exact gn 5 [2,11,12] [0,1] [cC (QbE h19),rp 3 (bF h20),cC (QbE h31),rp 2 (bF h20),bF h32] (Qlb Γ rv h)
theorem Qk8 (Γ:Gam) (rv:List Int) {types x0 l4} (h:QeK types x0 l4=some rv):QbD Γ rv ⟨[.c 255],⟨156,[vI 2 types,vO 11 0 1 l4 e_i64,vP 12 1 16],[oS 1 40 l4 e_i64,oX 16 124 (Qah.enc x0)]⟩⟩:=by
 unfold QeK at h
 rcases Qaj h with ⟨h17,h⟩|⟨h17,h⟩
 ·obtain ⟨h18,h⟩:=Qax h
  exact gn 5 [2,11,12] [3,1] [rp 5 hP,rp 3 (oI ((eqI x0.pick.place (-1))=true)),oR True ((eqI x0.pick.place (-1))=true),bT h17,oO (Eq.refl ([19].map e_i64).length),aO e_i64 h18] (Qk9 Γ rv h)
 ·exact gn 5 [2,11,12] [0,1] [rp 5 hP,rp 3 (oI ((eqI x0.pick.place (-1))=true)),oR True ((eqI x0.pick.place (-1))=true),bF h17] (Qk9 Γ rv h)
theorem Qle (Γ:Gam) (rv:List Int) {types x0 l10} (h:QhA types x0 l10=some rv):QbD Γ rv ⟨[.c 2047],⟨156,[vI 2 types,vO 11 0 1 l10 e_i64,vP 12 1 16],[oS 1 40 l10 e_i64,oX 16 124 (Qah.enc x0)]⟩⟩:=by
 unfold QhA at h
 obtain ⟨r14,h52,h⟩:=Qae h
 rcases Qaj h with ⟨h53,h⟩|⟨h53,h⟩
 ·obtain ⟨r15,h54,h⟩:=Qae h
  rcases Qaj h with ⟨h55,h⟩|⟨h55,h⟩
  ·obtain ⟨h56,h⟩:=Qax h
   obtain rfl:=Option.some.inj h
   exact gr 9 [] [rp 5 hP,rp 3 (oI ((neI x0.pick.place (-1))=true)),oR True ((neI x0.pick.place (-1))=true),cC (QaJ h52),rp 3 (nF h53),cC (QaJ h54),rp 2 (nF h53),rp 26 hP,rp 4 (oI ((!r15)=false)),oI (((!r15)=false)∧(gtI x0.split 1)=true),oR True ((!r15)=false),rp 2 (oI (((!r15)||((gtI x0.split 1)&&((neI x0.pick.place (-1))&&(neI x0.drop.place (-1)))))=false)),oR True (((!r15)||((gtI x0.split 1)&&((neI x0.pick.place (-1))&&(neI x0.drop.place (-1)))))=false),rp 3 (oI ((((!r15)||((gtI x0.split 1)&&((neI x0.pick.place (-1))&&(neI x0.drop.place (-1)))))||(ltI x0.last_ (-1)))=false)),oR True ((((!r15)||((gtI x0.split 1)&&((neI x0.pick.place (-1))&&(neI x0.drop.place (-1)))))||(ltI x0.last_ (-1)))=false),rp 2 (oI (((((!r15)||((gtI x0.split 1)&&((neI x0.pick.place (-1))&&(neI x0.drop.place (-1)))))||(ltI x0.last_ (-1)))||(geI x0.last_ types))=false)),oR True (((((!r15)||((gtI x0.split 1)&&((neI x0.pick.place (-1))&&(neI x0.drop.place (-1)))))||(ltI x0.last_ (-1)))||(geI x0.last_ types))=false),rp 3 (oI ((((((!r15)||((gtI x0.split 1)&&((neI x0.pick.place (-1))&&(neI x0.drop.place (-1)))))||(ltI x0.last_ (-1)))||(geI x0.last_ types))||(ltI x0.now (-1)))=false)),oR True ((((((!r15)||((gtI x0.split 1)&&((neI x0.pick.place (-1))&&(neI x0.drop.place (-1)))))||(ltI x0.last_ (-1)))||(geI x0.last_ types))||(ltI x0.now (-1)))=false),bT h55,oO (Eq.refl ([2].map e_i64).length),aO e_i64 h56,hW 5,hH (.frz 3),rp 4 (oO (Eq.refl ((l10++[2]).map e_i64).length))]
  ·obtain rfl:=Option.some.inj h
   exact gr 9 [] [rp 5 hP,rp 3 (oI ((neI x0.pick.place (-1))=true)),oR True ((neI x0.pick.place (-1))=true),cC (QaJ h52),rp 3 (nF h53),cC (QaJ h54),rp 2 (nF h53),rp 26 hP,rp 4 (oI ((!r15)=false)),oI (((!r15)=false)∧(gtI x0.split 1)=true),oR True ((!r15)=false),rp 2 (oI (((!r15)||((gtI x0.split 1)&&((neI x0.pick.place (-1))&&(neI x0.drop.place (-1)))))=false)),oR True (((!r15)||((gtI x0.split 1)&&((neI x0.pick.place (-1))&&(neI x0.drop.place (-1)))))=false),rp 3 (oI ((((!r15)||((gtI x0.split 1)&&((neI x0.pick.place (-1))&&(neI x0.drop.place (-1)))))||(ltI x0.last_ (-1)))=false)),oR True ((((!r15)||((gtI x0.split 1)&&((neI x0.pick.place (-1))&&(neI x0.drop.place (-1)))))||(ltI x0.last_ (-1)))=false),rp 2 (oI (((((!r15)||((gtI x0.split 1)&&((neI x0.pick.place (-1))&&(neI x0.drop.place (-1)))))||(ltI x0.last_ (-1)))||(geI x0.last_ types))=false)),oR True (((((!r15)||((gtI x0.split 1)&&((neI x0.pick.place (-1))&&(neI x0.drop.place (-1)))))||(ltI x0.last_ (-1)))||(geI x0.last_ types))=false),rp 3 (oI ((((((!r15)||((gtI x0.split 1)&&((neI x0.pick.place (-1))&&(neI x0.drop.place (-1)))))||(ltI x0.last_ (-1)))||(geI x0.last_ types))||(ltI x0.now (-1)))=false)),oR True ((((((!r15)||((gtI x0.split 1)&&((neI x0.pick.place (-1))&&(neI x0.drop.place (-1)))))||(ltI x0.last_ (-1)))||(geI x0.last_ types))||(ltI x0.now (-1)))=false),bF h55,hW 5,hH (.frz 0),rp 3 (eL l10 e_i64)]
 ·obtain ⟨h57,h⟩:=Qax h
  obtain rfl:=Option.some.inj h
  exact gr 9 [] [rp 5 hP,rp 3 (oI ((neI x0.pick.place (-1))=true)),oR True ((neI x0.pick.place (-1))=true),cC (QaJ h52),rp 5 (nT h53),rp 4 tT,kF,rp 21 tT,oO (Eq.refl ([2].map e_i64).length),aO e_i64 h57,hW 5,hH (.frz 3),rp 4 (oO (Eq.refl ((l10++[2]).map e_i64).length))]
theorem Qj5 (Γ:Gam) (rv:List Int) {types x0 l12} (h:QgT types x0 l12=some rv):QbD Γ rv ⟨[.c 2047],⟨156,[vI 2 types,vO 11 0 1 l12 e_i64,vP 12 1 16],[oS 1 40 l12 e_i64,oX 16 124 (Qah.enc x0)]⟩⟩:=by
 unfold QgT at h
 obtain ⟨r18,h64,h⟩:=Qae h
 rcases Qaj h with ⟨h65,h⟩|⟨h65,h⟩
 ·obtain ⟨r19,h66,h⟩:=Qae h
  rcases Qaj h with ⟨h67,h⟩|⟨h67,h⟩
  ·obtain ⟨h68,h⟩:=Qax h
   obtain rfl:=Option.some.inj h
   exact gr 9 [] [rp 5 hP,rp 3 (oI ((neI x0.pick.place (-1))=true)),oR True ((neI x0.pick.place (-1))=true),cC (QaJ h64),rp 3 (nF h65),cC (QaJ h66),rp 2 (nF h65),rp 26 hP,rp 4 (oI ((!r19)=false)),oI (((!r19)=false)∧(gtI x0.split 1)=true),oR True ((!r19)=false),rp 2 (oI (((!r19)||((gtI x0.split 1)&&((neI x0.pick.place (-1))&&(neI x0.drop.place (-1)))))=false)),oR True (((!r19)||((gtI x0.split 1)&&((neI x0.pick.place (-1))&&(neI x0.drop.place (-1)))))=false),rp 3 (oI ((((!r19)||((gtI x0.split 1)&&((neI x0.pick.place (-1))&&(neI x0.drop.place (-1)))))||(ltI x0.last_ (-1)))=false)),oR True ((((!r19)||((gtI x0.split 1)&&((neI x0.pick.place (-1))&&(neI x0.drop.place (-1)))))||(ltI x0.last_ (-1)))=false),rp 2 (oI (((((!r19)||((gtI x0.split 1)&&((neI x0.pick.place (-1))&&(neI x0.drop.place (-1)))))||(ltI x0.last_ (-1)))||(geI x0.last_ types))=false)),oR True (((((!r19)||((gtI x0.split 1)&&((neI x0.pick.place (-1))&&(neI x0.drop.place (-1)))))||(ltI x0.last_ (-1)))||(geI x0.last_ types))=false),rp 3 (oI ((((((!r19)||((gtI x0.split 1)&&((neI x0.pick.place (-1))&&(neI x0.drop.place (-1)))))||(ltI x0.last_ (-1)))||(geI x0.last_ types))||(ltI x0.now (-1)))=false)),oR True ((((((!r19)||((gtI x0.split 1)&&((neI x0.pick.place (-1))&&(neI x0.drop.place (-1)))))||(ltI x0.last_ (-1)))||(geI x0.last_ types))||(ltI x0.now (-1)))=false),bT h67,oO (Eq.refl ([2].map e_i64).length),aO e_i64 h68,hW 5,hH (.frz 3),rp 4 (oO (Eq.refl ((l12++[2]).map e_i64).length))]
  ·obtain rfl:=Option.some.inj h
   exact gr 9 [] [rp 5 hP,rp 3 (oI ((neI x0.pick.place (-1))=true)),oR True ((neI x0.pick.place (-1))=true),cC (QaJ h64),rp 3 (nF h65),cC (QaJ h66),rp 2 (nF h65),rp 26 hP,rp 4 (oI ((!r19)=false)),oI (((!r19)=false)∧(gtI x0.split 1)=true),oR True ((!r19)=false),rp 2 (oI (((!r19)||((gtI x0.split 1)&&((neI x0.pick.place (-1))&&(neI x0.drop.place (-1)))))=false)),oR True (((!r19)||((gtI x0.split 1)&&((neI x0.pick.place (-1))&&(neI x0.drop.place (-1)))))=false),rp 3 (oI ((((!r19)||((gtI x0.split 1)&&((neI x0.pick.place (-1))&&(neI x0.drop.place (-1)))))||(ltI x0.last_ (-1)))=false)),oR True ((((!r19)||((gtI x0.split 1)&&((neI x0.pick.place (-1))&&(neI x0.drop.place (-1)))))||(ltI x0.last_ (-1)))=false),rp 2 (oI (((((!r19)||((gtI x0.split 1)&&((neI x0.pick.place (-1))&&(neI x0.drop.place (-1)))))||(ltI x0.last_ (-1)))||(geI x0.last_ types))=false)),oR True (((((!r19)||((gtI x0.split 1)&&((neI x0.pick.place (-1))&&(neI x0.drop.place (-1)))))||(ltI x0.last_ (-1)))||(geI x0.last_ types))=false),rp 3 (oI ((((((!r19)||((gtI x0.split 1)&&((neI x0.pick.place (-1))&&(neI x0.drop.place (-1)))))||(ltI x0.last_ (-1)))||(geI x0.last_ types))||(ltI x0.now (-1)))=false)),oR True ((((((!r19)||((gtI x0.split 1)&&((neI x0.pick.place (-1))&&(neI x0.drop.place (-1)))))||(ltI x0.last_ (-1)))||(geI x0.last_ types))||(ltI x0.now (-1)))=false),bF h67,hW 5,hH (.frz 0),rp 3 (eL l12 e_i64)]
 ·obtain ⟨h69,h⟩:=Qax h
  obtain rfl:=Option.some.inj h
  exact gr 9 [] [rp 5 hP,rp 3 (oI ((neI x0.pick.place (-1))=true)),oR True ((neI x0.pick.place (-1))=true),cC (QaJ h64),rp 5 (nT h65),rp 4 tT,kF,rp 21 tT,oO (Eq.refl ([2].map e_i64).length),aO e_i64 h69,hW 5,hH (.frz 3),rp 4 (oO (Eq.refl ((l12++[2]).map e_i64).length))]
theorem Qj4 (Γ:Gam) (rv:List Int) {types x0 l11} (h:QgS types x0 l11=some rv):QbD Γ rv ⟨[.c 1023],⟨156,[vI 2 types,vO 11 0 1 l11 e_i64,vP 12 1 16],[oS 1 40 l11 e_i64,oX 16 124 (Qah.enc x0)]⟩⟩:=by
 unfold QgS at h
 obtain ⟨r17,h61,h⟩:=Qae h
 rcases Qaj h with ⟨h62,h⟩|⟨h62,h⟩
 ·exact gn 5 [2,11,12] [0,1] [cC (QaJ h61),nF h62] (Qj5 Γ rv h)
 ·obtain ⟨h63,h⟩:=Qax h
  exact gn 5 [2,11,12] [3,1] [cC (QaJ h61),nT h62,oO (Eq.refl ([18].map e_i64).length),aO e_i64 h63] (Qj5 Γ rv h)
theorem Qld (Γ:Gam) (rv:List Int) {types x0 l9} (h:Qhz types x0 l9=some rv):QbD Γ rv ⟨[.c 511],⟨156,[vI 2 types,vO 11 0 1 l9 e_i64,vP 12 1 16],[oS 1 40 l9 e_i64,oX 16 124 (Qah.enc x0)]⟩⟩:=by
 unfold Qhz at h
 obtain ⟨r12,h46,h⟩:=Qae h
 rcases Qaj h with ⟨h47,h⟩|⟨h47,h⟩
 ·obtain ⟨h48,h⟩:=Qax h
  obtain ⟨r13,h49,h⟩:=Qae h
  rcases Qaj h with ⟨h50,h⟩|⟨h50,h⟩
  ·exact gn 10 [2,11,12] [3,1] [cC (QbE h46),rp 5 (bT h47),tT,oO (Eq.refl ([14].map e_i64).length),aO e_i64 h48,cC (QaJ h49),nF h50] (Qle Γ rv h)
  ·obtain ⟨h51,h⟩:=Qax h
   exact gn 10 [2,11,12] [5,1] [cC (QbE h46),rp 5 (bT h47),tT,oO (Eq.refl ([14].map e_i64).length),aO e_i64 h48,cC (QaJ h49),nT h50,oO (Eq.refl ([18].map e_i64).length),aO e_i64 h51] (Qle Γ rv h)
 ·obtain ⟨r16,h58,h⟩:=Qae h
  rcases Qaj h with ⟨h59,h⟩|⟨h59,h⟩
  ·obtain ⟨h60,h⟩:=Qax h
   exact gn 5 [2,11,12] [3,1] [cC (QbE h46),rp 3 (bF h47),cC (QbE h58),rp 2 (bF h47),bT h59,oO (Eq.refl ([14].map e_i64).length),aO e_i64 h60] (Qj4 Γ rv h)
  ·exact gn 5 [2,11,12] [0,1] [cC (QbE h46),rp 3 (bF h47),cC (QbE h58),rp 2 (bF h47),bF h59] (Qj4 Γ rv h)
theorem Qk7 (Γ:Gam) (rv:List Int) {places types x0 l3} (h:Qcb places types x0 l3=some rv):QbD Γ rv ⟨[.c 127],⟨156,[vI 0 places,vI 2 types,vO 11 0 1 l3 e_i64,vP 12 1 16],[oS 1 40 l3 e_i64,oX 16 124 (Qah.enc x0)]⟩⟩:=by
 unfold Qcb at h
 obtain ⟨r2,h12,h⟩:=Qae h
 rcases Qaj h with ⟨h13,h⟩|⟨h13,h⟩
 ·obtain ⟨r3,h14,h⟩:=Qae h
  rcases Qaj h with ⟨h15,h⟩|⟨h15,h⟩
  ·exact gn 5 [2,11,12] [0,1] [cC (QaJ h12),rp 6 (nF h13),cC (QaJ h14),rp 2 (nF h13),nF h15] (Qk8 Γ rv h)
  ·obtain ⟨h16,h⟩:=Qax h
   exact gn 5 [2,11,12] [3,1] [cC (QaJ h12),rp 6 (nF h13),cC (QaJ h14),rp 2 (nF h13),nT h15,oO (Eq.refl ([11].map e_i64).length),aO e_i64 h16] (Qk8 Γ rv h)
 ·obtain ⟨h43,h⟩:=Qax h
  rcases Qaj h with ⟨h44,h⟩|⟨h44,h⟩
  ·obtain ⟨h45,h⟩:=Qax h
   exact gn 10 [2,11,12] [5,1] [cC (QaJ h12),rp 8 (nT h13),tT,oO (Eq.refl ([11].map e_i64).length),aO e_i64 h43,rp 5 hP,rp 3 (oI ((eqI x0.pick.place (-1))=true)),oR True ((eqI x0.pick.place (-1))=true),bT h44,oO (Eq.refl ([19].map e_i64).length),aO e_i64 h45] (Qld Γ rv h)
  ·exact gn 10 [2,11,12] [3,1] [cC (QaJ h12),rp 8 (nT h13),tT,oO (Eq.refl ([11].map e_i64).length),aO e_i64 h43,rp 5 hP,rp 3 (oI ((eqI x0.pick.place (-1))=true)),oR True ((eqI x0.pick.place (-1))=true),bF h44] (Qld Γ rv h)
theorem Qk6 (Γ:Gam) (rv:List Int) {places dims types l at_ x0 l1} (h:QeJ places dims types l at_ x0 l1=some rv):QbD Γ rv ⟨[.c 31],⟨156,[vI 0 places,vI 1 dims,vI 2 types,vL 3 16 l Qah.enc,vI 4 at_,vO 11 0 1 l1 e_i64,vP 12 1 16],[oS 1 40 l1 e_i64,oX 16 124 (Qah.enc x0)]⟩⟩:=by
 unfold QeJ at h
 obtain ⟨e0,h8,h⟩:=Qae h
 refine gn 5 [0,1,2,3,4,11,12,13] [0,1] [] (QqR Γ rv h8 ?_)
 obtain ⟨l2,rfl⟩:∃ x,x=e0:=⟨_,rfl⟩
 replace h:(bnd (Qfq x0.load dims) fun r1=>br r1 (Qcb places types x0 l2) (chk (okN (l2++[17]).length 8) (Qcb places types x0 (l2++[17]))):Option (List Int))=some _:=h
 obtain ⟨r1,h9,h⟩:=Qae h
 rcases Qaj h with ⟨h10,h⟩|⟨h10,h⟩
 ·exact gn 5 [0,2,11,12] [0,1] [cC (QnQ h9),nF h10] (Qk7 Γ rv h)
 ·obtain ⟨h11,h⟩:=Qax h
  exact gn 5 [0,2,11,12] [3,1] [cC (QnQ h9),nT h10,oO (Eq.refl ([17].map e_i64).length),aO e_i64 h11] (Qk7 Γ rv h)
theorem QsT {places dims types l at_} {rv:List Int} (h:QhO places dims types l at_=some rv):AFn Tryz.prog 114 [.one (lI places),.one (lI dims),.one (lI types),.one (lL 16 l Qah.enc),.one (lI at_)] [] (one (lL 1 rv e_i64)) []:=by
 refine QaM Tryz.func114 (by kernel_rfl) (by kernel_rfl) (fun Γ=>?_)
 unfold QhO at h
 obtain ⟨x0,h0,h⟩:=Qae h
 obtain ⟨r,h1,h⟩:=Qae h
 rcases Qaj h with ⟨h2,h⟩|⟨h2,h⟩
 ·exact gn 11 [0,1,2,3,4,11,12] [1,0] [cE Qah.enc h0,cC (Qfc h1),nF h2,hW 1,hH (.adopt 11 1 40)] (Qk6 Γ rv h)
 ·obtain ⟨h3,h⟩:=Qax h
  exact gn 11 [0,1,2,3,4,11,12] [2,0] [cE Qah.enc h0,cC (Qfc h1),nT h2,oO (Eq.refl ([5].map e_i64).length),aN (l:=([5]:List Int)) e_i64 h3] (Qk6 Γ rv h)
def Qgq (Γ:Gam) (rv:List Qab) (cf:Cf):Prop:=Go Tryz.prog Tryz.f74 [] Γ (one (lL 2 rv Qab.enc)) [] cf
def Qmg (Γ:Gam) (rv:List Qab) (n:Qam) (dims:Int) (types:Int) (l:List Qah) (i:Int) (r:List Int) (l3:List Qab) (k:Int):Prop:=Qgq Γ rv ⟨[.c 31308,.l 31308,.b 2,.b 1,.c 979,.l 244,.b 0,.c 31],⟨51,[vI 1 dims,vI 2 types,vL 3 16 l Qah.enc,vP 4 0 2,vO 9 1 2 l3 Qab.enc,vI 10 i,vL 11 1 r e_i64,vI 12 k],[oX 2 25 (Qam.enc n),oS 2 151 l3 Qab.enc]⟩⟩
def Qk5 (Γ:Gam) (rv:List Qab) (n:Qam) (dims:Int) (types:Int) (l:List Qah) (i:Int) (r:List Int) (l4:List Qab):Prop:=Qgq Γ rv ⟨[.b 1,.c 979,.l 244,.b 0,.c 31],⟨51,[vI 1 dims,vI 2 types,vL 3 16 l Qah.enc,vP 4 0 2,vO 9 1 2 l4 Qab.enc,vI 10 i],[oX 2 25 (Qam.enc n),oS 2 151 l4 Qab.enc]⟩⟩
def Qmf (Γ:Gam) (rv:List Qab) (n:Qam) (dims:Int) (types:Int) (l:List Qah) (l2:List Qab) (i:Int):Prop:=Qgq Γ rv ⟨[.c 244,.l 244,.b 0,.c 31],⟨51,[vI 1 dims,vI 2 types,vL 3 16 l Qah.enc,vP 4 0 2,vO 9 1 2 l2 Qab.enc,vI 10 i],[oX 2 25 (Qam.enc n),oS 2 151 l2 Qab.enc]⟩⟩
def Qk4 (Γ:Gam) (rv:List Qab) (n:Qam) (dims:Int) (types:Int) (l:List Qah) (l5:List Qab):Prop:=Qgq Γ rv ⟨[.c 31],⟨51,[vO 9 0 2 l5 Qab.enc],[oS 2 151 l5 Qab.enc]⟩⟩
theorem QqQ (Γ:Gam) (rv:List Qab) {n dims types l i r} {s:List Qab×Int} {e:List Qab} (h:loopF (fun s=>Qhx n dims types l i r s.1 s.2) s=some e) (hD:Qk5 Γ rv n dims types l i r e):Qmg Γ rv n dims types l i r s.1 s.2:=by
 refine QaD (C:=fun (s:List Qab×Int)=>Qmg Γ rv n dims types l i r s.1 s.2) (D:=fun (e:List Qab)=>Qk5 Γ rv n dims types l i r e) ?_ h hD
 clear h hD s e
 rintro ⟨l3,k⟩ z_ h hI hE
 replace h:Qhx n dims types l i r l3 k=_:=h
 unfold Qhx at h
 rcases Qaj h with ⟨h4,h⟩|⟨h4,h⟩
 ·obtain ⟨x0,h5,h⟩:=Qae h
  obtain ⟨r1,h6,h⟩:=Qae h
  obtain ⟨h7,h⟩:=Qax h
  exact gn 11 [1,2,3,4,9,10,11,12] [0,3] [nL e_i64 r,bT h4,hH (.draw 9 []),cE e_i64 h5,cC (Qb4 h6),oO (Eq.refl ([(Qab.mk x0 r1)].map Qab.enc).length),aO Qab.enc h7] (hI _ (oJ h))
 ·exact gn 5 [1,2,3,4,9,10] [0,1] [nL e_i64 r,bF h4] (hE _ (oJ h))
theorem QqP (Γ:Gam) (rv:List Qab) {n dims types l} {s:List Qab×Int} {e:List Qab} (h:loopF (fun s=>Qdb n dims types l s.1 s.2) s=some e) (hD:Qk4 Γ rv n dims types l e):Qmf Γ rv n dims types l s.1 s.2:=by
 refine QaD (C:=fun (s:List Qab×Int)=>Qmf Γ rv n dims types l s.1 s.2) (D:=fun (e:List Qab)=>Qk4 Γ rv n dims types l e) ?_ h hD
 clear h hD s e
 rintro ⟨l2,i⟩ z_ h hI hE
 replace h:Qdb n dims types l l2 i=_:=h
 unfold Qdb at h
 rcases Qaj h with ⟨h2,h⟩|⟨h2,h⟩
 ·obtain ⟨r,h3,h⟩:=Qae h
  obtain ⟨e0,h8,h⟩:=Qae h
  refine gn 13 [1,2,3,4,9,10,11,12] [0,1] [nL Qah.enc l,bT h2,nL e_str n.places,cC (QsT h3)] (QqQ Γ rv h8 ?_)
  obtain ⟨l4,rfl⟩:∃ x,x=e0:=⟨_,rfl⟩
  replace h:(some (.inl (l4,(addK .i64 i 1))):Option ((List Qab×Int)⊕(List Qab)))=some _:=h
  exact gn 3 [1,2,3,4,9,10] [0,1] [] (hI _ (oJ h))
 ·exact gn 5 [9] [1] [nL Qah.enc l,bF h2] (hE _ (oJ h))
theorem Qk3 (Γ:Gam) (rv:List Qab) {n dims types l l1} (h:QfR n dims types l l1=some rv):Qgq Γ rv ⟨[.c 15],⟨51,[vI 1 dims,vI 2 types,vL 3 16 l Qah.enc,vP 4 0 2,vO 9 1 2 l1 Qab.enc],[oX 2 25 (Qam.enc n),oS 2 151 l1 Qab.enc]⟩⟩:=by
 unfold QfR at h
 obtain ⟨e1,h9,h⟩:=Qae h
 refine gn 5 [1,2,3,4,9,10] [0,1] [] (QqP Γ rv h9 ?_)
 obtain ⟨l5,rfl⟩:∃ x,x=e1:=⟨_,rfl⟩
 replace h:(some l5:Option (List Qab))=some _:=h
 obtain rfl:=Option.some.inj h
 exact gr 2 [] [hW 4,hH (.frz 0),rp 3 (eL l5 Qab.enc)]
theorem QsS {n dims types l} {rv:List Qab} (h:QhN n dims types l=some rv):AFn Tryz.prog 74 [.agg (Qam.enc n),.one (lI dims),.one (lI types),.one (lL 16 l Qah.enc)] [] (one (lL 2 rv Qab.enc)) []:=by
 refine QaM Tryz.func74 (by kernel_rfl) (by kernel_rfl) (fun Γ=>?_)
 unfold QhN at h
 rcases Qaj h with ⟨h0,h⟩|⟨h0,h⟩
 ·obtain ⟨h1,h⟩:=Qax h
  exact gn 9 [1,2,3,4,9] [0,2] [nL Qah.enc l,bT h0,oO (Eq.refl ([(Qab.mk 4 ByteArray.empty)].map Qab.enc).length),aN (l:=([(Qab.mk 4 ByteArray.empty)]:List Qab)) Qab.enc h1] (Qk3 Γ rv h)
 ·exact gn 9 [1,2,3,4,9] [0,1] [nL Qah.enc l,bF h0,hW 1,hH (.adopt 9 2 151)] (Qk3 Γ rv h)
def Qm8 (Γ:Gam) (rv:ByteArray) (cf:Cf):Prop:=Go Tryz.prog Tryz.f165 [] Γ (one (.str rv)) [] cf
def Qj6 (Γ:Gam) (rv:ByteArray) (n1:Int) (s0:ByteArray):Prop:=Qm8 Γ rv ⟨[.c 56,.l 56,.b 0,.c 15],⟨23,[vI 0 n1,vS 3 s0],[]⟩⟩
def QjB (Γ:Gam) (rv:ByteArray) (n2:Int) (s1:ByteArray):Prop:=Qm8 Γ rv ⟨[.c 15],⟨23,[vI 0 n2,vS 3 s1],[]⟩⟩
theorem QpF (Γ:Gam) (rv:ByteArray) {s:Int×ByteArray} {e:Int×ByteArray} (h:loopF (fun s=>QdL s.1 s.2) s=some e) (hD:QjB Γ rv e.1 e.2):Qj6 Γ rv s.1 s.2:=by
 refine QaD (C:=fun (s:Int×ByteArray)=>Qj6 Γ rv s.1 s.2) (D:=fun (e:Int×ByteArray)=>QjB Γ rv e.1 e.2) ?_ h hD
 clear h hD s e
 rintro ⟨n1,s0⟩ z_ h hI hE
 replace h:QdL n1 s0=_:=h
 unfold QdL at h
 rcases Qaj h with ⟨h0,h⟩|⟨h0,h⟩
 ·obtain ⟨h1,h⟩:=Qax h
  exact gn 11 [0,3] [] [bT h0,hH (.ints [(cvK .u8 (addK .i64 48 (remK n1 10)))]),oO (oA (n:=10)),oO (Eq.refl ([(cvK .u8 (addK .i64 48 (remK n1 10)))].map e_u8).length),oO (Eq.refl (([(cvK .u8 (addK .i64 48 (remK n1 10)))].map e_u8):List (List Lf))),oO (h1),oO (oA (n:=10))] (hI _ (oJ h))
 ·exact gn 5 [0,3] [] [bF h0] (hE _ (oJ h))
theorem Qge {n} {rv:ByteArray} (h:Qfe n=some rv):AFn Tryz.prog 165 [.one (lI n)] [] (one (.str rv)) []:=by
 refine QaM Tryz.func165 (by kernel_rfl) (by kernel_rfl) (fun Γ=>?_)
 unfold Qfe at h
 obtain ⟨e0,h2,h⟩:=Qae h
 refine gn 7 [0,3] [] [] (QpF Γ rv h2 ?_)
 obtain ⟨n2,s1⟩:=e0
 replace h:(chk ((Qsd [(cvK .u8 (addK .i64 48 n2))]).size+s1.size≤9223372036854775807) (some (catS (Qsd [(cvK .u8 (addK .i64 48 n2))]) s1)):Option ByteArray)=some _:=h
 obtain ⟨h3,h⟩:=Qax h
 obtain rfl:=Option.some.inj h
 exact gr 2 [] [hH (.ints [(cvK .u8 (addK .i64 48 n2))]),oO (Eq.refl ([(cvK .u8 (addK .i64 48 n2))].map e_u8).length),oO (Eq.refl (([(cvK .u8 (addK .i64 48 n2))].map e_u8):List (List Lf))),oO (h3)]
def QfS (Γ:Gam) (rv:List Qab) (cf:Cf):Prop:=Go Tryz.prog Tryz.f115 [] Γ (one (lL 2 rv Qab.enc)) [] cf
def Qlh (Γ:Gam) (rv:List Qab) (orders:Int) (l:List QaC) (word:ByteArray) (turned:Bool) (l2:List Qab) (i:Int) (x0:QaC) (r:ByteArray) (twice:Bool) (k:Int):Prop:=QfS Γ rv ⟨[.c 1001972,.l 1001972,.b 2,.c 125247,.b 1,.c 979,.l 244,.b 0,.c 31],⟨123,[vI 0 orders,vL 1 2 l QaC.enc,vS 2 word,vB 3 turned,vO 9 0 2 l2 Qab.enc,vI 10 i,vI 11 x0.x0,vI 12 x0.x1,vS 13 (catS (catS word Qc7) r),vB 14 twice,vI 15 k],[oS 2 151 l2 Qab.enc]⟩⟩
def Qj9 (Γ:Gam) (rv:List Qab) (orders:Int) (l:List QaC) (word:ByteArray) (turned:Bool) (l2:List Qab) (i:Int) (x0:QaC) (r:ByteArray) (twice1:Bool):Prop:=QfS Γ rv ⟨[.c 125247,.b 1,.c 979,.l 244,.b 0,.c 31],⟨123,[vI 0 orders,vL 1 2 l QaC.enc,vS 2 word,vB 3 turned,vO 9 0 2 l2 Qab.enc,vI 10 i,vS 13 (catS (catS word Qc7) r),vB 14 twice1],[oS 2 151 l2 Qab.enc]⟩⟩
def Qlg (Γ:Gam) (rv:List Qab) (orders:Int) (l:List QaC) (word:ByteArray) (turned:Bool) (l2:List Qab) (i:Int):Prop:=QfS Γ rv ⟨[.c 244,.l 244,.b 0,.c 31],⟨123,[vI 0 orders,vL 1 2 l QaC.enc,vS 2 word,vB 3 turned,vO 9 0 2 l2 Qab.enc,vI 10 i],[oS 2 151 l2 Qab.enc]⟩⟩
def Qj8 (Γ:Gam) (rv:List Qab) (orders:Int) (l:List QaC) (word:ByteArray) (turned:Bool) (l3:List Qab):Prop:=QfS Γ rv ⟨[.c 31],⟨123,[vO 9 0 2 l3 Qab.enc],[oS 2 151 l3 Qab.enc]⟩⟩
theorem Qqh (Γ:Gam) (rv:List Qab) {orders l word turned l2 i x0 r} {s:Bool×Int} {e:Bool} (h:loopF (fun s=>Qd6 orders l word turned l2 i x0 r s.1 s.2) s=some e) (hD:Qj9 Γ rv orders l word turned l2 i x0 r e):Qlh Γ rv orders l word turned l2 i x0 r s.1 s.2:=by
 refine QaD (C:=fun (s:Bool×Int)=>Qlh Γ rv orders l word turned l2 i x0 r s.1 s.2) (D:=fun (e:Bool)=>Qj9 Γ rv orders l word turned l2 i x0 r e) ?_ h hD
 clear h hD s e
 rintro ⟨twice,k⟩ z_ h hI hE
 replace h:Qd6 orders l word turned l2 i x0 r twice k=_:=h
 unfold Qd6 at h
 rcases Qaj h with ⟨h9,h⟩|⟨h9,h⟩
 ·rcases Qaj h with ⟨h10,h⟩|⟨h10,h⟩
  ·exact gn 11 [0,1,2,3,9,10,11,12,13,14,15] [0] [bT h9,rp 8 (bT h10),rp 7 kF,rp 2 (bT h10),tT,tT,rp 7 kF,tT,tT,rp 7 kF,tT,tT] (hI _ (oJ h))
  ·obtain ⟨x1,h11,h⟩:=Qae h
   rcases Qaj h with ⟨h12,h⟩|⟨h12,h⟩
   ·rcases Qaj h with ⟨h13,h⟩|⟨h13,h⟩
    ·exact gn 11 [0,1,2,3,9,10,11,12,13,14,15] [0] [bT h9,rp 3 (bF h10),cE QaC.enc h11,bF h10,oO (zL 0),oO (lT 0 2),rp 4 (bF h10),rp 3 (bT h12),cE QaC.enc h11,bT h12,oO (zL 1),oO (lT 1 2),rp 3 (bT h12),bF h10,bT h12,bF h10,rp 2 (bT h13),rp 7 kF,rp 2 (bT h13),rp 7 kF,rp 2 (bT h13)] (hI _ (oJ h))
    ·rcases Qaj h with ⟨h14,h⟩|⟨h14,h⟩
     ·rcases Qaj h with ⟨h15,h⟩|⟨h15,h⟩
      ·exact gn 11 [0,1,2,3,9,10,11,12,13,14,15] [0] [bT h9,rp 3 (bF h10),cE QaC.enc h11,bF h10,oO (zL 0),oO (lT 0 2),rp 4 (bF h10),rp 3 (bT h12),cE QaC.enc h11,bT h12,oO (zL 1),oO (lT 1 2),rp 3 (bT h12),bF h10,bT h12,bF h10,rp 2 (bF h13),rp 3 (bT h14),cE QaC.enc h11,bT h14,oO (zL 0),oO (lT 0 2),rp 3 (bT h14),bF h13,bT h14,bF h13,rp 3 (bT h15),cE QaC.enc h11,bT h15,oO (zL 1),oO (lT 1 2),rp 3 (bT h15),bF h13,bT h15,bF h13] (hI _ (oJ h))
      ·exact gn 11 [0,1,2,3,9,10,11,12,13,14,15] [0] [bT h9,rp 3 (bF h10),cE QaC.enc h11,bF h10,oO (zL 0),oO (lT 0 2),rp 4 (bF h10),rp 3 (bT h12),cE QaC.enc h11,bT h12,oO (zL 1),oO (lT 1 2),rp 3 (bT h12),bF h10,bT h12,bF h10,rp 2 (bF h13),rp 3 (bT h14),cE QaC.enc h11,bT h14,oO (zL 0),oO (lT 0 2),rp 3 (bT h14),bF h13,bT h14,bF h13,rp 7 (bF h15),bF h13,bF h15,bF h13] (hI _ (oJ h))
     ·exact gn 11 [0,1,2,3,9,10,11,12,13,14,15] [0] [bT h9,rp 3 (bF h10),cE QaC.enc h11,bF h10,oO (zL 0),oO (lT 0 2),rp 4 (bF h10),rp 3 (bT h12),cE QaC.enc h11,bT h12,oO (zL 1),oO (lT 1 2),rp 3 (bT h12),bF h10,bT h12,bF h10,rp 2 (bF h13),rp 7 (bF h14),bF h13,bF h14,bF h13,rp 7 fF,bF h13,fF,bF h13] (hI _ (oJ h))
   ·rcases Qaj h with ⟨h16,h⟩|⟨h16,h⟩
    ·rcases Qaj h with ⟨h17,h⟩|⟨h17,h⟩
     ·exact gn 11 [0,1,2,3,9,10,11,12,13,14,15] [0] [bT h9,rp 3 (bF h10),cE QaC.enc h11,bF h10,oO (zL 0),oO (lT 0 2),rp 4 (bF h10),rp 7 (bF h12),bF h10,bF h12,bF h10,fF,fF,rp 3 (bT h16),cE QaC.enc h11,bT h16,oO (zL 0),oO (lT 0 2),rp 3 (bT h16),fF,bT h16,fF,rp 3 (bT h17),cE QaC.enc h11,bT h17,oO (zL 1),oO (lT 1 2),rp 3 (bT h17),fF,bT h17,fF] (hI _ (oJ h))
     ·exact gn 11 [0,1,2,3,9,10,11,12,13,14,15] [0] [bT h9,rp 3 (bF h10),cE QaC.enc h11,bF h10,oO (zL 0),oO (lT 0 2),rp 4 (bF h10),rp 7 (bF h12),bF h10,bF h12,bF h10,fF,fF,rp 3 (bT h16),cE QaC.enc h11,bT h16,oO (zL 0),oO (lT 0 2),rp 3 (bT h16),fF,bT h16,fF,rp 7 (bF h17),fF,bF h17,fF] (hI _ (oJ h))
    ·exact gn 11 [0,1,2,3,9,10,11,12,13,14,15] [0] [bT h9,rp 3 (bF h10),cE QaC.enc h11,bF h10,oO (zL 0),oO (lT 0 2),rp 4 (bF h10),rp 7 (bF h12),bF h10,bF h12,bF h10,fF,fF,rp 7 (bF h16),fF,bF h16,rp 11 fF] (hI _ (oJ h))
 ·exact gn 5 [0,1,2,3,9,10,13,14] [0] [bF h9] (hE _ (oJ h))
theorem Qqg (Γ:Gam) (rv:List Qab) {orders l word turned} {s:List Qab×Int} {e:List Qab} (h:loopF (fun s=>QcK orders l word turned s.1 s.2) s=some e) (hD:Qj8 Γ rv orders l word turned e):Qlg Γ rv orders l word turned s.1 s.2:=by
 refine QaD (C:=fun (s:List Qab×Int)=>Qlg Γ rv orders l word turned s.1 s.2) (D:=fun (e:List Qab)=>Qj8 Γ rv orders l word turned e) ?_ h hD
 clear h hD s e
 rintro ⟨l2,i⟩ z_ h hI hE
 replace h:QcK orders l word turned l2 i=_:=h
 unfold QcK at h
 rcases Qaj h with ⟨h2,h⟩|⟨h2,h⟩
 ·obtain ⟨x0,h3,h⟩:=Qae h
  obtain ⟨h4,h⟩:=Qax h
  obtain ⟨r,h5,h⟩:=Qae h
  obtain ⟨h6,h⟩:=Qax h
  rcases Qaj h with ⟨h7,h⟩|⟨h7,h⟩
  ·obtain ⟨h8,h⟩:=Qax h
   exact gn 22 [0,1,2,3,9,10] [2] [nL QaC.enc l,bT h2,cE QaC.enc h3,oO (zL 0),oO (lT 0 2),cE QaC.enc h3,oO (zL 1),oO (lT 1 2),oO (h4),cC (Qge h5),rp 15 hP,oO (h6),rp 2 (oI ((ltI x0.x0 0)=false)),oR True ((ltI x0.x0 0)=false),oI (((ltI x0.x0 0)||(geI x0.x0 orders))=false),oR True (((ltI x0.x0 0)||(geI x0.x0 orders))=false),rp 2 (oI ((((ltI x0.x0 0)||(geI x0.x0 orders))||(ltI x0.x1 0))=false)),oR True ((((ltI x0.x0 0)||(geI x0.x0 orders))||(ltI x0.x1 0))=false),rp 2 (oI (((((ltI x0.x0 0)||(geI x0.x0 orders))||(ltI x0.x1 0))||(geI x0.x1 orders))=false)),oR True (((((ltI x0.x0 0)||(geI x0.x0 orders))||(ltI x0.x1 0))||(geI x0.x1 orders))=false),bT h7,oO (Eq.refl ([(Qab.mk 2 (catS (catS word Qc7) r))].map Qab.enc).length),aO Qab.enc h8] (hI _ (oJ h))
  ·obtain ⟨e0,h18,h⟩:=Qae h
   refine gn 25 [0,1,2,3,9,10,11,12,13,14,15] [0] [nL QaC.enc l,bT h2,cE QaC.enc h3,oO (zL 0),oO (lT 0 2),cE QaC.enc h3,oO (zL 1),oO (lT 1 2),oO (h4),cC (Qge h5),rp 15 hP,oO (h6),rp 2 (oI ((ltI x0.x0 0)=false)),oR True ((ltI x0.x0 0)=false),oI (((ltI x0.x0 0)||(geI x0.x0 orders))=false),oR True (((ltI x0.x0 0)||(geI x0.x0 orders))=false),rp 2 (oI ((((ltI x0.x0 0)||(geI x0.x0 orders))||(ltI x0.x1 0))=false)),oR True ((((ltI x0.x0 0)||(geI x0.x0 orders))||(ltI x0.x1 0))=false),rp 2 (oI (((((ltI x0.x0 0)||(geI x0.x0 orders))||(ltI x0.x1 0))||(geI x0.x1 orders))=false)),oR True (((((ltI x0.x0 0)||(geI x0.x0 orders))||(ltI x0.x1 0))||(geI x0.x1 orders))=false),bF h7] (Qqh Γ rv h18 ?_)
   obtain ⟨twice1,rfl⟩:∃ x,x=e0:=⟨_,rfl⟩
   replace h:(br twice1 (chk (okN (l2++[(Qab.mk 6 (catS (catS word Qc7) r))]).length 24) (some (.inl ((l2++[(Qab.mk 6 (catS (catS word Qc7) r))]),(addK .i64 i 1))))) (some (.inl (l2,(addK .i64 i 1)))):Option ((List Qab×Int)⊕(List Qab)))=some _:=h
   rcases Qaj h with ⟨h19,h⟩|⟨h19,h⟩
   ·obtain ⟨h20,h⟩:=Qax h
    exact gn 7 [0,1,2,3,9,10] [2] [bT h19,oO (Eq.refl ([(Qab.mk 6 (catS (catS word Qc7) r))].map Qab.enc).length),aO Qab.enc h20] (hI _ (oJ h))
   ·exact gn 7 [0,1,2,3,9,10] [0] [bF h19] (hI _ (oJ h))
 ·exact gn 5 [9] [0] [nL QaC.enc l,bF h2] (hE _ (oJ h))
theorem Qj7 (Γ:Gam) (rv:List Qab) {orders l word turned l1} (h:Qfs orders l word turned l1=some rv):QfS Γ rv ⟨[.c 15],⟨123,[vI 0 orders,vL 1 2 l QaC.enc,vS 2 word,vB 3 turned,vO 9 0 2 l1 Qab.enc],[oS 2 151 l1 Qab.enc]⟩⟩:=by
 unfold Qfs at h
 obtain ⟨e1,h21,h⟩:=Qae h
 refine gn 5 [0,1,2,3,9,10] [0] [] (Qqg Γ rv h21 ?_)
 obtain ⟨l3,rfl⟩:∃ x,x=e1:=⟨_,rfl⟩
 replace h:(some l3:Option (List Qab))=some _:=h
 obtain rfl:=Option.some.inj h
 exact gr 2 [] [hW 4,hH (.frz 0),rp 3 (eL l3 Qab.enc)]
theorem Qsm {orders l word turned} {rv:List Qab} (h:Qg6 orders l word turned=some rv):AFn Tryz.prog 115 [.one (lI orders),.one (lL 2 l QaC.enc),.one (.str word),.one (.bool turned)] [] (one (lL 2 rv Qab.enc)) []:=by
 refine QaM Tryz.func115 (by kernel_rfl) (by kernel_rfl) (fun Γ=>?_)
 unfold Qg6 at h
 rcases Qaj h with ⟨h0,h⟩|⟨h0,h⟩
 ·obtain ⟨h1,h⟩:=Qax h
  exact gn 9 [0,1,2,3,9] [1] [nL QaC.enc l,bT h0,oO (Eq.refl ([(Qab.mk 4 word)].map Qab.enc).length),aN (l:=([(Qab.mk 4 word)]:List Qab)) Qab.enc h1] (Qj7 Γ rv h)
 ·exact gn 9 [0,1,2,3,9] [0] [nL QaC.enc l,bF h0,hW 1,hH (.adopt 9 2 151)] (Qj7 Γ rv h)
def QdX (Γ:Gam) (rv:List Qab) (cf:Cf):Prop:=Go Tryz.prog Tryz.f115 [] Γ (one (lO 0 2 rv Qab.enc)) [oS 2 151 rv Qab.enc] cf
def Qiz (Γ:Gam) (rv:List Qab) (orders:Int) (l:List QaC) (word:ByteArray) (turned:Bool) (l2:List Qab) (i:Int) (x0:QaC) (r:ByteArray) (twice:Bool) (k:Int):Prop:=QdX Γ rv ⟨[.c 1001972,.l 1001972,.b 2,.c 125247,.b 1,.c 979,.l 244,.b 0,.c 31],⟨123,[vI 0 orders,vL 1 2 l QaC.enc,vS 2 word,vB 3 turned,vO 9 0 2 l2 Qab.enc,vI 10 i,vI 11 x0.x0,vI 12 x0.x1,vS 13 (catS (catS word Qc7) r),vB 14 twice,vI 15 k],[oS 2 151 l2 Qab.enc]⟩⟩
def Qii (Γ:Gam) (rv:List Qab) (orders:Int) (l:List QaC) (word:ByteArray) (turned:Bool) (l2:List Qab) (i:Int) (x0:QaC) (r:ByteArray) (twice1:Bool):Prop:=QdX Γ rv ⟨[.c 125247,.b 1,.c 979,.l 244,.b 0,.c 31],⟨123,[vI 0 orders,vL 1 2 l QaC.enc,vS 2 word,vB 3 turned,vO 9 0 2 l2 Qab.enc,vI 10 i,vS 13 (catS (catS word Qc7) r),vB 14 twice1],[oS 2 151 l2 Qab.enc]⟩⟩
def Qiy (Γ:Gam) (rv:List Qab) (orders:Int) (l:List QaC) (word:ByteArray) (turned:Bool) (l2:List Qab) (i:Int):Prop:=QdX Γ rv ⟨[.c 244,.l 244,.b 0,.c 31],⟨123,[vI 0 orders,vL 1 2 l QaC.enc,vS 2 word,vB 3 turned,vO 9 0 2 l2 Qab.enc,vI 10 i],[oS 2 151 l2 Qab.enc]⟩⟩
def Qih (Γ:Gam) (rv:List Qab) (orders:Int) (l:List QaC) (word:ByteArray) (turned:Bool) (l3:List Qab):Prop:=QdX Γ rv ⟨[.c 31],⟨123,[vO 9 0 2 l3 Qab.enc],[oS 2 151 l3 Qab.enc]⟩⟩
theorem QnE (Γ:Gam) (rv:List Qab) {orders l word turned l2 i x0 r} {s:Bool×Int} {e:Bool} (h:loopF (fun s=>QeZ orders l word turned l2 i x0 r s.1 s.2) s=some e) (hD:Qii Γ rv orders l word turned l2 i x0 r e):Qiz Γ rv orders l word turned l2 i x0 r s.1 s.2:=by
 refine QaD (C:=fun (s:Bool×Int)=>Qiz Γ rv orders l word turned l2 i x0 r s.1 s.2) (D:=fun (e:Bool)=>Qii Γ rv orders l word turned l2 i x0 r e) ?_ h hD
 clear h hD s e
 rintro ⟨twice,k⟩ z_ h hI hE
 replace h:QeZ orders l word turned l2 i x0 r twice k=_:=h
 unfold QeZ at h
 rcases Qaj h with ⟨h9,h⟩|⟨h9,h⟩
 ·rcases Qaj h with ⟨h10,h⟩|⟨h10,h⟩
  ·exact gn 11 [0,1,2,3,9,10,11,12,13,14,15] [0] [bT h9,rp 8 (bT h10),rp 7 kF,rp 2 (bT h10),tT,tT,rp 7 kF,tT,tT,rp 7 kF,tT,tT] (hI _ (oJ h))
  ·obtain ⟨x1,h11,h⟩:=Qae h
   rcases Qaj h with ⟨h12,h⟩|⟨h12,h⟩
   ·rcases Qaj h with ⟨h13,h⟩|⟨h13,h⟩
    ·exact gn 11 [0,1,2,3,9,10,11,12,13,14,15] [0] [bT h9,rp 3 (bF h10),cE QaC.enc h11,bF h10,oO (zL 0),oO (lT 0 2),rp 4 (bF h10),rp 3 (bT h12),cE QaC.enc h11,bT h12,oO (zL 1),oO (lT 1 2),rp 3 (bT h12),bF h10,bT h12,bF h10,rp 2 (bT h13),rp 7 kF,rp 2 (bT h13),rp 7 kF,rp 2 (bT h13)] (hI _ (oJ h))
    ·rcases Qaj h with ⟨h14,h⟩|⟨h14,h⟩
     ·rcases Qaj h with ⟨h15,h⟩|⟨h15,h⟩
      ·exact gn 11 [0,1,2,3,9,10,11,12,13,14,15] [0] [bT h9,rp 3 (bF h10),cE QaC.enc h11,bF h10,oO (zL 0),oO (lT 0 2),rp 4 (bF h10),rp 3 (bT h12),cE QaC.enc h11,bT h12,oO (zL 1),oO (lT 1 2),rp 3 (bT h12),bF h10,bT h12,bF h10,rp 2 (bF h13),rp 3 (bT h14),cE QaC.enc h11,bT h14,oO (zL 0),oO (lT 0 2),rp 3 (bT h14),bF h13,bT h14,bF h13,rp 3 (bT h15),cE QaC.enc h11,bT h15,oO (zL 1),oO (lT 1 2),rp 3 (bT h15),bF h13,bT h15,bF h13] (hI _ (oJ h))
      ·exact gn 11 [0,1,2,3,9,10,11,12,13,14,15] [0] [bT h9,rp 3 (bF h10),cE QaC.enc h11,bF h10,oO (zL 0),oO (lT 0 2),rp 4 (bF h10),rp 3 (bT h12),cE QaC.enc h11,bT h12,oO (zL 1),oO (lT 1 2),rp 3 (bT h12),bF h10,bT h12,bF h10,rp 2 (bF h13),rp 3 (bT h14),cE QaC.enc h11,bT h14,oO (zL 0),oO (lT 0 2),rp 3 (bT h14),bF h13,bT h14,bF h13,rp 7 (bF h15),bF h13,bF h15,bF h13] (hI _ (oJ h))
     ·exact gn 11 [0,1,2,3,9,10,11,12,13,14,15] [0] [bT h9,rp 3 (bF h10),cE QaC.enc h11,bF h10,oO (zL 0),oO (lT 0 2),rp 4 (bF h10),rp 3 (bT h12),cE QaC.enc h11,bT h12,oO (zL 1),oO (lT 1 2),rp 3 (bT h12),bF h10,bT h12,bF h10,rp 2 (bF h13),rp 7 (bF h14),bF h13,bF h14,bF h13,rp 7 fF,bF h13,fF,bF h13] (hI _ (oJ h))
   ·rcases Qaj h with ⟨h16,h⟩|⟨h16,h⟩
    ·rcases Qaj h with ⟨h17,h⟩|⟨h17,h⟩
     ·exact gn 11 [0,1,2,3,9,10,11,12,13,14,15] [0] [bT h9,rp 3 (bF h10),cE QaC.enc h11,bF h10,oO (zL 0),oO (lT 0 2),rp 4 (bF h10),rp 7 (bF h12),bF h10,bF h12,bF h10,fF,fF,rp 3 (bT h16),cE QaC.enc h11,bT h16,oO (zL 0),oO (lT 0 2),rp 3 (bT h16),fF,bT h16,fF,rp 3 (bT h17),cE QaC.enc h11,bT h17,oO (zL 1),oO (lT 1 2),rp 3 (bT h17),fF,bT h17,fF] (hI _ (oJ h))
     ·exact gn 11 [0,1,2,3,9,10,11,12,13,14,15] [0] [bT h9,rp 3 (bF h10),cE QaC.enc h11,bF h10,oO (zL 0),oO (lT 0 2),rp 4 (bF h10),rp 7 (bF h12),bF h10,bF h12,bF h10,fF,fF,rp 3 (bT h16),cE QaC.enc h11,bT h16,oO (zL 0),oO (lT 0 2),rp 3 (bT h16),fF,bT h16,fF,rp 7 (bF h17),fF,bF h17,fF] (hI _ (oJ h))
    ·exact gn 11 [0,1,2,3,9,10,11,12,13,14,15] [0] [bT h9,rp 3 (bF h10),cE QaC.enc h11,bF h10,oO (zL 0),oO (lT 0 2),rp 4 (bF h10),rp 7 (bF h12),bF h10,bF h12,bF h10,fF,fF,rp 7 (bF h16),fF,bF h16,rp 11 fF] (hI _ (oJ h))
 ·exact gn 5 [0,1,2,3,9,10,13,14] [0] [bF h9] (hE _ (oJ h))
theorem QnD (Γ:Gam) (rv:List Qab) {orders l word turned} {s:List Qab×Int} {e:List Qab} (h:loopF (fun s=>QeY orders l word turned s.1 s.2) s=some e) (hD:Qih Γ rv orders l word turned e):Qiy Γ rv orders l word turned s.1 s.2:=by
 refine QaD (C:=fun (s:List Qab×Int)=>Qiy Γ rv orders l word turned s.1 s.2) (D:=fun (e:List Qab)=>Qih Γ rv orders l word turned e) ?_ h hD
 clear h hD s e
 rintro ⟨l2,i⟩ z_ h hI hE
 replace h:QeY orders l word turned l2 i=_:=h
 unfold QeY at h
 rcases Qaj h with ⟨h2,h⟩|⟨h2,h⟩
 ·obtain ⟨x0,h3,h⟩:=Qae h
  obtain ⟨h4,h⟩:=Qax h
  obtain ⟨r,h5,h⟩:=Qae h
  obtain ⟨h6,h⟩:=Qax h
  rcases Qaj h with ⟨h7,h⟩|⟨h7,h⟩
  ·obtain ⟨h8,h⟩:=Qax h
   exact gn 22 [0,1,2,3,9,10] [2] [nL QaC.enc l,bT h2,cE QaC.enc h3,oO (zL 0),oO (lT 0 2),cE QaC.enc h3,oO (zL 1),oO (lT 1 2),oO (h4),cC (Qge h5),rp 15 hP,oO (h6),rp 2 (oI ((ltI x0.x0 0)=false)),oR True ((ltI x0.x0 0)=false),oI (((ltI x0.x0 0)||(geI x0.x0 orders))=false),oR True (((ltI x0.x0 0)||(geI x0.x0 orders))=false),rp 2 (oI ((((ltI x0.x0 0)||(geI x0.x0 orders))||(ltI x0.x1 0))=false)),oR True ((((ltI x0.x0 0)||(geI x0.x0 orders))||(ltI x0.x1 0))=false),rp 2 (oI (((((ltI x0.x0 0)||(geI x0.x0 orders))||(ltI x0.x1 0))||(geI x0.x1 orders))=false)),oR True (((((ltI x0.x0 0)||(geI x0.x0 orders))||(ltI x0.x1 0))||(geI x0.x1 orders))=false),bT h7,oO (Eq.refl ([(Qab.mk 2 (catS (catS word Qc7) r))].map Qab.enc).length),aO Qab.enc h8] (hI _ (oJ h))
  ·obtain ⟨e0,h18,h⟩:=Qae h
   refine gn 25 [0,1,2,3,9,10,11,12,13,14,15] [0] [nL QaC.enc l,bT h2,cE QaC.enc h3,oO (zL 0),oO (lT 0 2),cE QaC.enc h3,oO (zL 1),oO (lT 1 2),oO (h4),cC (Qge h5),rp 15 hP,oO (h6),rp 2 (oI ((ltI x0.x0 0)=false)),oR True ((ltI x0.x0 0)=false),oI (((ltI x0.x0 0)||(geI x0.x0 orders))=false),oR True (((ltI x0.x0 0)||(geI x0.x0 orders))=false),rp 2 (oI ((((ltI x0.x0 0)||(geI x0.x0 orders))||(ltI x0.x1 0))=false)),oR True ((((ltI x0.x0 0)||(geI x0.x0 orders))||(ltI x0.x1 0))=false),rp 2 (oI (((((ltI x0.x0 0)||(geI x0.x0 orders))||(ltI x0.x1 0))||(geI x0.x1 orders))=false)),oR True (((((ltI x0.x0 0)||(geI x0.x0 orders))||(ltI x0.x1 0))||(geI x0.x1 orders))=false),bF h7] (QnE Γ rv h18 ?_)
   obtain ⟨twice1,rfl⟩:∃ x,x=e0:=⟨_,rfl⟩
   replace h:(br twice1 (chk (okN (l2++[(Qab.mk 6 (catS (catS word Qc7) r))]).length 24) (some (.inl ((l2++[(Qab.mk 6 (catS (catS word Qc7) r))]),(addK .i64 i 1))))) (some (.inl (l2,(addK .i64 i 1)))):Option ((List Qab×Int)⊕(List Qab)))=some _:=h
   rcases Qaj h with ⟨h19,h⟩|⟨h19,h⟩
   ·obtain ⟨h20,h⟩:=Qax h
    exact gn 7 [0,1,2,3,9,10] [2] [bT h19,oO (Eq.refl ([(Qab.mk 6 (catS (catS word Qc7) r))].map Qab.enc).length),aO Qab.enc h20] (hI _ (oJ h))
   ·exact gn 7 [0,1,2,3,9,10] [0] [bF h19] (hI _ (oJ h))
 ·exact gn 5 [9] [0] [nL QaC.enc l,bF h2] (hE _ (oJ h))
theorem Qig (Γ:Gam) (rv:List Qab) {orders l word turned l1} (h:QeX orders l word turned l1=some rv):QdX Γ rv ⟨[.c 15],⟨123,[vI 0 orders,vL 1 2 l QaC.enc,vS 2 word,vB 3 turned,vO 9 0 2 l1 Qab.enc],[oS 2 151 l1 Qab.enc]⟩⟩:=by
 unfold QeX at h
 obtain ⟨e1,h21,h⟩:=Qae h
 refine gn 5 [0,1,2,3,9,10] [0] [] (QnD Γ rv h21 ?_)
 obtain ⟨l3,rfl⟩:∃ x,x=e1:=⟨_,rfl⟩
 replace h:(some l3:Option (List Qab))=some _:=h
 obtain rfl:=Option.some.inj h
 exact gr 2 [0] []
theorem QpG {orders l word turned} {rv:List Qab} (h:Qip orders l word turned=some rv):AFn Tryz.prog 115 [.one (lI orders),.one (lL 2 l QaC.enc),.one (.str word),.one (.bool turned)] [] (one (lO 0 2 rv Qab.enc)) [oS 2 151 rv Qab.enc]:=by
 refine QaM Tryz.func115 (by kernel_rfl) (by kernel_rfl) (fun Γ=>?_)
 unfold Qip at h
 rcases Qaj h with ⟨h0,h⟩|⟨h0,h⟩
 ·obtain ⟨h1,h⟩:=Qax h
  exact gn 9 [0,1,2,3,9] [1] [nL QaC.enc l,bT h0,oO (Eq.refl ([(Qab.mk 4 word)].map Qab.enc).length),aN (l:=([(Qab.mk 4 word)]:List Qab)) Qab.enc h1] (Qig Γ rv h)
 ·exact gn 9 [0,1,2,3,9] [0] [nL QaC.enc l,bF h0,hW 1,hH (.adopt 9 2 151)] (Qig Γ rv h)
theorem QsU {orders apart before} {rv:List Qab} (h:QhP orders apart before=some rv):AFn Tryz.prog 76 [.one (lI orders),.one (lL 2 apart QaC.enc),.one (lL 2 before QaC.enc)] [] (one (lL 2 rv Qab.enc)) []:=by
 refine QaM Tryz.func76 (by kernel_rfl) (by kernel_rfl) (fun Γ=>?_)
 unfold QhP at h
 obtain ⟨r,h0,h⟩:=Qae h
 obtain ⟨r1,h1,h⟩:=Qae h
 obtain ⟨h2,h⟩:=Qax h
 obtain rfl:=Option.some.inj h
 exact gr 6 [] [cC (QpG h0),cC (Qsm h1),aO Qab.enc h2,hW 1,hH (.frz 1),rp 2 (oO (Eq.refl ((r++r1).map Qab.enc).length))]
def QhR (Γ:Gam) (rv:List Qab) (cf:Cf):Prop:=Go Tryz.prog Tryz.f71 [] Γ (one (lO 0 2 rv Qab.enc)) [oS 2 151 rv Qab.enc] cf
def Qgt (Γ:Gam) (rv:List Qab) (word:ByteArray) (l:List Qab) (l1:List Qab) (i:Int):Prop:=QhR Γ rv ⟨[.c 116,.l 116,.b 0,.c 15],⟨40,[vS 0 word,vL 1 2 l Qab.enc,vO 5 0 2 l1 Qab.enc,vI 6 i],[oS 2 151 l1 Qab.enc]⟩⟩
def Qf6 (Γ:Gam) (rv:List Qab) (word:ByteArray) (l:List Qab) (l2:List Qab):Prop:=QhR Γ rv ⟨[.c 15],⟨40,[vO 5 0 2 l2 Qab.enc],[oS 2 151 l2 Qab.enc]⟩⟩
theorem QiA (Γ:Gam) (rv:List Qab) {word l l1 i at_} {x:(List Qab×Int)⊕(List Qab)} (h:Qfy word l l1 i at_=some x) (hI:∀ s:List Qab×Int,x=.inl s→Qgt Γ rv word l s.1 s.2) (hE:∀ e:List Qab,x=.inr e→Qf6 Γ rv word l e):QhR Γ rv ⟨[.c 3731,.b 1,.c 467,.l 116,.b 0,.c 15],⟨40,[vS 0 word,vL 1 2 l Qab.enc,vO 5 0 2 l1 Qab.enc,vI 6 i,vS 7 at_],[oS 2 151 l1 Qab.enc]⟩⟩:=by
 unfold Qfy at h
 obtain ⟨x1,h5,h⟩:=Qae h
 obtain ⟨h6,h⟩:=Qax h
 exact gn 4 [0,1,5,6] [2] [cE Qab.enc h5,oO (Eq.refl ([(Qab.mk x1.err at_)].map Qab.enc).length),aO Qab.enc h6] (hI _ (oJ h))
theorem Qox (Γ:Gam) (rv:List Qab) {word l} {s:List Qab×Int} {e:List Qab} (h:loopF (fun s=>Qfz word l s.1 s.2) s=some e) (hD:Qf6 Γ rv word l e):Qgt Γ rv word l s.1 s.2:=by
 refine QaD (C:=fun (s:List Qab×Int)=>Qgt Γ rv word l s.1 s.2) (D:=fun (e:List Qab)=>Qf6 Γ rv word l e) ?_ h hD
 clear h hD s e
 rintro ⟨l1,i⟩ z_ h hI hE
 replace h:Qfz word l l1 i=_:=h
 unfold Qfz at h
 rcases Qaj h with ⟨h0,h⟩|⟨h0,h⟩
 ·obtain ⟨x0,h1,h⟩:=Qae h
  rcases Qaj h with ⟨h2,h⟩|⟨h2,h⟩
  ·exact gn 14 [0,1,5,6,7] [0] [nL Qab.enc l,bT h0,cE Qab.enc h1,nF h2] (QiA Γ rv h hI hE)
  ·obtain ⟨h3,h⟩:=Qax h
   obtain ⟨h4,h⟩:=Qax h
   exact gn 14 [0,1,5,6,7] [0] [nL Qab.enc l,bT h0,cE Qab.enc h1,nT h2,oO (h3),cE Qab.enc h1,oO (h4)] (QiA Γ rv h hI hE)
 ·exact gn 5 [5] [0] [nL Qab.enc l,bF h0] (hE _ (oJ h))
theorem Qqi {word l} {rv:List Qab} (h:QgU word l=some rv):AFn Tryz.prog 71 [.one (.str word),.one (lL 2 l Qab.enc)] [] (one (lO 0 2 rv Qab.enc)) [oS 2 151 rv Qab.enc]:=by
 refine QaM Tryz.func71 (by kernel_rfl) (by kernel_rfl) (fun Γ=>?_)
 unfold QgU at h
 obtain ⟨e0,h7,h⟩:=Qae h
 refine gn 9 [0,1,5,6] [0] [hW 12,hH (.adopt 5 2 151)] (Qox Γ rv h7 ?_)
 obtain ⟨l2,rfl⟩:∃ x,x=e0:=⟨_,rfl⟩
 replace h:(some l2:Option (List Qab))=some _:=h
 obtain rfl:=Option.some.inj h
 exact gr 2 [0] []
theorem QnW {x0} {rv:List Qab} (h:Qgr x0=some rv):AFn Tryz.prog 39 [.agg (Qac.enc x0)] [] (one (lL 2 rv Qab.enc)) []:=by
 refine QaM Tryz.func39 (by kernel_rfl) (by kernel_rfl) (fun Γ=>?_)
 unfold Qgr at h
 obtain ⟨r,h0,h⟩:=Qae h
 obtain ⟨r1,h1,h⟩:=Qae h
 obtain ⟨r2,h2,h⟩:=Qae h
 obtain ⟨r3,h3,h⟩:=Qae h
 obtain ⟨h4,h⟩:=Qax h
 obtain ⟨r4,h5,h⟩:=Qae h
 obtain ⟨r5,h6,h⟩:=Qae h
 obtain ⟨r6,h7,h⟩:=Qae h
 obtain ⟨h8,h⟩:=Qax h
 obtain ⟨r7,h9,h⟩:=Qae h
 obtain ⟨r8,h10,h⟩:=Qae h
 obtain ⟨h11,h⟩:=Qax h
 obtain rfl:=Option.some.inj h
 exact gr 12 [] [cC (QsP h0),cC (Qqi h1),cC (QsQ h2),cC (QjC h3),aO Qab.enc h4,hH (.draw 13 []),cC (Qgp h5),nL Qai.enc x0.types,cC (QsS h6),cC (QjC h7),aO Qab.enc h8,nL Qah.enc x0.orders,cC (QsU h9),cC (QjC h10),aO Qab.enc h11,hW 5,hH (.frz 4),rp 4 (oO (Eq.refl ((((r1++r3)++r6)++r8).map Qab.enc).length))]
theorem Qhs {x0} {rv:Bool} (h:QhH x0=some rv):AFn Tryz.prog 13 [.agg (Qac.enc x0)] [] (one (.bool rv)) []:=by
 refine QaM Tryz.func13 (by kernel_rfl) (by kernel_rfl) (fun Γ=>?_)
 unfold QhH at h
 rcases Qaj h with ⟨h0,h⟩|⟨h0,h⟩
 ·obtain ⟨r,h1,h⟩:=Qae h
  obtain rfl:=Option.some.inj h
  exact gr 4 [] [nL Qah.enc x0.orders,bT h0,bT h0,cC (QnW h1),bT h0,nL Qab.enc r,bT h0,bT h0]
 ·obtain rfl:=Option.some.inj h
  exact gr 4 [] [nL Qah.enc x0.orders,rp 5 (bF h0)]
def QmD (Γ:Gam) (rv:Int) (cf:Cf):Prop:=Go Tryz.prog Tryz.f41 [] Γ (one (lI rv)) [] cf
def QpS (Γ:Gam) (rv:Int) (l:List Qad) (v:Int) (x0:Qad) (set_1:Int) (v1:Int):Prop:=QmD Γ rv ⟨[.c 29900,.l 29900,.b 2,.b 1,.c 935,.l 116,.b 0,.c 15],⟨37,[vI 3 set_1,vL 8 4 l Qad.enc,vI 9 (lenI l),vI 10 v,vL 15 2 x0.visits Qaa.enc,vI 16 (lenI x0.visits),vI 17 v1],[]⟩⟩
def QoG (Γ:Gam) (rv:Int) (l:List Qad) (v:Int) (x0:Qad) (set_2:Int):Prop:=QmD Γ rv ⟨[.b 1,.c 935,.l 116,.b 0,.c 15],⟨37,[vI 3 set_2,vL 8 4 l Qad.enc,vI 9 (lenI l),vI 10 v],[]⟩⟩
def QpR (Γ:Gam) (rv:Int) (l:List Qad) (set_:Int) (v:Int):Prop:=QmD Γ rv ⟨[.c 116,.l 116,.b 0,.c 15],⟨37,[vI 3 set_,vL 8 4 l Qad.enc,vI 9 (lenI l),vI 10 v],[]⟩⟩
def QoF (Γ:Gam) (rv:Int) (l:List Qad) (set_3:Int):Prop:=QmD Γ rv ⟨[.c 15],⟨37,[vI 3 set_3],[]⟩⟩
theorem Qtq (Γ:Gam) (rv:Int) {l v x0} {s:Int×Int} {e:Int} (h:loopF (fun s=>Qkz l v x0 s.1 s.2) s=some e) (hD:QoG Γ rv l v x0 e):QpS Γ rv l v x0 s.1 s.2:=by
 refine QaD (C:=fun (s:Int×Int)=>QpS Γ rv l v x0 s.1 s.2) (D:=fun (e:Int)=>QoG Γ rv l v x0 e) ?_ h hD
 clear h hD s e
 rintro ⟨set_1,v1⟩ z_ h hI hE
 replace h:Qkz l v x0 set_1 v1=_:=h
 unfold Qkz at h
 rcases Qaj h with ⟨h2,h⟩|⟨h2,h⟩
 ·obtain ⟨x1,h3,h⟩:=Qae h
  rcases Qaj h with ⟨h4,h⟩|⟨h4,h⟩
  ·obtain ⟨h5,h⟩:=Qax h
   exact gn 16 [3,8,9,10,15,16,17] [] [bT h2,cE Qaa.enc h3,rp 4 hP,rp 2 (oI ((geI x1.order 0)=true)),oR True ((geI x1.order 0)=true),bT h4,oO (h5)] (hI _ (oJ h))
  ·exact gn 16 [3,8,9,10,15,16,17] [] [bT h2,cE Qaa.enc h3,rp 4 hP,rp 2 (oI ((geI x1.order 0)=true)),oR True ((geI x1.order 0)=true),bF h4] (hI _ (oJ h))
 ·exact gn 5 [3,8,9,10] [] [bF h2] (hE _ (oJ h))
theorem Qtp (Γ:Gam) (rv:Int) {l} {s:Int×Int} {e:Int} (h:loopF (fun s=>Qky l s.1 s.2) s=some e) (hD:QoF Γ rv l e):QpR Γ rv l s.1 s.2:=by
 refine QaD (C:=fun (s:Int×Int)=>QpR Γ rv l s.1 s.2) (D:=fun (e:Int)=>QoF Γ rv l e) ?_ h hD
 clear h hD s e
 rintro ⟨set_,v⟩ z_ h hI hE
 replace h:Qky l set_ v=_:=h
 unfold Qky at h
 rcases Qaj h with ⟨h0,h⟩|⟨h0,h⟩
 ·obtain ⟨x0,h1,h⟩:=Qae h
  obtain ⟨e0,h6,h⟩:=Qae h
  refine gn 13 [3,8,9,10,15,16,17] [] [bT h0,cE Qad.enc h1,nL Qaa.enc x0.visits] (Qtq Γ rv h6 ?_)
  obtain ⟨set_2,rfl⟩:∃ x,x=e0:=⟨_,rfl⟩
  replace h:(some (.inl (set_2,(addK .i64 v 1))):Option ((Int×Int)⊕(Int)))=some _:=h
  exact gn 3 [3,8,9,10] [] [] (hI _ (oJ h))
 ·exact gn 5 [3] [] [bF h0] (hE _ (oJ h))
theorem Qou {l} {rv:Int} (h:QiU l=some rv):AFn Tryz.prog 41 [.one (lL 4 l Qad.enc)] [] (one (lI rv)) []:=by
 refine QaM Tryz.func41 (by kernel_rfl) (by kernel_rfl) (fun Γ=>?_)
 unfold QiU at h
 obtain ⟨e1,h7,h⟩:=Qae h
 refine gn 9 [3,8,9,10] [] [nL Qad.enc l] (Qtp Γ rv h7 ?_)
 obtain ⟨set_3,rfl⟩:∃ x,x=e1:=⟨_,rfl⟩
 replace h:(some set_3:Option Int)=some _:=h
 obtain rfl:=Option.some.inj h
 exact gr 2 [] []
theorem QgB {n} {rv:List Qad} (h:QbG n=some rv):AFn Tryz.prog 77 [.one (.nils),.one (lI n)] [] (one (lO 0 4 rv Qad.enc)) [oS 4 37 rv Qad.enc]:=by
 refine QaM Tryz.func77 (by kernel_rfl) (by kernel_rfl) (fun Γ=>?_)
 unfold QbG at h
 rcases Qaj h with ⟨h0,h⟩|⟨h0,h⟩
 ·cases h
 ·rcases Qaj h with ⟨h1,h⟩|⟨h1,h⟩
  ·obtain ⟨l,h2,h⟩:=Qae h
   obtain ⟨l1,h3,h⟩:=Qae h
   obtain rfl:=Option.some.inj h
   exact gr 16 [0] [bF h0,bT h1,hH (.cells [lI 0,lI 0,lL 1 ([]:List Bool) QaQ,lL 2 ([]:List Qaa) Qaa.enc]),rp 3 (oO (Int.le_refl 0)),hH (.rows (l.map Qad.enc)),oO (mk1 h2),oO (mk3 h2),oO (mk4 h2),oO (mk5 Qad.enc h2),eL l Qad.enc,hH (.rows (l1.map Qad.enc)),oO (sl2 h3),oO (sl3 Qad.enc h3),oO (sl6c Qad.enc h3)]
  ·obtain rfl:=Option.some.inj h
   exact gr 16 [0] [bF h0,bF h1,hW 5,hH (.adopt 4 4 37)]
def Qb5 (Γ:Gam) (rv:List Qad) (cf:Cf):Prop:=Go Tryz.prog Tryz.f42 [] Γ (one (lL 4 rv Qad.enc)) [] cf
def Qeb (Γ:Gam) (rv:List Qad) (slices:List (List Qad)) (size:Int) (v:Int):Prop:=Qb5 Γ rv ⟨[.c 116,.l 116,.b 0,.c 15],⟨36,[vL 0 1 slices es_T_api_Route.enc,vI 3 size,vL 9 1 slices es_T_api_Route.enc,vI 10 (lenI slices),vI 11 v],[]⟩⟩
def QdY (Γ:Gam) (rv:List Qad) (slices:List (List Qad)) (size1:Int):Prop:=Qb5 Γ rv ⟨[.c 15],⟨36,[vL 0 1 slices es_T_api_Route.enc,vI 3 size1],[]⟩⟩
def Qec (Γ:Gam) (rv:List Qad) (slices:List (List Qad)) (l:List Qad) (v1:Int):Prop:=Qb5 Γ rv ⟨[.c 500,.l 500,.b 2,.c 63],⟨36,[vO 6 0 4 l Qad.enc,vL 25 1 slices es_T_api_Route.enc,vI 26 (lenI slices),vI 27 v1],[oS 4 37 l Qad.enc]⟩⟩
def QdZ (Γ:Gam) (rv:List Qad) (slices:List (List Qad)) (l1:List Qad):Prop:=Qb5 Γ rv ⟨[.c 63],⟨36,[vO 6 0 4 l1 Qad.enc],[oS 4 37 l1 Qad.enc]⟩⟩
theorem Qho (Γ:Gam) (rv:List Qad) {slices} {s:Int×Int} {e:Int} (h:loopF (fun s=>Qb1 slices s.1 s.2) s=some e) (hD:QdY Γ rv slices e):Qeb Γ rv slices s.1 s.2:=by
 refine QaD (C:=fun (s:Int×Int)=>Qeb Γ rv slices s.1 s.2) (D:=fun (e:Int)=>QdY Γ rv slices e) ?_ h hD
 clear h hD s e
 rintro ⟨size,v⟩ z_ h hI hE
 replace h:Qb1 slices size v=_:=h
 unfold Qb1 at h
 rcases Qaj h with ⟨h0,h⟩|⟨h0,h⟩
 ·obtain ⟨x0,h1,h⟩:=Qae h
  rcases Qaj h with ⟨h2,h⟩|⟨h2,h⟩
  ·cases h
  ·exact gn 18 [0,3,9,10,11] [] [bT h0,cE es_T_api_Route.enc h1,nL Qad.enc x0,bF h2] (hI _ (oJ h))
 ·exact gn 5 [0,3] [] [bF h0] (hE _ (oJ h))
theorem Qhp (Γ:Gam) (rv:List Qad) {slices} {s:List Qad×Int} {e:List Qad} (h:loopF (fun s=>Qbt slices s.1 s.2) s=some e) (hD:QdZ Γ rv slices e):Qec Γ rv slices s.1 s.2:=by
 refine QaD (C:=fun (s:List Qad×Int)=>Qec Γ rv slices s.1 s.2) (D:=fun (e:List Qad)=>QdZ Γ rv slices e) ?_ h hD
 clear h hD s e
 rintro ⟨l,v1⟩ z_ h hI hE
 replace h:Qbt slices l v1=_:=h
 unfold Qbt at h
 rcases Qaj h with ⟨h5,h⟩|⟨h5,h⟩
 ·obtain ⟨x1,h6,h⟩:=Qae h
  obtain ⟨h7,h⟩:=Qax h
  exact gn 13 [6,25,26,27] [1] [bT h5,cE es_T_api_Route.enc h6,aO Qad.enc h7] (hI _ (oJ h))
 ·exact gn 5 [6] [0] [bF h5] (hE _ (oJ h))
theorem Qif {slices} {rv:List Qad} (h:Qdq slices=some rv):AFn Tryz.prog 42 [.one (lL 1 slices es_T_api_Route.enc)] [] (one (lL 4 rv Qad.enc)) []:=by
 refine QaM Tryz.func42 (by kernel_rfl) (by kernel_rfl) (fun Γ=>?_)
 unfold Qdq at h
 obtain ⟨e0,h3,h⟩:=Qae h
 refine gn 9 [0,3,9,10,11] [] [nL es_T_api_Route.enc slices] (Qho Γ rv h3 ?_)
 obtain ⟨size1,rfl⟩:∃ x,x=e0:=⟨_,rfl⟩
 replace h:(bnd (QbG size1) fun r=>bnd (loopF (fun s=>Qbt slices s.1 s.2) (r,0)) (fun l1=>some l1):Option (List Qad))=some _:=h
 obtain ⟨r,h4,h⟩:=Qae h
 obtain ⟨e1,h8,h⟩:=Qae h
 refine gn 7 [6,25,26,27] [0] [cC (QgB h4),nL es_T_api_Route.enc slices] (Qhp Γ rv h8 ?_)
 obtain ⟨l1,rfl⟩:∃ x,x=e1:=⟨_,rfl⟩
 replace h:(some l1:Option (List Qad))=some _:=h
 obtain rfl:=Option.some.inj h
 exact gr 2 [] [hW 4,hH (.frz 0),rp 3 (eL l1 Qad.enc)]
def Qp8 (Γ:Gam) (rv:Int×Int) (cf:Cf):Prop:=Go Tryz.prog Tryz.f20 [] Γ (.tup [.one (lI rv.1),.one (lI rv.2)]) [] cf
def Qno (Γ:Gam) (rv:Int×Int) (r:Qad) (set_:Int) (v:Int):Prop:=Qp8 Γ rv ⟨[.c 116,.l 116,.b 0,.c 15],⟨29,[vI 4 set_,vL 8 2 r.visits Qaa.enc,vI 9 (lenI r.visits),vI 10 v],[]⟩⟩
def Qmz (Γ:Gam) (rv:Int×Int) (r:Qad) (set_1:Int):Prop:=Qp8 Γ rv ⟨[.c 15],⟨29,[vI 4 set_1],[]⟩⟩
theorem QrT (Γ:Gam) (rv:Int×Int) {r} {s:Int×Int} {e:(Int)⊕(Int×Int)} (h:loopF (fun s=>Qfk r s.1 s.2) s=some e) (hD:sel e (fun e=>Qmz Γ rv r e) (fun e=>e=rv)):Qno Γ rv r s.1 s.2:=by
 refine QaD (C:=fun (s:Int×Int)=>Qno Γ rv r s.1 s.2) (D:=fun (e:(Int)⊕(Int×Int))=>sel e (fun e=>Qmz Γ rv r e) (fun e=>e=rv)) ?_ h hD
 clear h hD s e
 rintro ⟨set_,v⟩ z_ h hI hE
 replace h:Qfk r set_ v=_:=h
 unfold Qfk at h
 rcases Qaj h with ⟨h0,h⟩|⟨h0,h⟩
 ·obtain ⟨x0,h1,h⟩:=Qae h
  rcases Qaj h with ⟨h2,h⟩|⟨h2,h⟩
  ·obtain rfl:=(hE _ (oJ h):_=rv)
   exact gr 15 [] [bT h0,cE Qaa.enc h1,rp 4 hP,rp 2 (oI ((ltI x0.order 0)=false)),oR True ((ltI x0.order 0)=false),bT h2]
  ·obtain ⟨h3,h⟩:=Qax h
   exact gn 18 [4,8,9,10] [] [bT h0,cE Qaa.enc h1,rp 4 hP,rp 2 (oI ((ltI x0.order 0)=false)),oR True ((ltI x0.order 0)=false),bF h2,oO (h3)] (hI _ (oJ h))
 ·exact gn 5 [4] [] [bF h0] (hE _ (oJ h))
theorem Qcu {r} {rv:Int×Int} (h:Qem r=some rv):AFn Tryz.prog 20 [.agg (Qad.enc r)] [] (.tup [.one (lI rv.1),.one (lI rv.2)]) []:=by
 refine QaM Tryz.func20 (by kernel_rfl) (by kernel_rfl) (fun Γ=>?_)
 unfold Qem at h
 obtain ⟨e0,h4,h⟩:=Qae h
 refine gn 9 [4,8,9,10] [] [nL Qaa.enc r.visits] (QrT Γ rv h4 ?_)
 rcases e0 with e0|e0
 ·obtain ⟨set_1,rfl⟩:∃ x,x=e0:=⟨_,rfl⟩
  replace h:(some (set_1,0):Option (Int×Int))=some _:=h
  obtain rfl:=Option.some.inj h
  exact gr 2 [] []
 ·obtain ⟨r1,rfl⟩:∃ x,x=e0:=⟨_,rfl⟩
  replace h:(some r1:Option (Int×Int))=some _:=h
  exact Option.some.inj h
theorem QjK {x0 set_} {rv:Bool} (h:Qn9 x0 set_=some rv):AFn Tryz.prog 48 [.agg (Qac.enc x0),.one (lI set_)] [] (one (.bool rv)) []:=by
 refine QaM Tryz.func48 (by kernel_rfl) (by kernel_rfl) (fun Γ=>?_)
 unfold Qn9 at h
 rcases Qaj h with ⟨h0,h⟩|⟨h0,h⟩
 ·obtain ⟨h1,h⟩:=Qax h
  obtain rfl:=Option.some.inj h
  exact gr 4 [] [rp 4 (bT h0),nL Qah.enc x0.orders,bT h0,oO (h1),bT h0,bT h0]
 ·obtain rfl:=Option.some.inj h
  exact gr 4 [] [rp 7 (bF h0)]
theorem Qpc {begin} {rv:Bool} (h:QkC begin=some rv):AFn Tryz.prog 49 [.agg (Qad.enc begin)] [] (one (.bool rv)) []:=by
 refine QaM Tryz.func49 (by kernel_rfl) (by kernel_rfl) (fun Γ=>?_)
 unfold QkC at h
 obtain rfl:=Option.some.inj h
 exact gr 4 [] [nL QaQ begin.rests,nL Qaa.enc begin.visits]
def Qe6 (Γ:Gam) (rv:Int) (cf:Cf):Prop:=Go Tryz.prog Tryz.f192 [] Γ (one (lI rv)) [] cf
def Qex (Γ:Gam) (rv:Int) (s0:List Qaa) (v:Qaa) (v1:Int):Prop:=Qe6 Γ rv ⟨[.c 52,.l 52,.b 0,.c 7],⟨19,[vL 0 2 s0 Qaa.enc,vP 3 0 2,vI 7 (lenI s0),vI 8 v1],[oX 2 54 (Qaa.enc v)]⟩⟩
def Qef (Γ:Gam) (rv:Int) (s0:List Qaa) (v:Qaa):Prop:=Qe6 Γ rv ⟨[.c 7],⟨19,[],[]⟩⟩
theorem QhE (Γ:Gam) (rv:Int) {s0 v} {s:Int} {e:(Unit)⊕(Int)} (h:loopF (fun s=>QaT s0 v s) s=some e) (hD:sel e (fun e=>Qef Γ rv s0 v) (fun e=>e=rv)):Qex Γ rv s0 v s:=by
 refine QaD (C:=fun (s:Int)=>Qex Γ rv s0 v s) (D:=fun (e:(Unit)⊕(Int))=>sel e (fun e=>Qef Γ rv s0 v) (fun e=>e=rv)) ?_ h hD
 clear h hD s e
 intro v1 z_ h hI hE
 replace h:QaT s0 v v1=_:=h
 unfold QaT at h
 rcases Qaj h with ⟨h0,h⟩|⟨h0,h⟩
 ·obtain ⟨x0,h1,h⟩:=Qae h
  rcases Qaj h with ⟨h2,h⟩|⟨h2,h⟩
  ·obtain rfl:=(hE _ (oJ h):_=rv)
   exact gr 14 [] [bT h0,hH (.draw 6 []),cE Qaa.enc h1,bT h2]
  ·exact gn 16 [0,3,7,8] [0] [bT h0,hH (.draw 6 []),cE Qaa.enc h1,bF h2] (hI _ (oJ h))
 ·exact gn 5 [] [] [bF h0] (hE _ (oJ h))
theorem QeW {s0 v} {rv:Int} (h:Qbn s0 v=some rv):AFn Tryz.prog 192 [.one (lL 2 s0 Qaa.enc),.agg (Qaa.enc v)] [] (one (lI rv)) []:=by
 refine QaM Tryz.func192 (by kernel_rfl) (by kernel_rfl) (fun Γ=>?_)
 unfold Qbn at h
 obtain ⟨e0,h3,h⟩:=Qae h
 refine gn 7 [0,3,7,8] [0] [nL Qaa.enc s0] (QhE Γ rv h3 ?_)
 rcases e0 with e0|e0
 ·replace h:(some (-1):Option Int)=some _:=h
  obtain rfl:=Option.some.inj h
  exact gr 2 [] []
 ·obtain ⟨r,rfl⟩:∃ x,x=e0:=⟨_,rfl⟩
  replace h:(some r:Option Int)=some _:=h
  exact Option.some.inj h
theorem QcS {l v} {rv:Int} (h:Qen l v=some rv):AFn Tryz.prog 167 [.one (lL 2 l Qaa.enc),.agg (Qaa.enc v)] [] (one (lI rv)) []:=by
 refine QaM Tryz.func167 (by kernel_rfl) (by kernel_rfl) (fun Γ=>?_)
 unfold Qen at h
 obtain ⟨r,h0,h⟩:=Qae h
 obtain rfl:=Option.some.inj h
 exact gr 4 [] [cC (QeW h0)]
def Qrh (Γ:Gam) (rv:Bool) (cf:Cf):Prop:=Go Tryz.prog Tryz.f119 [] Γ (one (.bool rv)) [] cf
def Qot (Γ:Gam) (rv:Bool) (l:List Qaa) (v:Int):Prop:=Qrh Γ rv ⟨[.c 52,.l 52,.b 0,.c 7],⟨19,[vL 0 2 l Qaa.enc,vL 5 2 l Qaa.enc,vI 6 (lenI l),vI 7 v],[]⟩⟩
def Qnv (Γ:Gam) (rv:Bool) (l:List Qaa):Prop:=Qrh Γ rv ⟨[.c 7],⟨19,[],[]⟩⟩
theorem Qsw (Γ:Gam) (rv:Bool) {l} {s:Int} {e:(Unit)⊕(Bool)} (h:loopF (fun s=>Qdn l s) s=some e) (hD:sel e (fun e=>Qnv Γ rv l) (fun e=>e=rv)):Qot Γ rv l s:=by
 refine QaD (C:=fun (s:Int)=>Qot Γ rv l s) (D:=fun (e:(Unit)⊕(Bool))=>sel e (fun e=>Qnv Γ rv l) (fun e=>e=rv)) ?_ h hD
 clear h hD s e
 intro v z_ h hI hE
 replace h:Qdn l v=_:=h
 unfold Qdn at h
 rcases Qaj h with ⟨h0,h⟩|⟨h0,h⟩
 ·obtain ⟨x0,h1,h⟩:=Qae h
  obtain ⟨l1,h2,h⟩:=Qae h
  obtain ⟨r,h3,h⟩:=Qae h
  rcases Qaj h with ⟨h4,h⟩|⟨h4,h⟩
  ·obtain rfl:=(hE _ (oJ h):_=rv)
   exact gr 14 [] [bT h0,cE Qaa.enc h1,hH (.draw 6 []),hH (.rows (l1.map Qaa.enc)),oO (sl1 h2),oO (sl2 h2),oO (sl3 Qaa.enc h2),oO (Int.le_refl v),oO (sl3 Qaa.enc h2),oO (sl6 Qaa.enc h2),cC (QcS h3),bT h4]
  ·exact gn 16 [0,5,6,7] [] [bT h0,cE Qaa.enc h1,hH (.draw 6 []),hH (.rows (l1.map Qaa.enc)),oO (sl1 h2),oO (sl2 h2),oO (sl3 Qaa.enc h2),oO (Int.le_refl v),oO (sl3 Qaa.enc h2),oO (sl6 Qaa.enc h2),cC (QcS h3),bF h4] (hI _ (oJ h))
 ·exact gn 5 [] [] [bF h0] (hE _ (oJ h))
theorem QlS {l} {rv:Bool} (h:QjS l=some rv):AFn Tryz.prog 119 [.one (lL 2 l Qaa.enc)] [] (one (.bool rv)) []:=by
 refine QaM Tryz.func119 (by kernel_rfl) (by kernel_rfl) (fun Γ=>?_)
 unfold QjS at h
 obtain ⟨e0,h5,h⟩:=Qae h
 refine gn 7 [0,5,6,7] [] [nL Qaa.enc l] (Qsw Γ rv h5 ?_)
 rcases e0 with e0|e0
 ·replace h:(some false:Option Bool)=some _:=h
  obtain rfl:=Option.some.inj h
  exact gr 2 [] []
 ·obtain ⟨r1,rfl⟩:∃ x,x=e0:=⟨_,rfl⟩
  replace h:(some r1:Option Bool)=some _:=h
  exact Option.some.inj h
theorem Qia {l at_} {rv:Bool} (h:QmM l at_=some rv):AFn Tryz.prog 89 [.one (lL 16 l Qah.enc),.one (lI at_)] [] (one (.bool rv)) []:=by
 refine QaM Tryz.func89 (by kernel_rfl) (by kernel_rfl) (fun Γ=>?_)
 unfold QmM at h
 obtain rfl:=Option.some.inj h
 exact gr 4 [] [hP,hP,hP,oI ((geI at_ 0)=true),nL Qah.enc l,hP,hP,rp 2 (oI ((geI at_ 0)=true)),oR True ((geI at_ 0)=true)]
def Qwz (Γ:Gam) (rv:List Qaa) (cf:Cf):Prop:=Go Tryz.prog Tryz.f55 [] Γ (one (lL 2 rv Qaa.enc)) [] cf
theorem Qpa (Γ:Gam) (rv:List Qaa) {l at_ l1} (h:Qhi l at_ l1=some rv):Qwz Γ rv ⟨[.c 31],⟨35,[vL 0 16 l Qah.enc,vI 1 at_,vO 5 0 2 l1 Qaa.enc],[oS 2 54 l1 Qaa.enc]⟩⟩:=by
 unfold Qhi at h
 obtain ⟨x1,h5,h⟩:=Qae h
 rcases Qaj h with ⟨h6,h⟩|⟨h6,h⟩
 ·obtain ⟨h7,h⟩:=Qax h
  obtain rfl:=Option.some.inj h
  exact gr 7 [] [cE Qah.enc h5,bT h6,oO (Eq.refl ([(Qaa.mk at_ true)].map Qaa.enc).length),aO Qaa.enc h7,hW 5,hH (.frz 2),rp 4 (oO (Eq.refl ((l1++[(Qaa.mk at_ true)]).map Qaa.enc).length))]
 ·obtain rfl:=Option.some.inj h
  exact gr 7 [] [cE Qah.enc h5,bF h6,hW 5,hH (.frz 0),rp 3 (eL l1 Qaa.enc)]
theorem Qhj {l at_} {rv:List Qaa} (h:QgW l at_=some rv):AFn Tryz.prog 55 [.one (lL 16 l Qah.enc),.one (lI at_)] [] (one (lL 2 rv Qaa.enc)) []:=by
 refine QaM Tryz.func55 (by kernel_rfl) (by kernel_rfl) (fun Γ=>?_)
 unfold QgW at h
 obtain ⟨r,h0,h⟩:=Qae h
 rcases Qaj h with ⟨h1,h⟩|⟨h1,h⟩
 ·obtain ⟨x0,h2,h⟩:=Qae h
  rcases Qaj h with ⟨h3,h⟩|⟨h3,h⟩
  ·obtain ⟨h4,h⟩:=Qax h
   exact gn 14 [0,1,5] [1] [cC (Qia h0),nF h1,cE Qah.enc h2,bT h3,oO (Eq.refl ([(Qaa.mk at_ false)].map Qaa.enc).length),aN (l:=([(Qaa.mk at_ false)]:List Qaa)) Qaa.enc h4] (Qpa Γ rv h)
  ·exact gn 14 [0,1,5] [0] [cC (Qia h0),nF h1,cE Qah.enc h2,bF h3,hW 1,hH (.adopt 5 2 54)] (Qpa Γ rv h)
 ·obtain rfl:=Option.some.inj h
  exact gr 10 [] [cC (Qia h0),nT h1,hW 3,hH (.nilS 4 0 2)]
theorem Qed {s0 v} {rv:Bool} (h:Qbw s0 v=some rv):AFn Tryz.prog 168 [.one (lL 2 s0 Qaa.enc),.agg (Qaa.enc v)] [] (one (.bool rv)) []:=by
 refine QaM Tryz.func168 (by kernel_rfl) (by kernel_rfl) (fun Γ=>?_)
 unfold Qbw at h
 obtain ⟨r,h0,h⟩:=Qae h
 obtain rfl:=Option.some.inj h
 exact gr 4 [] [cC (QeW h0)]
def QiS (Γ:Gam) (rv:Bool) (cf:Cf):Prop:=Go Tryz.prog Tryz.f120 [] Γ (one (.bool rv)) [] cf
def Qnr (Γ:Gam) (rv:Bool) (x0:Qac) (l:List Qaa) (v:Int) (r:List Qaa) (last_:Int) (v1:Int):Prop:=QiS Γ rv ⟨[.c 108156,.l 108156,.b 2,.b 1,.c 423,.l 52,.b 0,.c 7],⟨42,[vL 1 2 l Qaa.enc,vP 2 0 6,vI 8 last_,vL 12 2 l Qaa.enc,vI 13 (lenI l),vI 14 v,vL 27 2 r Qaa.enc,vI 28 (lenI r),vI 29 v1],[oX 6 30 (Qac.enc x0)]⟩⟩
def QmC (Γ:Gam) (rv:Bool) (x0:Qac) (l:List Qaa) (v:Int) (r:List Qaa):Prop:=QiS Γ rv ⟨[.b 1,.c 423,.l 52,.b 0,.c 7],⟨42,[vL 1 2 l Qaa.enc,vP 2 0 6,vL 12 2 l Qaa.enc,vI 13 (lenI l),vI 14 v],[oX 6 30 (Qac.enc x0)]⟩⟩
def Qnq (Γ:Gam) (rv:Bool) (x0:Qac) (l:List Qaa) (v:Int):Prop:=QiS Γ rv ⟨[.c 52,.l 52,.b 0,.c 7],⟨42,[vL 1 2 l Qaa.enc,vP 2 0 6,vL 12 2 l Qaa.enc,vI 13 (lenI l),vI 14 v],[oX 6 30 (Qac.enc x0)]⟩⟩
def QmB (Γ:Gam) (rv:Bool) (x0:Qac) (l:List Qaa):Prop:=QiS Γ rv ⟨[.c 7],⟨42,[],[]⟩⟩
theorem QrV (Γ:Gam) (rv:Bool) {x0 l v r} {s:Int×Int} {e:(Unit)⊕(Bool)} (h:loopF (fun s=>Qbj x0 l v r s.1 s.2) s=some e) (hD:sel e (fun e=>QmC Γ rv x0 l v r) (fun e=>e=rv)):Qnr Γ rv x0 l v r s.1 s.2:=by
 refine QaD (C:=fun (s:Int×Int)=>Qnr Γ rv x0 l v r s.1 s.2) (D:=fun (e:(Unit)⊕(Bool))=>sel e (fun e=>QmC Γ rv x0 l v r) (fun e=>e=rv)) ?_ h hD
 clear h hD s e
 rintro ⟨last_,v1⟩ z_ h hI hE
 replace h:Qbj x0 l v r last_ v1=_:=h
 unfold Qbj at h
 rcases Qaj h with ⟨h5,h⟩|⟨h5,h⟩
 ·obtain ⟨x2,h6,h⟩:=Qae h
  obtain ⟨r2,h7,h⟩:=Qae h
  rcases Qaj h with ⟨h8,h⟩|⟨h8,h⟩
  ·obtain rfl:=(hE _ (oJ h):_=rv)
   exact gr 17 [] [bT h5,cE Qaa.enc h6,cC (QcS h7),bT h8]
  ·exact gn 20 [1,2,8,12,13,14,27,28,29] [0] [bT h5,cE Qaa.enc h6,cC (QcS h7),bF h8] (hI _ (oJ h))
 ·exact gn 5 [1,2,12,13,14] [0] [bF h5] (hE _ (oJ h))
theorem QrU (Γ:Gam) (rv:Bool) {x0 l} {s:Int} {e:(Unit)⊕(Bool)} (h:loopF (fun s=>Qc2 x0 l s) s=some e) (hD:sel e (fun e=>QmB Γ rv x0 l) (fun e=>e=rv)):Qnq Γ rv x0 l s:=by
 refine QaD (C:=fun (s:Int)=>Qnq Γ rv x0 l s) (D:=fun (e:(Unit)⊕(Bool))=>sel e (fun e=>QmB Γ rv x0 l) (fun e=>e=rv)) ?_ h hD
 clear h hD s e
 intro v z_ h hI hE
 replace h:Qc2 x0 l v=_:=h
 unfold Qc2 at h
 rcases Qaj h with ⟨h0,h⟩|⟨h0,h⟩
 ·obtain ⟨x1,h1,h⟩:=Qae h
  obtain ⟨r,h2,h⟩:=Qae h
  obtain ⟨r1,h3,h⟩:=Qae h
  rcases Qaj h with ⟨h4,h⟩|⟨h4,h⟩
  ·obtain ⟨e0,h9,h⟩:=Qae h
   refine gn 22 [1,2,8,12,13,14,27,28,29] [0] [bT h0,cE Qaa.enc h1,cC (Qhj h2),cC (Qed h3),nF h4,nL Qaa.enc r] (QrV Γ rv h9 ?_)
   rcases e0 with e0|e0
   ·replace h:(some (.inl (addK .i64 v 1)):Option ((Int)⊕((Unit)⊕(Bool))))=some _:=h
    exact gn 3 [1,2,12,13,14] [0] [] (hI _ (oJ h))
   ·obtain ⟨r3,rfl⟩:∃ x,x=e0:=⟨_,rfl⟩
    replace h:(some (.inr (.inr r3)):Option ((Int)⊕((Unit)⊕(Bool))))=some _:=h
    exact (hE _ (oJ h):_=rv)
  ·obtain rfl:=(hE _ (oJ h):_=rv)
   exact gr 17 [] [bT h0,cE Qaa.enc h1,cC (Qhj h2),cC (Qed h3),nT h4]
 ·exact gn 5 [] [] [bF h0] (hE _ (oJ h))
theorem Qpq {x0 l} {rv:Bool} (h:QiI x0 l=some rv):AFn Tryz.prog 120 [.agg (Qac.enc x0),.one (lL 2 l Qaa.enc)] [] (one (.bool rv)) []:=by
 refine QaM Tryz.func120 (by kernel_rfl) (by kernel_rfl) (fun Γ=>?_)
 unfold QiI at h
 obtain ⟨e1,h10,h⟩:=Qae h
 refine gn 7 [1,2,12,13,14] [0] [nL Qaa.enc l] (QrU Γ rv h10 ?_)
 rcases e1 with e1|e1
 ·replace h:(some true:Option Bool)=some _:=h
  obtain rfl:=Option.some.inj h
  exact gr 2 [] []
 ·obtain ⟨r4,rfl⟩:∃ x,x=e1:=⟨_,rfl⟩
  replace h:(some r4:Option Bool)=some _:=h
  exact Option.some.inj h
theorem Qp9 {v c} {rv:Bool} (h:QmH v c=some rv):AFn Tryz.prog 169 [.agg (Qaa.enc v),.one (.ip [lI c] 0)] [] (one (.bool rv)) []:=by
 refine QaM Tryz.func169 (by kernel_rfl) (by kernel_rfl) (fun Γ=>?_)
 unfold QmH at h
 obtain rfl:=Option.some.inj h
 exact gr 4 [] []
def Qdo (Γ:Gam) (rv:Int) (cf:Cf):Prop:=Go Tryz.prog Tryz.f166 [] Γ (one (lI rv)) [] cf
def Qc6 (Γ:Gam) (rv:Int) (s0:List Qaa) (c:Int) (v:Int):Prop:=Qdo Γ rv ⟨[.c 52,.l 52,.b 0,.c 7],⟨19,[vL 0 2 s0 Qaa.enc,(1,one (.fn (.func 169) [.ip [lI c] 0])),vI 7 (lenI s0),vI 8 v],[]⟩⟩
def QcV (Γ:Gam) (rv:Int) (s0:List Qaa) (c:Int):Prop:=Qdo Γ rv ⟨[.c 7],⟨19,[],[]⟩⟩
theorem QfB (Γ:Gam) (rv:Int) {s0 c} {s:Int} {e:(Unit)⊕(Int)} (h:loopF (fun s=>QaI s0 c s) s=some e) (hD:sel e (fun e=>QcV Γ rv s0 c) (fun e=>e=rv)):Qc6 Γ rv s0 c s:=by
 refine QaD (C:=fun (s:Int)=>Qc6 Γ rv s0 c s) (D:=fun (e:(Unit)⊕(Int))=>sel e (fun e=>QcV Γ rv s0 c) (fun e=>e=rv)) ?_ h hD
 clear h hD s e
 intro v z_ h hI hE
 replace h:QaI s0 c v=_:=h
 unfold QaI at h
 rcases Qaj h with ⟨h0,h⟩|⟨h0,h⟩
 ·obtain ⟨x0,h1,h⟩:=Qae h
  obtain ⟨r,h2,h⟩:=Qae h
  rcases Qaj h with ⟨h3,h⟩|⟨h3,h⟩
  ·obtain rfl:=(hE _ (oJ h):_=rv)
   exact gr 14 [] [bT h0,cE Qaa.enc h1,cC (Qp9 h2),bT h3]
  ·exact gn 16 [0,1,7,8] [] [bT h0,cE Qaa.enc h1,cC (Qp9 h2),bF h3] (hI _ (oJ h))
 ·exact gn 5 [] [] [bF h0] (hE _ (oJ h))
theorem Qga {s0 c} {rv:Int} (h:Qa8 s0 c=some rv):AFn Tryz.prog 166 [.one (lL 2 s0 Qaa.enc),.one (.fn (.func 169) [.ip [lI c] 0])] [] (one (lI rv)) []:=by
 refine QaM Tryz.func166 (by kernel_rfl) (by kernel_rfl) (fun Γ=>?_)
 unfold Qa8 at h
 obtain ⟨e0,h4,h⟩:=Qae h
 refine gn 7 [0,1,7,8] [] [nL Qaa.enc s0] (QfB Γ rv h4 ?_)
 rcases e0 with e0|e0
 ·replace h:(some (-1):Option Int)=some _:=h
  obtain rfl:=Option.some.inj h
  exact gr 2 [] []
 ·obtain ⟨r1,rfl⟩:∃ x,x=e0:=⟨_,rfl⟩
  replace h:(some r1:Option Int)=some _:=h
  exact Option.some.inj h
theorem QfA {s0 c} {rv:Bool} (h:Qbl s0 c=some rv):AFn Tryz.prog 116 [.one (lL 2 s0 Qaa.enc),.one (.fn (.func 169) [.ip [lI c] 0])] [] (one (.bool rv)) []:=by
 refine QaM Tryz.func116 (by kernel_rfl) (by kernel_rfl) (fun Γ=>?_)
 unfold Qbl at h
 obtain ⟨r,h0,h⟩:=Qae h
 obtain rfl:=Option.some.inj h
 exact gr 4 [] [cC (Qga h0)]
theorem Qe4 {l o} {rv:Bool} (h:QhX l o=some rv):AFn Tryz.prog 121 [.one (lL 2 l Qaa.enc),.one (lI o)] [] (one (.bool rv)) []:=by
 refine QaM Tryz.func121 (by kernel_rfl) (by kernel_rfl) (fun Γ=>?_)
 unfold QhX at h
 obtain ⟨r,h0,h⟩:=Qae h
 obtain rfl:=Option.some.inj h
 exact gr 4 [] [cC (QfA h0)]
theorem Qnp {v c} {rv:Bool} (h:QiR v c=some rv):AFn Tryz.prog 170 [.agg (Qaa.enc v),.one (.ip [lI c] 0)] [] (one (.bool rv)) []:=by
 refine QaM Tryz.func170 (by kernel_rfl) (by kernel_rfl) (fun Γ=>?_)
 unfold QiR at h
 obtain rfl:=Option.some.inj h
 exact gr 4 [] []
def Qc5 (Γ:Gam) (rv:Int) (cf:Cf):Prop:=Go Tryz.prog Tryz.f166 [] Γ (one (lI rv)) [] cf
def QcH (Γ:Gam) (rv:Int) (s0:List Qaa) (c:Int) (v:Int):Prop:=Qc5 Γ rv ⟨[.c 52,.l 52,.b 0,.c 7],⟨19,[vL 0 2 s0 Qaa.enc,(1,one (.fn (.func 170) [.ip [lI c] 0])),vI 7 (lenI s0),vI 8 v],[]⟩⟩
def QcE (Γ:Gam) (rv:Int) (s0:List Qaa) (c:Int):Prop:=Qc5 Γ rv ⟨[.c 7],⟨19,[],[]⟩⟩
theorem Qe2 (Γ:Gam) (rv:Int) {s0 c} {s:Int} {e:(Unit)⊕(Int)} (h:loopF (fun s=>QaF s0 c s) s=some e) (hD:sel e (fun e=>QcE Γ rv s0 c) (fun e=>e=rv)):QcH Γ rv s0 c s:=by
 refine QaD (C:=fun (s:Int)=>QcH Γ rv s0 c s) (D:=fun (e:(Unit)⊕(Int))=>sel e (fun e=>QcE Γ rv s0 c) (fun e=>e=rv)) ?_ h hD
 clear h hD s e
 intro v z_ h hI hE
 replace h:QaF s0 c v=_:=h
 unfold QaF at h
 rcases Qaj h with ⟨h0,h⟩|⟨h0,h⟩
 ·obtain ⟨x0,h1,h⟩:=Qae h
  obtain ⟨r,h2,h⟩:=Qae h
  rcases Qaj h with ⟨h3,h⟩|⟨h3,h⟩
  ·obtain rfl:=(hE _ (oJ h):_=rv)
   exact gr 14 [] [bT h0,cE Qaa.enc h1,cC (Qnp h2),bT h3]
  ·exact gn 16 [0,1,7,8] [] [bT h0,cE Qaa.enc h1,cC (Qnp h2),bF h3] (hI _ (oJ h))
 ·exact gn 5 [] [] [bF h0] (hE _ (oJ h))
theorem QbJ {s0 c} {rv:Int} (h:Qa5 s0 c=some rv):AFn Tryz.prog 166 [.one (lL 2 s0 Qaa.enc),.one (.fn (.func 170) [.ip [lI c] 0])] [] (one (lI rv)) []:=by
 refine QaM Tryz.func166 (by kernel_rfl) (by kernel_rfl) (fun Γ=>?_)
 unfold Qa5 at h
 obtain ⟨e0,h4,h⟩:=Qae h
 refine gn 7 [0,1,7,8] [] [nL Qaa.enc s0] (Qe2 Γ rv h4 ?_)
 rcases e0 with e0|e0
 ·replace h:(some (-1):Option Int)=some _:=h
  obtain rfl:=Option.some.inj h
  exact gr 2 [] []
 ·obtain ⟨r1,rfl⟩:∃ x,x=e0:=⟨_,rfl⟩
  replace h:(some r1:Option Int)=some _:=h
  exact Option.some.inj h
theorem Qpp {l a b} {rv:Bool} (h:QiH l a b=some rv):AFn Tryz.prog 122 [.one (lL 2 l Qaa.enc),.one (lI a),.one (lI b)] [] (one (.bool rv)) []:=by
 refine QaM Tryz.func122 (by kernel_rfl) (by kernel_rfl) (fun Γ=>?_)
 unfold QiH at h
 obtain ⟨r,h0,h⟩:=Qae h
 rcases Qaj h with ⟨h1,h⟩|⟨h1,h⟩
 ·obtain rfl:=Option.some.inj h
  exact gr 10 [] [cC (QbJ h0),bT h1]
 ·obtain ⟨r1,h2,h⟩:=Qae h
  rcases Qaj h with ⟨h3,h⟩|⟨h3,h⟩
  ·obtain ⟨l1,h4,h⟩:=Qae h
   obtain ⟨r2,h5,h⟩:=Qae h
   obtain rfl:=Option.some.inj h
   exact gr 11 [] [cC (QbJ h0),bF h1,cC (Qe4 h2),rp 3 (bT h3),hH (.rows (l1.map Qaa.enc)),oO (sl1 h4),oO (sl2h Qaa.enc h4),rp 3 (oO (Int.le_refl ((l.map Qaa.enc).length:Int))),oO (sl6h Qaa.enc h4),bT h3,bT h3,cC (Qe4 h5),bT h3,bT h3]
  ·obtain rfl:=Option.some.inj h
   exact gr 11 [] [cC (QbJ h0),bF h1,cC (Qe4 h2),rp 7 (bF h3)]
theorem Qoj {v c} {rv:Bool} (h:QjO v c=some rv):AFn Tryz.prog 117 [.agg (Qaa.enc v),.one (.ip (Qac.enc c) 0)] [] (one (.bool rv)) []:=by
 refine QaM Tryz.func117 (by kernel_rfl) (by kernel_rfl) (fun Γ=>?_)
 unfold QjO at h
 obtain rfl:=Option.some.inj h
 exact gr 4 [] [rp 5 hP,rp 3 (oI ((ltI v.order 0)=false)),nL Qah.enc c.orders,hP,hP,rp 2 (oI ((ltI v.order 0)=false)),oR True ((ltI v.order 0)=false)]
def Qde (Γ:Gam) (rv:Int) (cf:Cf):Prop:=Go Tryz.prog Tryz.f166 [] Γ (one (lI rv)) [] cf
def QcM (Γ:Gam) (rv:Int) (s0:List Qaa) (c:Qac) (v:Int):Prop:=Qde Γ rv ⟨[.c 52,.l 52,.b 0,.c 7],⟨19,[vL 0 2 s0 Qaa.enc,(1,one (.fn (.func 117) [.ip (Qac.enc c) 0])),vI 7 (lenI s0),vI 8 v],[]⟩⟩
def QcF (Γ:Gam) (rv:Int) (s0:List Qaa) (c:Qac):Prop:=Qde Γ rv ⟨[.c 7],⟨19,[],[]⟩⟩
theorem Qfm (Γ:Gam) (rv:Int) {s0 c} {s:Int} {e:(Unit)⊕(Int)} (h:loopF (fun s=>QaG s0 c s) s=some e) (hD:sel e (fun e=>QcF Γ rv s0 c) (fun e=>e=rv)):QcM Γ rv s0 c s:=by
 refine QaD (C:=fun (s:Int)=>QcM Γ rv s0 c s) (D:=fun (e:(Unit)⊕(Int))=>sel e (fun e=>QcF Γ rv s0 c) (fun e=>e=rv)) ?_ h hD
 clear h hD s e
 intro v z_ h hI hE
 replace h:QaG s0 c v=_:=h
 unfold QaG at h
 rcases Qaj h with ⟨h0,h⟩|⟨h0,h⟩
 ·obtain ⟨x0,h1,h⟩:=Qae h
  obtain ⟨r,h2,h⟩:=Qae h
  rcases Qaj h with ⟨h3,h⟩|⟨h3,h⟩
  ·obtain rfl:=(hE _ (oJ h):_=rv)
   exact gr 14 [] [bT h0,cE Qaa.enc h1,cC (Qoj h2),bT h3]
  ·exact gn 16 [0,1,7,8] [] [bT h0,cE Qaa.enc h1,cC (Qoj h2),bF h3] (hI _ (oJ h))
 ·exact gn 5 [] [] [bF h0] (hE _ (oJ h))
theorem QfC {s0 c} {rv:Int} (h:Qa6 s0 c=some rv):AFn Tryz.prog 166 [.one (lL 2 s0 Qaa.enc),.one (.fn (.func 117) [.ip (Qac.enc c) 0])] [] (one (lI rv)) []:=by
 refine QaM Tryz.func166 (by kernel_rfl) (by kernel_rfl) (fun Γ=>?_)
 unfold Qa6 at h
 obtain ⟨e0,h4,h⟩:=Qae h
 refine gn 7 [0,1,7,8] [] [nL Qaa.enc s0] (Qfm Γ rv h4 ?_)
 rcases e0 with e0|e0
 ·replace h:(some (-1):Option Int)=some _:=h
  obtain rfl:=Option.some.inj h
  exact gr 2 [] []
 ·obtain ⟨r1,rfl⟩:∃ x,x=e0:=⟨_,rfl⟩
  replace h:(some r1:Option Int)=some _:=h
  exact Option.some.inj h
theorem QaY {s0 c} {rv:Bool} (h:Qa2 s0 c=some rv):AFn Tryz.prog 116 [.one (lL 2 s0 Qaa.enc),.one (.fn (.func 117) [.ip (Qac.enc c) 0])] [] (one (.bool rv)) []:=by
 refine QaM Tryz.func116 (by kernel_rfl) (by kernel_rfl) (fun Γ=>?_)
 unfold Qa2 at h
 obtain ⟨r,h0,h⟩:=Qae h
 obtain rfl:=Option.some.inj h
 exact gr 4 [] [cC (QfC h0)]
theorem Qok {v c} {rv:Bool} (h:QjP v c=some rv):AFn Tryz.prog 118 [.agg (Qaa.enc v),.one (.ip (Qac.enc c) 0)] [] (one (.bool rv)) []:=by
 refine QaM Tryz.func118 (by kernel_rfl) (by kernel_rfl) (fun Γ=>?_)
 unfold QjP at h
 obtain ⟨x0,h0,h⟩:=Qae h
 obtain rfl:=Option.some.inj h
 exact gr 4 [] [cE Qah.enc h0]
def Qdf (Γ:Gam) (rv:Int) (cf:Cf):Prop:=Go Tryz.prog Tryz.f166 [] Γ (one (lI rv)) [] cf
def QcN (Γ:Gam) (rv:Int) (s0:List Qaa) (c:Qac) (v:Int):Prop:=Qdf Γ rv ⟨[.c 52,.l 52,.b 0,.c 7],⟨19,[vL 0 2 s0 Qaa.enc,(1,one (.fn (.func 118) [.ip (Qac.enc c) 0])),vI 7 (lenI s0),vI 8 v],[]⟩⟩
def QcG (Γ:Gam) (rv:Int) (s0:List Qaa) (c:Qac):Prop:=Qdf Γ rv ⟨[.c 7],⟨19,[],[]⟩⟩
theorem Qfn (Γ:Gam) (rv:Int) {s0 c} {s:Int} {e:(Unit)⊕(Int)} (h:loopF (fun s=>QaH s0 c s) s=some e) (hD:sel e (fun e=>QcG Γ rv s0 c) (fun e=>e=rv)):QcN Γ rv s0 c s:=by
 refine QaD (C:=fun (s:Int)=>QcN Γ rv s0 c s) (D:=fun (e:(Unit)⊕(Int))=>sel e (fun e=>QcG Γ rv s0 c) (fun e=>e=rv)) ?_ h hD
 clear h hD s e
 intro v z_ h hI hE
 replace h:QaH s0 c v=_:=h
 unfold QaH at h
 rcases Qaj h with ⟨h0,h⟩|⟨h0,h⟩
 ·obtain ⟨x0,h1,h⟩:=Qae h
  obtain ⟨r,h2,h⟩:=Qae h
  rcases Qaj h with ⟨h3,h⟩|⟨h3,h⟩
  ·obtain rfl:=(hE _ (oJ h):_=rv)
   exact gr 14 [] [bT h0,cE Qaa.enc h1,cC (Qok h2),bT h3]
  ·exact gn 16 [0,1,7,8] [] [bT h0,cE Qaa.enc h1,cC (Qok h2),bF h3] (hI _ (oJ h))
 ·exact gn 5 [] [] [bF h0] (hE _ (oJ h))
theorem QfD {s0 c} {rv:Int} (h:Qa7 s0 c=some rv):AFn Tryz.prog 166 [.one (lL 2 s0 Qaa.enc),.one (.fn (.func 118) [.ip (Qac.enc c) 0])] [] (one (lI rv)) []:=by
 refine QaM Tryz.func166 (by kernel_rfl) (by kernel_rfl) (fun Γ=>?_)
 unfold Qa7 at h
 obtain ⟨e0,h4,h⟩:=Qae h
 refine gn 7 [0,1,7,8] [] [nL Qaa.enc s0] (Qfn Γ rv h4 ?_)
 rcases e0 with e0|e0
 ·replace h:(some (-1):Option Int)=some _:=h
  obtain rfl:=Option.some.inj h
  exact gr 2 [] []
 ·obtain ⟨r1,rfl⟩:∃ x,x=e0:=⟨_,rfl⟩
  replace h:(some r1:Option Int)=some _:=h
  exact Option.some.inj h
theorem Qa9 {s0 c} {rv:Bool} (h:Qa3 s0 c=some rv):AFn Tryz.prog 116 [.one (lL 2 s0 Qaa.enc),.one (.fn (.func 118) [.ip (Qac.enc c) 0])] [] (one (.bool rv)) []:=by
 refine QaM Tryz.func116 (by kernel_rfl) (by kernel_rfl) (fun Γ=>?_)
 unfold Qa3 at h
 obtain ⟨r,h0,h⟩:=Qae h
 obtain rfl:=Option.some.inj h
 exact gr 4 [] [cC (QfD h0)]
def QjQ (Γ:Gam) (rv:Int) (cf:Cf):Prop:=Go Tryz.prog Tryz.f79 [] Γ (one (lI rv)) [] cf
def Qol (Γ:Gam) (rv:Int) (x0:Qac) (r:Qad) (v:Int):Prop:=QjQ Γ rv ⟨[.c 500,.l 500,.b 1,.c 63],⟨65,[vP 2 0 6,vL 5 2 r.visits Qaa.enc,vL 33 2 x0.apart QaC.enc,vI 34 (lenI x0.apart),vI 35 v],[oX 6 30 (Qac.enc x0)]⟩⟩
def Qnl (Γ:Gam) (rv:Int) (x0:Qac) (r:Qad):Prop:=QjQ Γ rv ⟨[.c 63],⟨65,[vP 2 0 6,vL 5 2 r.visits Qaa.enc],[oX 6 30 (Qac.enc x0)]⟩⟩
def Qom (Γ:Gam) (rv:Int) (x0:Qac) (r:Qad) (v1:Int):Prop:=QjQ Γ rv ⟨[.c 1012,.l 1012,.b 3,.c 127],⟨65,[vL 5 2 r.visits Qaa.enc,vL 51 2 x0.before QaC.enc,vI 52 (lenI x0.before),vI 53 v1],[]⟩⟩
def Qnm (Γ:Gam) (rv:Int) (x0:Qac) (r:Qad):Prop:=QjQ Γ rv ⟨[.c 127],⟨65,[],[]⟩⟩
theorem Qsr (Γ:Gam) (rv:Int) {x0 r} {s:Int} {e:(Unit)⊕(Int)} (h:loopF (fun s=>Qdl x0 r s) s=some e) (hD:sel e (fun e=>Qnl Γ rv x0 r) (fun e=>e=rv)):Qol Γ rv x0 r s:=by
 refine QaD (C:=fun (s:Int)=>Qol Γ rv x0 r s) (D:=fun (e:(Unit)⊕(Int))=>sel e (fun e=>Qnl Γ rv x0 r) (fun e=>e=rv)) ?_ h hD
 clear h hD s e
 intro v z_ h hI hE
 replace h:Qdl x0 r v=_:=h
 unfold Qdl at h
 rcases Qaj h with ⟨h9,h⟩|⟨h9,h⟩
 ·obtain ⟨x1,h10,h⟩:=Qae h
  obtain ⟨r5,h11,h⟩:=Qae h
  rcases Qaj h with ⟨h12,h⟩|⟨h12,h⟩
  ·obtain ⟨r6,h13,h⟩:=Qae h
   rcases Qaj h with ⟨h14,h⟩|⟨h14,h⟩
   ·obtain rfl:=(hE _ (oJ h):_=rv)
    exact gr 14 [] [bT h9,cE QaC.enc h10,oO (zL 0),oO (lT 0 2),cC (Qe4 h11),rp 2 (bT h12),oO (zL 1),oO (lT 1 2),rp 2 (bT h12),cC (Qe4 h13),bT h12,bT h14]
   ·exact gn 16 [2,5,33,34,35] [0] [bT h9,cE QaC.enc h10,oO (zL 0),oO (lT 0 2),cC (Qe4 h11),rp 2 (bT h12),oO (zL 1),oO (lT 1 2),rp 2 (bT h12),cC (Qe4 h13),bT h12,bF h14] (hI _ (oJ h))
  ·exact gn 16 [2,5,33,34,35] [0] [bT h9,cE QaC.enc h10,oO (zL 0),oO (lT 0 2),cC (Qe4 h11),rp 5 (bF h12),fF] (hI _ (oJ h))
 ·exact gn 5 [2,5] [0] [bF h9] (hE _ (oJ h))
theorem Qss (Γ:Gam) (rv:Int) {x0 r} {s:Int} {e:(Unit)⊕(Int)} (h:loopF (fun s=>QcR x0 r s) s=some e) (hD:sel e (fun e=>Qnm Γ rv x0 r) (fun e=>e=rv)):Qom Γ rv x0 r s:=by
 refine QaD (C:=fun (s:Int)=>Qom Γ rv x0 r s) (D:=fun (e:(Unit)⊕(Int))=>sel e (fun e=>Qnm Γ rv x0 r) (fun e=>e=rv)) ?_ h hD
 clear h hD s e
 intro v1 z_ h hI hE
 replace h:QcR x0 r v1=_:=h
 unfold QcR at h
 rcases Qaj h with ⟨h16,h⟩|⟨h16,h⟩
 ·obtain ⟨x2,h17,h⟩:=Qae h
  obtain ⟨r7,h18,h⟩:=Qae h
  rcases Qaj h with ⟨h19,h⟩|⟨h19,h⟩
  ·exact gn 16 [5,51,52,53] [] [bT h16,cE QaC.enc h17,oO (zL 0),oO (lT 0 2),oO (zL 1),oO (lT 1 2),cC (Qpp h18),nF h19] (hI _ (oJ h))
  ·obtain rfl:=(hE _ (oJ h):_=rv)
   exact gr 14 [] [bT h16,cE QaC.enc h17,oO (zL 0),oO (lT 0 2),oO (zL 1),oO (lT 1 2),cC (Qpp h18),nT h19]
 ·exact gn 5 [] [] [bF h16] (hE _ (oJ h))
theorem QdS {x0 r} {rv:Int} (h:Qie x0 r=some rv):AFn Tryz.prog 79 [.agg (Qac.enc x0),.agg (Qad.enc r)] [] (one (lI rv)) []:=by
 refine QaM Tryz.func79 (by kernel_rfl) (by kernel_rfl) (fun Γ=>?_)
 unfold Qie at h
 rcases Qaj h with ⟨h0,h⟩|⟨h0,h⟩
 ·obtain rfl:=Option.some.inj h
  exact gr 10 [] [nL Qaa.enc r.visits,rp 4 (bT h0),tT]
 ·obtain ⟨r1,h1,h⟩:=Qae h
  rcases Qaj h with ⟨h2,h⟩|⟨h2,h⟩
  ·obtain rfl:=Option.some.inj h
   exact gr 10 [] [nL Qaa.enc r.visits,rp 3 (bF h0),cC (QaY h1),bF h0,bT h2]
  ·obtain ⟨r2,h3,h⟩:=Qae h
   rcases Qaj h with ⟨h4,h⟩|⟨h4,h⟩
   ·obtain rfl:=Option.some.inj h
    exact gr 16 [] [nL Qaa.enc r.visits,rp 3 (bF h0),cC (QaY h1),bF h0,bF h2,cC (Qa9 h3),bT h4]
   ·obtain ⟨r3,h5,h⟩:=Qae h
    rcases Qaj h with ⟨h6,h⟩|⟨h6,h⟩
    ·obtain rfl:=Option.some.inj h
     exact gr 19 [] [nL Qaa.enc r.visits,rp 3 (bF h0),cC (QaY h1),bF h0,bF h2,cC (Qa9 h3),bF h4,cC (QlS h5),bT h6]
    ·obtain ⟨r4,h7,h⟩:=Qae h
     rcases Qaj h with ⟨h8,h⟩|⟨h8,h⟩
     ·obtain ⟨e0,h15,h⟩:=Qae h
      refine gn 27 [2,5,33,34,35] [0] [nL Qaa.enc r.visits,rp 3 (bF h0),cC (QaY h1),bF h0,bF h2,cC (Qa9 h3),bF h4,cC (QlS h5),bF h6,cC (Qpq h7),nF h8,nL QaC.enc x0.apart] (Qsr Γ rv h15 ?_)
      rcases e0 with e0|e0
      ·replace h:(bnd (loopF (fun s=>QcR x0 r s) 0) (fun e=>sel e (fun (_:Unit)=>some 0) (fun r8=>some r8)):Option Int)=some _:=h
       obtain ⟨e1,h20,h⟩:=Qae h
       refine gn 5 [5,51,52,53] [] [nL QaC.enc x0.before] (Qss Γ rv h20 ?_)
       rcases e1 with e1|e1
       ·replace h:(some 0:Option Int)=some _:=h
        obtain rfl:=Option.some.inj h
        exact gr 2 [] []
       ·obtain ⟨r8,rfl⟩:∃ x,x=e1:=⟨_,rfl⟩
        replace h:(some r8:Option Int)=some _:=h
        exact Option.some.inj h
      ·obtain ⟨r9,rfl⟩:∃ x,x=e0:=⟨_,rfl⟩
       replace h:(some r9:Option Int)=some _:=h
       exact Option.some.inj h
     ·obtain rfl:=Option.some.inj h
      exact gr 22 [] [nL Qaa.enc r.visits,rp 3 (bF h0),cC (QaY h1),bF h0,bF h2,cC (Qa9 h3),bF h4,cC (QlS h5),bF h6,cC (Qpq h7),nT h8]
theorem Qt1 {t skills} {rv:Bool} (h:QmX t skills=some rv):AFn Tryz.prog 123 [.agg (Qai.enc t),.one (lI skills)] [] (one (.bool rv)) []:=by
 refine QaM Tryz.func123 (by kernel_rfl) (by kernel_rfl) (fun Γ=>?_)
 unfold QmX at h
 obtain rfl:=Option.some.inj h
 exact gr 4 [] [rp 9 hP,oI ((geI t.skills 0)=true),oR True ((geI t.skills 0)=true),rp 4 (oI (((geI t.skills 0)&&(geI skills 0))=true)),oR True (((geI t.skills 0)&&(geI skills 0))=true)]
def Qvf (Γ:Gam) (rv:Int) (cf:Cf):Prop:=Go Tryz.prog Tryz.f80 [] Γ (one (lI rv)) [] cf
def Qr9 (Γ:Gam) (rv:Int) (x0:Qac) (r:Qad) (v:Int):Prop:=Qvf Γ rv ⟨[.c 52,.l 52,.b 0,.c 7],⟨30,[vP 2 0 6,vP 3 1 4,vL 8 2 r.visits Qaa.enc,vI 9 (lenI r.visits),vI 10 v],[oX 6 30 (Qac.enc x0),oX 4 37 (Qad.enc r)]⟩⟩
def Qre (Γ:Gam) (rv:Int) (x0:Qac) (r:Qad):Prop:=Qvf Γ rv ⟨[.c 7],⟨30,[],[]⟩⟩
theorem Qvg (Γ:Gam) (rv:Int) {x0 r} {s:Int} {e:(Unit)⊕(Int)} (h:loopF (fun s=>Qf1 x0 r s) s=some e) (hD:sel e (fun e=>Qre Γ rv x0 r) (fun e=>e=rv)):Qr9 Γ rv x0 r s:=by
 refine QaD (C:=fun (s:Int)=>Qr9 Γ rv x0 r s) (D:=fun (e:(Unit)⊕(Int))=>sel e (fun e=>Qre Γ rv x0 r) (fun e=>e=rv)) ?_ h hD
 clear h hD s e
 intro v z_ h hI hE
 replace h:Qf1 x0 r v=_:=h
 unfold Qf1 at h
 rcases Qaj h with ⟨h0,h⟩|⟨h0,h⟩
 ·obtain ⟨x1,h1,h⟩:=Qae h
  obtain ⟨x2,h2,h⟩:=Qae h
  obtain ⟨x3,h3,h⟩:=Qae h
  obtain ⟨r1,h4,h⟩:=Qae h
  rcases Qaj h with ⟨h5,h⟩|⟨h5,h⟩
  ·exact gn 16 [2,3,8,9,10] [0,1] [bT h0,cE Qaa.enc h1,hH (.draw 15 []),cE Qai.enc h2,cE Qah.enc h3,cC (Qt1 h4),nF h5] (hI _ (oJ h))
  ·obtain rfl:=(hE _ (oJ h):_=rv)
   exact gr 14 [] [bT h0,cE Qaa.enc h1,hH (.draw 15 []),cE Qai.enc h2,cE Qah.enc h3,cC (Qt1 h4),nT h5]
 ·exact gn 5 [] [] [bF h0] (hE _ (oJ h))
theorem Qoa {x0 r} {rv:Int} (h:Qrd x0 r=some rv):AFn Tryz.prog 80 [.agg (Qac.enc x0),.agg (Qad.enc r)] [] (one (lI rv)) []:=by
 refine QaM Tryz.func80 (by kernel_rfl) (by kernel_rfl) (fun Γ=>?_)
 unfold Qrd at h
 obtain ⟨e0,h6,h⟩:=Qae h
 refine gn 7 [2,3,8,9,10] [0,1] [nL Qaa.enc r.visits] (Qvg Γ rv h6 ?_)
 rcases e0 with e0|e0
 ·replace h:(some 0:Option Int)=some _:=h
  obtain rfl:=Option.some.inj h
  exact gr 2 [] []
 ·obtain ⟨r2,rfl⟩:∃ x,x=e0:=⟨_,rfl⟩
  replace h:(some r2:Option Int)=some _:=h
  exact Option.some.inj h
theorem QeQ {set_ i} {rv:Bool} (h:Qku set_ i=some rv):AFn Tryz.prog 87 [.one (lI set_),.one (lI i)] [] (one (.bool rv)) []:=by
 refine QaM Tryz.func87 (by kernel_rfl) (by kernel_rfl) (fun Γ=>?_)
 unfold Qku at h
 rcases Qaj h with ⟨h0,h⟩|⟨h0,h⟩
 ·obtain ⟨h1,h⟩:=Qax h
  obtain rfl:=Option.some.inj h
  exact gr 4 [] [hP,hP,hP,oI ((geI i 0)=true),oR True ((geI i 0)=true),rp 3 (bT h0),oO (h1),rp 3 (bT h0)]
 ·obtain rfl:=Option.some.inj h
  exact gr 4 [] [hP,hP,hP,oI ((geI i 0)=true),oR True ((geI i 0)=true),rp 6 (bF h0)]
def Qtc (Γ:Gam) (rv:List Int) (cf:Cf):Prop:=Go Tryz.prog Tryz.f54 [] Γ (one (lL 1 rv e_i64)) [] cf
def Qqb (Γ:Gam) (rv:List Int) (set_:Int) (l:List Int) (v:Int):Prop:=Qtc Γ rv ⟨[.c 116,.l 116,.b 0,.c 15],⟨17,[vI 0 set_,vO 3 0 1 l e_i64,vI 5 v],[oS 1 3 l e_i64]⟩⟩
def Qpr (Γ:Gam) (rv:List Int) (set_:Int) (l1:List Int):Prop:=Qtc Γ rv ⟨[.c 15],⟨17,[vO 3 0 1 l1 e_i64],[oS 1 3 l1 e_i64]⟩⟩
theorem QtI (Γ:Gam) (rv:List Int) {set_} {s:List Int×Int} {e:List Int} (h:loopF (fun s=>QdA set_ s.1 s.2) s=some e) (hD:Qpr Γ rv set_ e):Qqb Γ rv set_ s.1 s.2:=by
 refine QaD (C:=fun (s:List Int×Int)=>Qqb Γ rv set_ s.1 s.2) (D:=fun (e:List Int)=>Qpr Γ rv set_ e) ?_ h hD
 clear h hD s e
 rintro ⟨l,v⟩ z_ h hI hE
 replace h:QdA set_ l v=_:=h
 unfold QdA at h
 rcases Qaj h with ⟨h0,h⟩|⟨h0,h⟩
 ·obtain ⟨r,h1,h⟩:=Qae h
  rcases Qaj h with ⟨h2,h⟩|⟨h2,h⟩
  ·obtain ⟨h3,h⟩:=Qax h
   exact gn 16 [0,3,5] [2] [bT h0,cC (QeQ h1),bT h2,oO (Eq.refl ([v].map e_i64).length),aO e_i64 h3] (hI _ (oJ h))
  ·exact gn 16 [0,3,5] [0] [bT h0,cC (QeQ h1),bF h2] (hI _ (oJ h))
 ·exact gn 5 [3] [0] [bF h0] (hE _ (oJ h))
theorem QoA {set_} {rv:List Int} (h:Qi0 set_=some rv):AFn Tryz.prog 54 [.one (lI set_)] [] (one (lL 1 rv e_i64)) []:=by
 refine QaM Tryz.func54 (by kernel_rfl) (by kernel_rfl) (fun Γ=>?_)
 unfold Qi0 at h
 obtain ⟨e0,h4,h⟩:=Qae h
 refine gn 9 [0,3,5] [0] [hW 12,hH (.adopt 3 1 3)] (QtI Γ rv h4 ?_)
 obtain ⟨l1,rfl⟩:∃ x,x=e0:=⟨_,rfl⟩
 replace h:(some l1:Option (List Int))=some _:=h
 obtain rfl:=Option.some.inj h
 exact gr 2 [] [hW 4,hH (.frz 0),rp 3 (eL l1 e_i64)]
theorem Qxe {a b} {rv:Int} (h:QsO a b=some rv):AFn Tryz.prog 194 [.one (lI a),.one (lI b)] [] (one (lI rv)) []:=by
 refine QaM Tryz.func194 (by kernel_rfl) (by kernel_rfl) (fun Γ=>?_)
 unfold QsO at h
 obtain rfl:=Option.some.inj h
 exact gr 4 [] []
def Qm0 (Γ:Gam) (rv:List Int×Int) (cf:Cf):Prop:=Go Tryz.prog Tryz.f193 [] Γ (.tup [.one (lL 1 rv.1 e_i64),.one (lI rv.2)]) [] cf
def QjY (Γ:Gam) (rv:List Int×Int) (a:List Int) (b:List Int) (l:List Int) (l1:List Int) (v:Int):Prop:=Qm0 Γ rv ⟨[.c 244,.l 244,.b 0,.c 31],⟨38,[vL 0 1 a e_i64,vL 1 1 b e_i64,(2,one (.fn (.func 194) [])),vO 8 0 1 l1 e_i64,vI 19 (lenI a),vI 20 v],[oS 1 3 l1 e_i64]⟩⟩
def Qjr (Γ:Gam) (rv:List Int×Int) (a:List Int) (b:List Int) (l:List Int) (l2:List Int):Prop:=Qm0 Γ rv ⟨[.c 31],⟨38,[vO 8 0 1 l2 e_i64],[oS 1 3 l2 e_i64]⟩⟩
theorem QpC (Γ:Gam) (rv:List Int×Int) {a b l} {s:List Int×Int} {e:List Int} (h:loopF (fun s=>Qb3 a b l s.1 s.2) s=some e) (hD:Qjr Γ rv a b l e):QjY Γ rv a b l s.1 s.2:=by
 refine QaD (C:=fun (s:List Int×Int)=>QjY Γ rv a b l s.1 s.2) (D:=fun (e:List Int)=>Qjr Γ rv a b l e) ?_ h hD
 clear h hD s e
 rintro ⟨l1,v⟩ z_ h hI hE
 replace h:Qb3 a b l l1 v=_:=h
 unfold Qb3 at h
 rcases Qaj h with ⟨h2,h⟩|⟨h2,h⟩
 ·obtain ⟨x0,h3,h⟩:=Qae h
  obtain ⟨x1,h4,h⟩:=Qae h
  obtain ⟨r,h5,h⟩:=Qae h
  obtain ⟨x2,h6,h⟩:=Qae h
  exact gn 13 [0,1,2,8,19,20] [0] [bT h2,hH (.draw 13 []),cE e_i64 h3,cE e_i64 h4,cC (Qxe h5),oO (getLo h6),oO (getHi e_i64 h6),rE e_i64 h6,hH (.rows ((setI l1 v r).map e_i64)),hH (.relen 0 ((setI l1 v r).map e_i64).length),oO (setM e_i64 l1 v r),rp 2 (oO (QxY e_i64 l1 v r))] (hI _ (oJ h))
 ·exact gn 5 [8] [0] [bF h2] (hE _ (oJ h))
theorem QrG {a b} {rv:List Int×Int} (h:Qh2 a b=some rv):AFn Tryz.prog 193 [.one (lL 1 a e_i64),.one (lL 1 b e_i64),.one (.fn (.func 194) [])] [] (.tup [.one (lL 1 rv.1 e_i64),.one (lI rv.2)]) []:=by
 refine QaM Tryz.func193 (by kernel_rfl) (by kernel_rfl) (fun Γ=>?_)
 unfold Qh2 at h
 rcases Qaj h with ⟨h0,h⟩|⟨h0,h⟩
 ·obtain rfl:=Option.some.inj h
  exact gr 8 [] [nL e_i64 a,nL e_i64 b,bT h0,hW 4,hH (.nilS 6 0 1)]
 ·obtain ⟨l,h1,h⟩:=Qae h
  obtain ⟨e0,h7,h⟩:=Qae h
  refine gn 14 [0,1,2,8,19,20] [0] [nL e_i64 a,nL e_i64 b,bF h0,nL e_i64 a,hH (.cells [lI 0]),hH (.rows (l.map e_i64)),oO (mk1 h1),oO (mk2 h1),oO (mk3 h1),oO (mk4 h1),oO (mk5 e_i64 h1),nL e_i64 a] (QpC Γ rv h7 ?_)
  obtain ⟨l2,rfl⟩:∃ x,x=e0:=⟨_,rfl⟩
  replace h:(some (l2,0):Option (List Int×Int))=some _:=h
  obtain rfl:=Option.some.inj h
  exact gr 2 [] [hW 5,hH (.frz 0),rp 3 (eL l2 e_i64)]
theorem Qsh {a b} {rv:List Int×Int} (h:Qrv a b=some rv):AFn Tryz.prog 173 [.one (lL 1 a e_i64),.one (lL 1 b e_i64)] [] (.tup [.one (lL 1 rv.1 e_i64),.one (lI rv.2)]) []:=by
 refine QaM Tryz.func173 (by kernel_rfl) (by kernel_rfl) (fun Γ=>?_)
 unfold Qrv at h
 obtain ⟨r,h0,h⟩:=Qae h
 obtain rfl:=Option.some.inj h
 exact gr 4 [] [cC (QrG h0)]
def QtX (Γ:Gam) (rv:List Int) (cf:Cf):Prop:=Go Tryz.prog Tryz.f171 [] Γ (one (lL 1 rv e_i64)) [] cf
def Qqv (Γ:Gam) (rv:List Int) (x0:Qac) (l:List Int) (r:List Int) (sum:List Int) (v:Int):Prop:=QtX Γ rv ⟨[.c 116,.l 116,.b 0,.c 15],⟨40,[vP 3 0 6,vL 7 1 sum e_i64,vL 13 1 r e_i64,vI 14 (lenI r),vI 15 v],[oX 6 30 (Qac.enc x0)]⟩⟩
def QpP (Γ:Gam) (rv:List Int) (x0:Qac) (l:List Int) (r:List Int) (sum1:List Int):Prop:=QtX Γ rv ⟨[.c 15],⟨40,[vL 7 1 sum1 e_i64],[]⟩⟩
theorem Qua (Γ:Gam) (rv:List Int) {x0 l r} {s:List Int×Int} {e:List Int} (h:loopF (fun s=>Qeh x0 l r s.1 s.2) s=some e) (hD:QpP Γ rv x0 l r e):Qqv Γ rv x0 l r s.1 s.2:=by
 refine QaD (C:=fun (s:List Int×Int)=>Qqv Γ rv x0 l r s.1 s.2) (D:=fun (e:List Int)=>QpP Γ rv x0 l r e) ?_ h hD
 clear h hD s e
 rintro ⟨sum,v⟩ z_ h hI hE
 replace h:Qeh x0 l r sum v=_:=h
 unfold Qeh at h
 rcases Qaj h with ⟨h2,h⟩|⟨h2,h⟩
 ·obtain ⟨x1,h3,h⟩:=Qae h
  obtain ⟨x2,h4,h⟩:=Qae h
  rcases Qaj h with ⟨h5,h⟩|⟨h5,h⟩
  ·obtain ⟨r1,h6,h⟩:=Qae h
   exact gn 16 [3,7,13,14,15] [0] [bT h2,cE e_i64 h3,cE Qah.enc h4,bT h5,cE Qah.enc h4,cC (Qsh h6)] (hI _ (oJ h))
  ·exact gn 16 [3,7,13,14,15] [0] [bT h2,cE e_i64 h3,cE Qah.enc h4,bF h5] (hI _ (oJ h))
 ·exact gn 5 [7] [] [bF h2] (hE _ (oJ h))
theorem Qwf {x0 set_ dims} {rv:List Int} (h:QoD x0 set_ dims=some rv):AFn Tryz.prog 171 [.agg (Qac.enc x0),.one (lI set_),.one (lI dims)] [] (one (lL 1 rv e_i64)) []:=by
 refine QaM Tryz.func171 (by kernel_rfl) (by kernel_rfl) (fun Γ=>?_)
 unfold QoD at h
 obtain ⟨l,h0,h⟩:=Qae h
 obtain ⟨r,h1,h⟩:=Qae h
 obtain ⟨e0,h7,h⟩:=Qae h
 refine gn 9 [3,7,13,14,15] [0] [hH (.cells [lI 0]),hH (.rows (l.map e_i64)),oO (mk1 h0),oO (mk2 h0),oO (mk3 h0),oO (mk4 h0),oO (mk5 e_i64 h0),cC (QoA h1),nL e_i64 r,hW 3,hH (.frz 1),rp 2 (eL l e_i64)] (Qua Γ rv h7 ?_)
 obtain ⟨sum1,rfl⟩:∃ x,x=e0:=⟨_,rfl⟩
 replace h:(some sum1:Option (List Int))=some _:=h
 obtain rfl:=Option.some.inj h
 exact gr 2 [] []
theorem Qw6 {l} {rv:Int} (h:QqB l=some rv):AFn Tryz.prog 172 [.one (lL 14 l Qai.enc)] [] (one (lI rv)) []:=by
 refine QaM Tryz.func172 (by kernel_rfl) (by kernel_rfl) (fun Γ=>?_)
 unfold QqB at h
 rcases Qaj h with ⟨h0,h⟩|⟨h0,h⟩
 ·obtain rfl:=Option.some.inj h
  exact gr 8 [] [nL Qai.enc l,bT h0]
 ·obtain ⟨x0,h1,h⟩:=Qae h
  obtain rfl:=Option.some.inj h
  exact gr 9 [] [nL Qai.enc l,bF h0,cE Qai.enc h1,nL e_i64 x0.cap]
theorem Qwq {a b} {rv:Int} (h:Qrw a b=some rv):AFn Tryz.prog 195 [.one (lI a),.one (lI b)] [] (one (lI rv)) []:=by
 refine QaM Tryz.func195 (by kernel_rfl) (by kernel_rfl) (fun Γ=>?_)
 unfold Qrw at h
 obtain rfl:=Option.some.inj h
 exact gr 4 [] []
def Ql3 (Γ:Gam) (rv:List Int×Int) (cf:Cf):Prop:=Go Tryz.prog Tryz.f193 [] Γ (.tup [.one (lL 1 rv.1 e_i64),.one (lI rv.2)]) [] cf
def Qjq (Γ:Gam) (rv:List Int×Int) (a:List Int) (b:List Int) (l:List Int) (l1:List Int) (v:Int):Prop:=Ql3 Γ rv ⟨[.c 244,.l 244,.b 0,.c 31],⟨38,[vL 0 1 a e_i64,vL 1 1 b e_i64,(2,one (.fn (.func 195) [])),vO 8 0 1 l1 e_i64,vI 19 (lenI a),vI 20 v],[oS 1 3 l1 e_i64]⟩⟩
def Qi6 (Γ:Gam) (rv:List Int×Int) (a:List Int) (b:List Int) (l:List Int) (l2:List Int):Prop:=Ql3 Γ rv ⟨[.c 31],⟨38,[vO 8 0 1 l2 e_i64],[oS 1 3 l2 e_i64]⟩⟩
theorem QoM (Γ:Gam) (rv:List Int×Int) {a b l} {s:List Int×Int} {e:List Int} (h:loopF (fun s=>QbO a b l s.1 s.2) s=some e) (hD:Qi6 Γ rv a b l e):Qjq Γ rv a b l s.1 s.2:=by
 refine QaD (C:=fun (s:List Int×Int)=>Qjq Γ rv a b l s.1 s.2) (D:=fun (e:List Int)=>Qi6 Γ rv a b l e) ?_ h hD
 clear h hD s e
 rintro ⟨l1,v⟩ z_ h hI hE
 replace h:QbO a b l l1 v=_:=h
 unfold QbO at h
 rcases Qaj h with ⟨h2,h⟩|⟨h2,h⟩
 ·obtain ⟨x0,h3,h⟩:=Qae h
  obtain ⟨x1,h4,h⟩:=Qae h
  obtain ⟨r,h5,h⟩:=Qae h
  obtain ⟨x2,h6,h⟩:=Qae h
  exact gn 13 [0,1,2,8,19,20] [0] [bT h2,hH (.draw 13 []),cE e_i64 h3,cE e_i64 h4,cC (Qwq h5),oO (getLo h6),oO (getHi e_i64 h6),rE e_i64 h6,hH (.rows ((setI l1 v r).map e_i64)),hH (.relen 0 ((setI l1 v r).map e_i64).length),oO (setM e_i64 l1 v r),rp 2 (oO (QxY e_i64 l1 v r))] (hI _ (oJ h))
 ·exact gn 5 [8] [0] [bF h2] (hE _ (oJ h))
theorem QqH {a b} {rv:List Int×Int} (h:Qhq a b=some rv):AFn Tryz.prog 193 [.one (lL 1 a e_i64),.one (lL 1 b e_i64),.one (.fn (.func 195) [])] [] (.tup [.one (lL 1 rv.1 e_i64),.one (lI rv.2)]) []:=by
 refine QaM Tryz.func193 (by kernel_rfl) (by kernel_rfl) (fun Γ=>?_)
 unfold Qhq at h
 rcases Qaj h with ⟨h0,h⟩|⟨h0,h⟩
 ·obtain rfl:=Option.some.inj h
  exact gr 8 [] [nL e_i64 a,nL e_i64 b,bT h0,hW 4,hH (.nilS 6 0 1)]
 ·obtain ⟨l,h1,h⟩:=Qae h
  obtain ⟨e0,h7,h⟩:=Qae h
  refine gn 14 [0,1,2,8,19,20] [0] [nL e_i64 a,nL e_i64 b,bF h0,nL e_i64 a,hH (.cells [lI 0]),hH (.rows (l.map e_i64)),oO (mk1 h1),oO (mk2 h1),oO (mk3 h1),oO (mk4 h1),oO (mk5 e_i64 h1),nL e_i64 a] (QoM Γ rv h7 ?_)
  obtain ⟨l2,rfl⟩:∃ x,x=e0:=⟨_,rfl⟩
  replace h:(some (l2,0):Option (List Int×Int))=some _:=h
  obtain rfl:=Option.some.inj h
  exact gr 2 [] [hW 5,hH (.frz 0),rp 3 (eL l2 e_i64)]
theorem QuU {a b} {rv:List Int×Int} (h:QsN a b=some rv):AFn Tryz.prog 174 [.one (lL 1 a e_i64),.one (lL 1 b e_i64)] [] (.tup [.one (lL 1 rv.1 e_i64),.one (lI rv.2)]) []:=by
 refine QaM Tryz.func174 (by kernel_rfl) (by kernel_rfl) (fun Γ=>?_)
 unfold QsN at h
 obtain ⟨r,h0,h⟩:=Qae h
 obtain rfl:=Option.some.inj h
 exact gr 4 [] [cC (QqH h0)]
def QtW (Γ:Gam) (rv:List (List Int)×Int) (cf:Cf):Prop:=Go Tryz.prog Tryz.f124 [] Γ (.tup [.one (lL 1 rv.1 Qbc),.one (lI rv.2)]) [] cf
def Qqu (Γ:Gam) (rv:List (List Int)×Int) (x0:Qac) (r:Qad) (l:List (List Int)) (now:List Int) (v:Int):Prop:=QtW Γ rv ⟨[.c 2036,.l 2036,.b 0,.c 255],⟨67,[vP 2 0 6,vL 9 1 now e_i64,vO 10 1 1 l Qbc,vL 37 2 r.visits Qaa.enc,vI 38 (lenI r.visits),vI 39 v],[oX 6 30 (Qac.enc x0),oS 1 90 l Qbc]⟩⟩
def QpO (Γ:Gam) (rv:List (List Int)×Int) (x0:Qac) (r:Qad) (l1:List (List Int)):Prop:=QtW Γ rv ⟨[.c 255],⟨67,[vO 10 0 1 l1 Qbc],[oS 1 90 l1 Qbc]⟩⟩
theorem Qt9 (Γ:Gam) (rv:List (List Int)×Int) {x0 r} {s:List (List Int)×List Int×Int} {e:(List (List Int))⊕(List (List Int)×Int)} (h:loopF (fun s=>Qeg x0 r s.1 s.2.1 s.2.2) s=some e) (hD:sel e (fun e=>QpO Γ rv x0 r e) (fun e=>e=rv)):Qqu Γ rv x0 r s.1 s.2.1 s.2.2:=by
 refine QaD (C:=fun (s:List (List Int)×List Int×Int)=>Qqu Γ rv x0 r s.1 s.2.1 s.2.2) (D:=fun (e:(List (List Int))⊕(List (List Int)×Int))=>sel e (fun e=>QpO Γ rv x0 r e) (fun e=>e=rv)) ?_ h hD
 clear h hD s e
 rintro ⟨l,now,v⟩ z_ h hI hE
 replace h:Qeg x0 r l now v=_:=h
 unfold Qeg at h
 rcases Qaj h with ⟨h6,h⟩|⟨h6,h⟩
 ·obtain ⟨x1,h7,h⟩:=Qae h
  rcases Qaj h with ⟨h8,h⟩|⟨h8,h⟩
  ·obtain ⟨x2,h9,h⟩:=Qae h
   obtain ⟨r5,h10,h⟩:=Qae h
   rcases Qaj h with ⟨h11,h⟩|⟨h11,h⟩
   ·obtain rfl:=(hE _ (oJ h):_=rv)
    exact gr 24 [] [bT h6,cE Qaa.enc h7,bT h8,cE Qah.enc h9,cC (QuU h10),bT h11,hW 5,hH (.nilS 4 0 1)]
   ·obtain ⟨h12,h⟩:=Qax h
    exact gn 27 [2,9,10,37,38,39] [0,4] [bT h6,cE Qaa.enc h7,bT h8,cE Qah.enc h9,cC (QuU h10),bF h11,oO (Eq.refl ([r5.1].map Qbc).length),aO Qbc h12] (hI _ (oJ h))
  ·obtain ⟨x3,h13,h⟩:=Qae h
   obtain ⟨r6,h14,h⟩:=Qae h
   rcases Qaj h with ⟨h15,h⟩|⟨h15,h⟩
   ·obtain rfl:=(hE _ (oJ h):_=rv)
    exact gr 24 [] [bT h6,cE Qaa.enc h7,bF h8,cE Qah.enc h13,cC (Qsh h14),bT h15,hW 5,hH (.nilS 4 0 1)]
   ·obtain ⟨h16,h⟩:=Qax h
    exact gn 27 [2,9,10,37,38,39] [0,4] [bT h6,cE Qaa.enc h7,bF h8,cE Qah.enc h13,cC (Qsh h14),bF h15,oO (Eq.refl ([r6.1].map Qbc).length),aO Qbc h16] (hI _ (oJ h))
 ·exact gn 5 [10] [1] [bF h6] (hE _ (oJ h))
theorem Qpx {x0 r} {rv:List (List Int)×Int} (h:QoC x0 r=some rv):AFn Tryz.prog 124 [.agg (Qac.enc x0),.agg (Qad.enc r)] [] (.tup [.one (lL 1 rv.1 Qbc),.one (lI rv.2)]) []:=by
 refine QaM Tryz.func124 (by kernel_rfl) (by kernel_rfl) (fun Γ=>?_)
 unfold QoC at h
 obtain ⟨r1,h0,h⟩:=Qae h
 rcases Qaj h with ⟨h1,h⟩|⟨h1,h⟩
 ·obtain rfl:=Option.some.inj h
  exact gr 10 [] [cC (QdS h0),bT h1,hW 5,hH (.nilS 4 0 1)]
 ·obtain ⟨r2,h2,h⟩:=Qae h
  rcases Qaj h with ⟨h3,h⟩|⟨h3,h⟩
  ·obtain rfl:=Option.some.inj h
   exact gr 17 [] [cC (QdS h0),bF h1,cC (Qcu h2),bT h3,hW 5,hH (.nilS 4 0 1)]
  ·obtain ⟨r3,h4,h⟩:=Qae h
   obtain ⟨r4,h5,h⟩:=Qae h
   obtain ⟨e0,h17,h⟩:=Qae h
   refine gn 25 [2,9,10,37,38,39] [0,2] [cC (QdS h0),bF h1,cC (Qcu h2),bF h3,hH (.draw 7 []),cC (Qw6 h4),cC (Qwf h5),nL Qaa.enc r.visits] (Qt9 Γ rv h17 ?_)
   rcases e0 with e0|e0
   ·obtain ⟨l1,rfl⟩:∃ x,x=e0:=⟨_,rfl⟩
    replace h:(some (l1,0):Option (List (List Int)×Int))=some _:=h
    obtain rfl:=Option.some.inj h
    exact gr 2 [] [hW 5,hH (.frz 0),rp 3 (eL l1 Qbc)]
   ·obtain ⟨r7,rfl⟩:∃ x,x=e0:=⟨_,rfl⟩
    replace h:(some r7:Option (List (List Int)×Int))=some _:=h
    exact Option.some.inj h
def QuS (Γ:Gam) (rv:Bool) (cf:Cf):Prop:=Go Tryz.prog Tryz.f127 [] Γ (one (.bool rv)) [] cf
def Qr3 (Γ:Gam) (rv:Bool) (a:List Int) (capacity:List Int) (v:Int):Prop:=QuS Γ rv ⟨[.c 116,.l 116,.b 0,.c 15],⟨26,[vL 1 1 capacity e_i64,vL 12 1 a e_i64,vI 13 (lenI a),vI 14 v],[]⟩⟩
def QqG (Γ:Gam) (rv:Bool) (a:List Int) (capacity:List Int):Prop:=QuS Γ rv ⟨[.c 15],⟨26,[],[]⟩⟩
theorem QuT (Γ:Gam) (rv:Bool) {a capacity} {s:Int} {e:(Unit)⊕(Bool)} (h:loopF (fun s=>QfK a capacity s) s=some e) (hD:sel e (fun e=>QqG Γ rv a capacity) (fun e=>e=rv)):Qr3 Γ rv a capacity s:=by
 refine QaD (C:=fun (s:Int)=>Qr3 Γ rv a capacity s) (D:=fun (e:(Unit)⊕(Bool))=>sel e (fun e=>QqG Γ rv a capacity) (fun e=>e=rv)) ?_ h hD
 clear h hD s e
 intro v z_ h hI hE
 replace h:QfK a capacity v=_:=h
 unfold QfK at h
 rcases Qaj h with ⟨h1,h⟩|⟨h1,h⟩
 ·obtain ⟨x0,h2,h⟩:=Qae h
  obtain ⟨x1,h3,h⟩:=Qae h
  rcases Qaj h with ⟨h4,h⟩|⟨h4,h⟩
  ·obtain rfl:=(hE _ (oJ h):_=rv)
   exact gr 14 [] [bT h1,cE e_i64 h2,cE e_i64 h3,bT h4]
  ·exact gn 16 [1,12,13,14] [] [bT h1,cE e_i64 h2,cE e_i64 h3,bF h4] (hI _ (oJ h))
 ·exact gn 5 [] [] [bF h1] (hE _ (oJ h))
theorem Qxd {a capacity} {rv:Bool} (h:QqF a capacity=some rv):AFn Tryz.prog 127 [.one (lL 1 a e_i64),.one (lL 1 capacity e_i64)] [] (one (.bool rv)) []:=by
 refine QaM Tryz.func127 (by kernel_rfl) (by kernel_rfl) (fun Γ=>?_)
 unfold QqF at h
 rcases Qaj h with ⟨h0,h⟩|⟨h0,h⟩
 ·obtain rfl:=Option.some.inj h
  exact gr 8 [] [nL e_i64 a,nL e_i64 capacity,bT h0]
 ·obtain ⟨e0,h5,h⟩:=Qae h
  refine gn 12 [1,12,13,14] [] [nL e_i64 a,nL e_i64 capacity,bF h0,nL e_i64 a] (QuT Γ rv h5 ?_)
  rcases e0 with e0|e0
  ·replace h:(some true:Option Bool)=some _:=h
   obtain rfl:=Option.some.inj h
   exact gr 2 [] []
  ·obtain ⟨r,rfl⟩:∃ x,x=e0:=⟨_,rfl⟩
   replace h:(some r:Option Bool)=some _:=h
   exact Option.some.inj h
theorem QrZ {a c c1} {rv:Bool} (h:Qpw a c c1=some rv):AFn Tryz.prog 126 [.one (lL 1 a e_i64),.one (.ip (Qac.enc c) 0),.one (.ip (Qad.enc c1) 0)] [] (one (.bool rv)) []:=by
 refine QaM Tryz.func126 (by kernel_rfl) (by kernel_rfl) (fun Γ=>?_)
 unfold Qpw at h
 obtain ⟨x0,h0,h⟩:=Qae h
 obtain ⟨r,h1,h⟩:=Qae h
 obtain rfl:=Option.some.inj h
 exact gr 4 [] [cE Qai.enc h0,cC (Qxd h1)]
def Qew (Γ:Gam) (rv:Int) (cf:Cf):Prop:=Go Tryz.prog Tryz.f175 [] Γ (one (lI rv)) [] cf
def QdU (Γ:Gam) (rv:Int) (s0:List (List Int)) (c:Qac) (c1:Qad) (v:Int):Prop:=Qew Γ rv ⟨[.c 52,.l 52,.b 0,.c 7],⟨19,[vL 0 1 s0 Qbc,(1,one (.fn (.func 126) [.ip (Qac.enc c) 0,.ip (Qad.enc c1) 0])),vI 7 (lenI s0),vI 8 v],[]⟩⟩
def QdJ (Γ:Gam) (rv:Int) (s0:List (List Int)) (c:Qac) (c1:Qad):Prop:=Qew Γ rv ⟨[.c 7],⟨19,[],[]⟩⟩
theorem QgY (Γ:Gam) (rv:Int) {s0 c c1} {s:Int} {e:(Unit)⊕(Int)} (h:loopF (fun s=>QaN s0 c c1 s) s=some e) (hD:sel e (fun e=>QdJ Γ rv s0 c c1) (fun e=>e=rv)):QdU Γ rv s0 c c1 s:=by
 refine QaD (C:=fun (s:Int)=>QdU Γ rv s0 c c1 s) (D:=fun (e:(Unit)⊕(Int))=>sel e (fun e=>QdJ Γ rv s0 c c1) (fun e=>e=rv)) ?_ h hD
 clear h hD s e
 intro v z_ h hI hE
 replace h:QaN s0 c c1 v=_:=h
 unfold QaN at h
 rcases Qaj h with ⟨h0,h⟩|⟨h0,h⟩
 ·obtain ⟨x0,h1,h⟩:=Qae h
  obtain ⟨r,h2,h⟩:=Qae h
  rcases Qaj h with ⟨h3,h⟩|⟨h3,h⟩
  ·obtain rfl:=(hE _ (oJ h):_=rv)
   exact gr 14 [] [bT h0,cE Qbc h1,cC (QrZ h2),bT h3]
  ·exact gn 16 [0,1,7,8] [] [bT h0,cE Qbc h1,cC (QrZ h2),bF h3] (hI _ (oJ h))
 ·exact gn 5 [] [] [bF h0] (hE _ (oJ h))
theorem QhD {s0 c c1} {rv:Int} (h:Qbx s0 c c1=some rv):AFn Tryz.prog 175 [.one (lL 1 s0 Qbc),.one (.fn (.func 126) [.ip (Qac.enc c) 0,.ip (Qad.enc c1) 0])] [] (one (lI rv)) []:=by
 refine QaM Tryz.func175 (by kernel_rfl) (by kernel_rfl) (fun Γ=>?_)
 unfold Qbx at h
 obtain ⟨e0,h4,h⟩:=Qae h
 refine gn 7 [0,1,7,8] [] [nL Qbc s0] (QgY Γ rv h4 ?_)
 rcases e0 with e0|e0
 ·replace h:(some (-1):Option Int)=some _:=h
  obtain rfl:=Option.some.inj h
  exact gr 2 [] []
 ·obtain ⟨r1,rfl⟩:∃ x,x=e0:=⟨_,rfl⟩
  replace h:(some r1:Option Int)=some _:=h
  exact Option.some.inj h
theorem QdH {s0 c c1} {rv:Bool} (h:QbL s0 c c1=some rv):AFn Tryz.prog 125 [.one (lL 1 s0 Qbc),.one (.fn (.func 126) [.ip (Qac.enc c) 0,.ip (Qad.enc c1) 0])] [] (one (.bool rv)) []:=by
 refine QaM Tryz.func125 (by kernel_rfl) (by kernel_rfl) (fun Γ=>?_)
 unfold QbL at h
 obtain ⟨r,h0,h⟩:=Qae h
 obtain rfl:=Option.some.inj h
 exact gr 4 [] [cC (QhD h0)]
theorem Qqt {x0 r} {rv:Int} (h:Qqs x0 r=some rv):AFn Tryz.prog 81 [.agg (Qac.enc x0),.agg (Qad.enc r)] [] (one (lI rv)) []:=by
 refine QaM Tryz.func81 (by kernel_rfl) (by kernel_rfl) (fun Γ=>?_)
 unfold Qqs at h
 rcases Qaj h with ⟨h0,h⟩|⟨h0,h⟩
 ·obtain rfl:=Option.some.inj h
  exact gr 8 [] [rp 5 hP,rp 3 (oI ((ltI r.type_ 0)=false)),nL Qai.enc x0.types,hP,hP,rp 2 (oI ((ltI r.type_ 0)=false)),oR True ((ltI r.type_ 0)=false),bT h0]
 ·obtain ⟨r1,h1,h⟩:=Qae h
  rcases Qaj h with ⟨h2,h⟩|⟨h2,h⟩
  ·obtain rfl:=Option.some.inj h
   exact gr 15 [] [rp 5 hP,rp 3 (oI ((ltI r.type_ 0)=false)),nL Qai.enc x0.types,hP,hP,rp 2 (oI ((ltI r.type_ 0)=false)),oR True ((ltI r.type_ 0)=false),bF h0,cC (Qpx h1),bT h2]
  ·obtain ⟨r2,h3,h⟩:=Qae h
   rcases Qaj h with ⟨h4,h⟩|⟨h4,h⟩
   ·obtain rfl:=Option.some.inj h
    exact gr 20 [] [rp 5 hP,rp 3 (oI ((ltI r.type_ 0)=false)),nL Qai.enc x0.types,hP,hP,rp 2 (oI ((ltI r.type_ 0)=false)),oR True ((ltI r.type_ 0)=false),bF h0,cC (Qpx h1),bF h2,cC (QdH h3),bT h4]
   ·obtain rfl:=Option.some.inj h
    exact gr 21 [] [rp 5 hP,rp 3 (oI ((ltI r.type_ 0)=false)),nL Qai.enc x0.types,hP,hP,rp 2 (oI ((ltI r.type_ 0)=false)),oR True ((ltI r.type_ 0)=false),bF h0,cC (Qpx h1),bF h2,cC (QdH h3),bF h4]
def Qx2 (Γ:Gam) (rv:Qau×Int) (cf:Cf):Prop:=Go Tryz.prog Tryz.f91 [] Γ (.tup [.agg [lI rv.1.place,lI rv.1.open_,lI rv.1.close,lI rv.1.service],.one (lI rv.2)]) [] cf
theorem Qq5 (Γ:Gam) (rv:Qau×Int) {x1} (h:Qly x1=some rv):Qx2 Γ rv ⟨[.c 31],⟨32,[vP 4 0 4,vP 6 1 4],[oX 4 122 [lI 0,lI 0,lI 0,lI 0],oX 4 122 (Qau.enc x1)]⟩⟩:=by
 unfold Qly at h
 rcases Qaj h with ⟨h4,h⟩|⟨h4,h⟩
 ·obtain rfl:=Option.some.inj h
  exact gr 6 [] [bT h4]
 ·obtain rfl:=Option.some.inj h
  exact gr 7 [] [bF h4]
theorem Qlz {l v} {rv:Qau×Int} (h:Qo9 l v=some rv):AFn Tryz.prog 91 [.one (lL 16 l Qah.enc),.agg (Qaa.enc v)] [] (.tup [.agg [lI rv.1.place,lI rv.1.open_,lI rv.1.close,lI rv.1.service],.one (lI rv.2)]) []:=by
 refine QaM Tryz.func91 (by kernel_rfl) (by kernel_rfl) (fun Γ=>?_)
 unfold Qo9 at h
 obtain ⟨r,h0,h⟩:=Qae h
 rcases Qaj h with ⟨h1,h⟩|⟨h1,h⟩
 ·obtain ⟨x0,h2,h⟩:=Qae h
  rcases Qaj h with ⟨h3,h⟩|⟨h3,h⟩
  ·exact gn 14 [4,6] [1,2] [cC (Qia h0),nF h1,cE Qah.enc h2,bT h3,cE Qah.enc h2] (Qq5 Γ rv h)
  ·exact gn 14 [4,6] [1,2] [cC (Qia h0),nF h1,cE Qah.enc h2,bF h3] (Qq5 Γ rv h)
 ·obtain rfl:=Option.some.inj h
  exact gr 8 [] [cC (Qia h0),nT h1]
def QuI (Γ:Gam) (rv:Qaz×Bool) (cf:Cf):Prop:=Go Tryz.prog Tryz.f128 [] Γ (.tup [.agg [lL 1 rv.1.x.net.places e_str,lL 6 rv.1.x.net.arcs Qas.enc,lL 14 rv.1.x.types Qai.enc,lL 16 rv.1.x.orders Qah.enc,lL 2 rv.1.x.apart QaC.enc,lL 2 rv.1.x.before QaC.enc,.str rv.1.t.name,lI rv.1.t.count,lI rv.1.t.from_,lI rv.1.t.to_,lL 1 rv.1.t.cap e_i64,lI rv.1.t.skills,lI rv.1.t.profile,lI rv.1.t.open_,lI rv.1.t.close,lI rv.1.t.drive,lI rv.1.t.rest_,lI rv.1.t.fixed,lI rv.1.t.perMile,lI rv.1.t.perTick,lI rv.1.r.type_,lI rv.1.r.start,lL 1 rv.1.r.rests QaQ,lL 2 rv.1.r.visits Qaa.enc,lL 4 rv.1.stops Qau.enc],.one (.bool rv.2)]) [] cf
def Qr2 (Γ:Gam) (rv:Qaz×Bool) (x0:Qac) (r:Qad) (x1:Qai) (l:List Qau) (v:Int):Prop:=QuI Γ rv ⟨[.c 244,.l 244,.b 0,.c 31],⟨78,[vP 2 0 6,vP 4 1 25,vP 6 2 25,vL 49 2 r.visits Qaa.enc,vI 50 (lenI r.visits),vI 51 v],[oX 6 30 (Qac.enc x0),oX 25 173 [.nils,.nils,.nils,.nils,.nils,.nils,.str ByteArray.empty,lI 0,lI 0,lI 0,.nils,lI 0,lI 0,lI 0,lI 0,lI 0,lI 0,lI 0,lI 0,lI 0,lI 0,lI 0,.nils,.nils,.nils],oX 25 173 [lL 1 x0.net.places e_str,lL 6 x0.net.arcs Qas.enc,lL 14 x0.types Qai.enc,lL 16 x0.orders Qah.enc,lL 2 x0.apart QaC.enc,lL 2 x0.before QaC.enc,.str x1.name,lI x1.count,lI x1.from_,lI x1.to_,lL 1 x1.cap e_i64,lI x1.skills,lI x1.profile,lI x1.open_,lI x1.close,lI x1.drive,lI x1.rest_,lI x1.fixed,lI x1.perMile,lI x1.perTick,lI r.type_,lI r.start,lL 1 r.rests QaQ,lL 2 r.visits Qaa.enc,lO 3 4 l Qau.enc],oS 4 122 l Qau.enc]⟩⟩
def Qqz (Γ:Gam) (rv:Qaz×Bool) (x0:Qac) (r:Qad) (x1:Qai) (l1:List Qau):Prop:=QuI Γ rv ⟨[.c 31],⟨78,[vP 4 0 25,vP 6 1 25],[oX 25 173 [.nils,.nils,.nils,.nils,.nils,.nils,.str ByteArray.empty,lI 0,lI 0,lI 0,.nils,lI 0,lI 0,lI 0,lI 0,lI 0,lI 0,lI 0,lI 0,lI 0,lI 0,lI 0,.nils,.nils,.nils],oX 25 173 [lL 1 x0.net.places e_str,lL 6 x0.net.arcs Qas.enc,lL 14 x0.types Qai.enc,lL 16 x0.orders Qah.enc,lL 2 x0.apart QaC.enc,lL 2 x0.before QaC.enc,.str x1.name,lI x1.count,lI x1.from_,lI x1.to_,lL 1 x1.cap e_i64,lI x1.skills,lI x1.profile,lI x1.open_,lI x1.close,lI x1.drive,lI x1.rest_,lI x1.fixed,lI x1.perMile,lI x1.perTick,lI r.type_,lI r.start,lL 1 r.rests QaQ,lL 2 r.visits Qaa.enc,lO 2 4 l1 Qau.enc],oS 4 122 l1 Qau.enc]⟩⟩
theorem QuJ (Γ:Gam) (rv:Qaz×Bool) {x0 r x1} {s:List Qau×Int} {e:(List Qau)⊕(Qaz×Bool)} (h:loopF (fun s=>Qi4 x0 r x1 s.1 s.2) s=some e) (hD:sel e (fun e=>Qqz Γ rv x0 r x1 e) (fun e=>e=rv)):Qr2 Γ rv x0 r x1 s.1 s.2:=by
 refine QaD (C:=fun (s:List Qau×Int)=>Qr2 Γ rv x0 r x1 s.1 s.2) (D:=fun (e:(List Qau)⊕(Qaz×Bool))=>sel e (fun e=>Qqz Γ rv x0 r x1 e) (fun e=>e=rv)) ?_ h hD
 clear h hD s e
 rintro ⟨l,v⟩ z_ h hI hE
 replace h:Qi4 x0 r x1 l v=_:=h
 unfold Qi4 at h
 rcases Qaj h with ⟨h2,h⟩|⟨h2,h⟩
 ·obtain ⟨x2,h3,h⟩:=Qae h
  obtain ⟨r1,h4,h⟩:=Qae h
  rcases Qaj h with ⟨h5,h⟩|⟨h5,h⟩
  ·obtain rfl:=(hE _ (oJ h):_=rv)
   exact gr 17 [] [bT h2,cE Qaa.enc h3,cC (Qlz h4),rp 4 hP,rp 2 (oI ((neI r1.2 0)=false)),oR True ((neI r1.2 0)=false),bT h5,hW 5,hH (.nilB 1 0 1),hH (.nilB 1 1 6),hH (.nilB 1 2 14),hH (.nilB 1 3 16),hH (.nilB 1 4 2),hH (.nilB 1 5 2),hH (.nilB 1 10 1),hH (.nilB 1 22 1),hH (.nilB 1 23 2),hH (.nilB 1 24 4)]
  ·obtain ⟨h6,h⟩:=Qax h
   exact gn 20 [2,4,6,49,50,51] [0,1,2,7] [bT h2,cE Qaa.enc h3,cC (Qlz h4),rp 4 hP,rp 2 (oI ((neI r1.2 0)=false)),oR True ((neI r1.2 0)=false),bF h5,oO (Eq.refl ([r1.1].map Qau.enc).length),aO Qau.enc h6] (hI _ (oJ h))
 ·exact gn 5 [4,6] [1,2,3] [bF h2] (hE _ (oJ h))
theorem Qt0 {x0 r} {rv:Qaz×Bool} (h:QoJ x0 r=some rv):AFn Tryz.prog 128 [.agg (Qac.enc x0),.agg (Qad.enc r)] [] (.tup [.agg [lL 1 rv.1.x.net.places e_str,lL 6 rv.1.x.net.arcs Qas.enc,lL 14 rv.1.x.types Qai.enc,lL 16 rv.1.x.orders Qah.enc,lL 2 rv.1.x.apart QaC.enc,lL 2 rv.1.x.before QaC.enc,.str rv.1.t.name,lI rv.1.t.count,lI rv.1.t.from_,lI rv.1.t.to_,lL 1 rv.1.t.cap e_i64,lI rv.1.t.skills,lI rv.1.t.profile,lI rv.1.t.open_,lI rv.1.t.close,lI rv.1.t.drive,lI rv.1.t.rest_,lI rv.1.t.fixed,lI rv.1.t.perMile,lI rv.1.t.perTick,lI rv.1.r.type_,lI rv.1.r.start,lL 1 rv.1.r.rests QaQ,lL 2 rv.1.r.visits Qaa.enc,lL 4 rv.1.stops Qau.enc],.one (.bool rv.2)]) []:=by
 refine QaM Tryz.func128 (by kernel_rfl) (by kernel_rfl) (fun Γ=>?_)
 unfold QoJ at h
 rcases Qaj h with ⟨h0,h⟩|⟨h0,h⟩
 ·obtain rfl:=Option.some.inj h
  exact gr 8 [] [rp 5 hP,rp 3 (oI ((ltI r.type_ 0)=false)),nL Qai.enc x0.types,rp 13 hP,rp 2 (oI ((ltI r.type_ 0)=false)),oR True ((ltI r.type_ 0)=false),rp 2 (oI (((ltI r.type_ 0)||(geI r.type_ (lenI x0.types)))=false)),oR True (((ltI r.type_ 0)||(geI r.type_ (lenI x0.types)))=false),rp 2 (oI ((((ltI r.type_ 0)||(geI r.type_ (lenI x0.types)))||(ltI r.start 0))=false)),oR True ((((ltI r.type_ 0)||(geI r.type_ (lenI x0.types)))||(ltI r.start 0))=false),rp 2 (oI (((((ltI r.type_ 0)||(geI r.type_ (lenI x0.types)))||(ltI r.start 0))||(gtI r.start 4096))=false)),nL Qaa.enc r.visits,hP,hP,oI (((((ltI r.type_ 0)||(geI r.type_ (lenI x0.types)))||(ltI r.start 0))||(gtI r.start 4096))=false),oR True (((((ltI r.type_ 0)||(geI r.type_ (lenI x0.types)))||(ltI r.start 0))||(gtI r.start 4096))=false),bT h0,hW 5,hH (.nilB 2 0 1),hH (.nilB 2 1 6),hH (.nilB 2 2 14),hH (.nilB 2 3 16),hH (.nilB 2 4 2),hH (.nilB 2 5 2),hH (.nilB 2 10 1),hH (.nilB 2 22 1),hH (.nilB 2 23 2),hH (.nilB 2 24 4)]
 ·obtain ⟨x1,h1,h⟩:=Qae h
  obtain ⟨e0,h7,h⟩:=Qae h
  refine gn 14 [2,4,6,49,50,51] [0,2,3,4] [rp 5 hP,rp 3 (oI ((ltI r.type_ 0)=false)),nL Qai.enc x0.types,rp 13 hP,rp 2 (oI ((ltI r.type_ 0)=false)),oR True ((ltI r.type_ 0)=false),rp 2 (oI (((ltI r.type_ 0)||(geI r.type_ (lenI x0.types)))=false)),oR True (((ltI r.type_ 0)||(geI r.type_ (lenI x0.types)))=false),rp 2 (oI ((((ltI r.type_ 0)||(geI r.type_ (lenI x0.types)))||(ltI r.start 0))=false)),oR True ((((ltI r.type_ 0)||(geI r.type_ (lenI x0.types)))||(ltI r.start 0))=false),rp 2 (oI (((((ltI r.type_ 0)||(geI r.type_ (lenI x0.types)))||(ltI r.start 0))||(gtI r.start 4096))=false)),nL Qaa.enc r.visits,hP,hP,oI (((((ltI r.type_ 0)||(geI r.type_ (lenI x0.types)))||(ltI r.start 0))||(gtI r.start 4096))=false),oR True (((((ltI r.type_ 0)||(geI r.type_ (lenI x0.types)))||(ltI r.start 0))||(gtI r.start 4096))=false),bF h0,hH (.draw 10 []),cE Qai.enc h1,nL Qaa.enc r.visits,hW 3,hH (.adoptB 3 24 4 122)] (QuJ Γ rv h7 ?_)
  rcases e0 with e0|e0
  ·obtain ⟨l1,rfl⟩:∃ x,x=e0:=⟨_,rfl⟩
   replace h:(some ((Qaz.mk x0 x1 r l1),true):Option (Qaz×Bool))=some _:=h
   obtain rfl:=Option.some.inj h
   exact gr 2 [] [hW 5,hH (.frz 2),rp 3 (eL l1 Qau.enc)]
  ·obtain ⟨r2,rfl⟩:∃ x,x=e0:=⟨_,rfl⟩
   replace h:(some r2:Option (Qaz×Bool))=some _:=h
   exact Option.some.inj h
theorem QnN {p} {rv:Qaf} (h:Qdh p=some rv):AFn Tryz.prog 129 [.agg (Qaz.enc p)] [] (gG [lI rv.ready,lI rv.since,.bool rv.sheet.rest_,lI rv.sheet.depart,lL 4 rv.sheet.times Qar.enc,lI rv.sheet.end_,lI rv.sheet.miles]) []:=by
 refine QaM Tryz.func129 (by kernel_rfl) (by kernel_rfl) (fun Γ=>?_)
 unfold Qdh at h
 obtain rfl:=Option.some.inj h
 exact gr 4 [] [hW 15,hH (.nilB 1 4 4)]
theorem QdE {n i} {rv:Bool} (h:Qjj n i=some rv):AFn Tryz.prog 180 [.agg (Qam.enc n),.one (lI i)] [] (one (.bool rv)) []:=by
 refine QaM Tryz.func180 (by kernel_rfl) (by kernel_rfl) (fun Γ=>?_)
 unfold Qjj at h
 obtain rfl:=Option.some.inj h
 exact gr 4 [] [rp 4 hP,rp 2 (oI ((geI i 0)=true)),nL e_str n.places,hP,hP,rp 2 (oI ((geI i 0)=true)),oR True ((geI i 0)=true)]
theorem Qq3 {a} {rv:Qi2} (h:Qn5 a=some rv):AFn Tryz.prog 199 [.agg (Qas.enc a)] [] (gG [lI rv.from_,lI rv.to_,lI rv.profile]) []:=by
 refine QaM Tryz.func199 (by kernel_rfl) (by kernel_rfl) (fun Γ=>?_)
 unfold Qn5 at h
 obtain rfl:=Option.some.inj h
 exact gr 4 [] []
end Go.Proofs.YtoedkepcaigkeaaGreatDoor
