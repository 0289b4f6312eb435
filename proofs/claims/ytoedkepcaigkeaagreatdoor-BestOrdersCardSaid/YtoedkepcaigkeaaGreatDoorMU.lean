/- Part MU of the proof: texts X0. -/
import Derived.Test.YtoedkepcaigkeaaGreatDoorMT
import Derived.Test.YtoedkepcaigkeaaGreatDoorMC
import Derived.Test.YtoedkepcaigkeaaGreatDoorProg
namespace Go.Proofs.YtoedkepcaigkeaaGreatDoor
set_option linter.unusedVariables false
set_option linter.unusedSectionVars false
set_option linter.unusedSimpArgs false
set_option maxHeartbeats 4000000
set_option maxRecDepth 100000
def Qkk (Γ:Gam) (rv:List Qab) (cf:Cf):Prop:=Go Tryz.prog Tryz.f71 [] Γ (one (lL 2 rv Qab.enc)) [] cf
def Qin (Γ:Gam) (rv:List Qab) (word:ByteArray) (l:List Qab) (l1:List Qab) (i:Int):Prop:=Qkk Γ rv ⟨[.c 116,.l 116,.b 0,.c 15],⟨40,[vS 0 word,vL 1 2 l Qab.enc,vO 5 0 2 l1 Qab.enc,vI 6 i],[oS 2 151 l1 Qab.enc]⟩⟩
def QhQ (Γ:Gam) (rv:List Qab) (word:ByteArray) (l:List Qab) (l2:List Qab):Prop:=Qkk Γ rv ⟨[.c 15],⟨40,[vO 5 0 2 l2 Qab.enc],[oS 2 151 l2 Qab.enc]⟩⟩
theorem Qlb (Γ:Gam) (rv:List Qab) {word l l1 i at_} {x:(List Qab×Int)⊕(List Qab)} (h:QfT word l l1 i at_=some x) (hI:∀ s:List Qab×Int,x=.inl s→Qin Γ rv word l s.1 s.2) (hE:∀ e:List Qab,x=.inr e→QhQ Γ rv word l e):Qkk Γ rv ⟨[.c 3731,.b 1,.c 467,.l 116,.b 0,.c 15],⟨40,[vS 0 word,vL 1 2 l Qab.enc,vO 5 0 2 l1 Qab.enc,vI 6 i,vS 7 at_],[oS 2 151 l1 Qab.enc]⟩⟩:=by
 unfold QfT at h
 obtain ⟨x1,h5,h⟩:=Qad h
 obtain ⟨h6,h⟩:=Qaw h
 exact gn 4 [0,1,5,6] [2] [cE Qab.enc h5,oO (Eq.refl ([(Qab.mk x1.err at_)].map Qab.enc).length),aO Qab.enc h6] (hI _ (oJ h))
theorem QqV (Γ:Gam) (rv:List Qab) {word l} {s:List Qab×Int} {e:List Qab} (h:loopF (fun s=>QeU word l s.1 s.2) s=some e) (hD:QhQ Γ rv word l e):Qin Γ rv word l s.1 s.2:=by
 refine QaD (C:=fun (s:List Qab×Int)=>Qin Γ rv word l s.1 s.2) (D:=fun (e:List Qab)=>QhQ Γ rv word l e) ?_ h hD
 clear h hD s e
 rintro ⟨l1,i⟩ z_ h hI hE
 replace h:QeU word l l1 i=_:=h
 unfold QeU at h
 rcases Qai h with ⟨h0,h⟩|⟨h0,h⟩
 ·obtain ⟨x0,h1,h⟩:=Qad h
  rcases Qai h with ⟨h2,h⟩|⟨h2,h⟩
  ·exact gn 14 [0,1,5,6,7] [0] [nL Qab.enc l,bT h0,cE Qab.enc h1,nF h2] (Qlb Γ rv h hI hE)
  ·obtain ⟨h3,h⟩:=Qaw h
   obtain ⟨h4,h⟩:=Qaw h
   exact gn 14 [0,1,5,6,7] [0] [nL Qab.enc l,bT h0,cE Qab.enc h1,nT h2,oO (h3),cE Qab.enc h1,oO (h4)] (Qlb Γ rv h hI hE)
 ·exact gn 5 [5] [0] [nL Qab.enc l,bF h0] (hE _ (oJ h))
theorem Qjw {word l} {rv:List Qab} (h:Qgs word l=some rv):AFn Tryz.prog 71 [.one (.str word),.one (lL 2 l Qab.enc)] [] (one (lL 2 rv Qab.enc)) []:=by
 refine QaN Tryz.func71 (by kernel_rfl) (by kernel_rfl) (fun Γ=>?_)
 unfold Qgs at h
 obtain ⟨e0,h7,h⟩:=Qad h
 refine gn 9 [0,1,5,6] [0] [hW 12,hH (.adopt 5 2 151)] (QqV Γ rv h7 ?_)
 obtain ⟨l2,rfl⟩:∃ x,x=e0:=⟨_,rfl⟩
 replace h:(some l2:Option (List Qab))=some _:=h
 obtain rfl:=Option.some.inj h
 exact gr 2 [] [hW 4,hH (.frz 0),rp 3 (eL l2 Qab.enc)]
def QiO (Γ:Gam) (rv:ByteArray) (cf:Cf):Prop:=Go Tryz.prog Tryz.f113 [] Γ (one (.str rv)) [] cf
def Qhq (Γ:Gam) (rv:ByteArray) (n:Int) (s0:ByteArray) (left:Int) (again:Bool):Prop:=QiO Γ rv ⟨[.c 244,.l 244,.b 0,.c 31],⟨31,[vI 0 n,vS 3 s0,vI 4 left,vB 5 again],[]⟩⟩
def QgL (Γ:Gam) (rv:ByteArray) (n:Int) (s1:ByteArray):Prop:=QiO Γ rv ⟨[.c 31],⟨31,[vI 0 n,vS 3 s1],[]⟩⟩
theorem Qjn (Γ:Gam) (rv:ByteArray) {n s0 left d} {x:(ByteArray×Int×Bool)⊕(ByteArray)} (h:QdR n s0 left d=some x) (hI:∀ s:ByteArray×Int×Bool,x=.inl s→Qhq Γ rv n s.1 s.2.1 s.2.2) (hE:∀ e:ByteArray,x=.inr e→QgL Γ rv n e):QiO Γ rv ⟨[.c 7827,.b 1,.c 979,.l 244,.b 0,.c 31],⟨31,[vI 0 n,vS 3 s0,vI 4 left,vI 6 d],[]⟩⟩:=by
 unfold QdR at h
 obtain ⟨h2,h⟩:=Qaw h
 exact gn 6 [0,3,4,5] [] [hH (.ints [(cvK .u8 (addK .i64 48 d))]),oO (Eq.refl ([(cvK .u8 (addK .i64 48 d))].map e_u8).length),oO (Eq.refl (([(cvK .u8 (addK .i64 48 d))].map e_u8):List (List Lf))),oO (h2),oO (oA (n:=10))] (hI _ (oJ h))
theorem QpG (Γ:Gam) (rv:ByteArray) {n} {s:ByteArray×Int×Bool} {e:ByteArray} (h:loopF (fun s=>Qge n s.1 s.2.1 s.2.2) s=some e) (hD:QgL Γ rv n e):Qhq Γ rv n s.1 s.2.1 s.2.2:=by
 refine QaD (C:=fun (s:ByteArray×Int×Bool)=>Qhq Γ rv n s.1 s.2.1 s.2.2) (D:=fun (e:ByteArray)=>QgL Γ rv n e) ?_ h hD
 clear h hD s e
 rintro ⟨s0,left,again⟩ z_ h hI hE
 replace h:Qge n s0 left again=_:=h
 unfold Qge at h
 rcases Qai h with ⟨h0,h⟩|⟨h0,h⟩
 ·rcases Qai h with ⟨h1,h⟩|⟨h1,h⟩
  ·exact gn 14 [0,3,4,6] [] [bT h0,oO (oA (n:=10)),bT h1] (Qjn Γ rv h hI hE)
  ·exact gn 14 [0,3,4,6] [] [bT h0,oO (oA (n:=10)),bF h1] (Qjn Γ rv h hI hE)
 ·exact gn 5 [0,3] [] [bF h0] (hE _ (oJ h))
theorem Qb8 {n} {rv:ByteArray} (h:Qcb n=some rv):AFn Tryz.prog 113 [.one (lI n)] [] (one (.str rv)) []:=by
 refine QaN Tryz.func113 (by kernel_rfl) (by kernel_rfl) (fun Γ=>?_)
 unfold Qcb at h
 obtain ⟨e0,h3,h⟩:=Qad h
 refine gn 11 [0,3,4,5] [] [] (QpG Γ rv h3 ?_)
 obtain ⟨s1,rfl⟩:∃ x,x=e0:=⟨_,rfl⟩
 replace h:(br (ltI n 0) (chk (QwM.size+s1.size≤9223372036854775807) (some (catS QwM s1))) (some s1):Option ByteArray)=some _:=h
 rcases Qai h with ⟨h4,h⟩|⟨h4,h⟩
 ·obtain ⟨h5,h⟩:=Qaw h
  obtain rfl:=Option.some.inj h
  exact gr 6 [] [bT h4,oO (h5)]
 ·obtain rfl:=Option.some.inj h
  exact gr 7 [] [bF h4]
theorem Qht {c} {rv:Bool} (h:Qjo c=some rv):AFn Tryz.prog 190 [.one (.int .u8 c)] [] (one (.bool rv)) []:=by
 refine QaN Tryz.func190 (by kernel_rfl) (by kernel_rfl) (fun Γ=>?_)
 unfold Qjo at h
 obtain rfl:=Option.some.inj h
 exact gr 4 [] [hP,hP,hP,oI ((geI c 48)=true),oR True ((geI c 48)=true)]
theorem QiP {c} {rv:Bool} (h:QlG c=some rv):AFn Tryz.prog 191 [.one (.int .u8 c)] [] (one (.bool rv)) []:=by
 refine QaN Tryz.func191 (by kernel_rfl) (by kernel_rfl) (fun Γ=>?_)
 unfold QlG at h
 obtain rfl:=Option.some.inj h
 exact gr 4 [] [rp 14 hP,oI ((geI c 97)=true),oR True ((geI c 97)=true),rp 2 (oI (((geI c 97)&&(leI c 122))=false)),oI ((((geI c 97)&&(leI c 122))=false)∧(geI c 65)=true),oI (((geI c 97)&&(leI c 122))=false),oI ((((geI c 97)&&(leI c 122))=false)∧(geI c 65)=true),oR True (((geI c 97)&&(leI c 122))=false),oI ((((geI c 97)&&(leI c 122))||((geI c 65)&&(leI c 90)))=false),oR True ((((geI c 97)&&(leI c 122))||((geI c 65)&&(leI c 90)))=false)]
def QpR (Γ:Gam) (rv:Bool) (cf:Cf):Prop:=Go Tryz.prog Tryz.f157 [] Γ (one (.bool rv)) [] cf
def Qm1 (Γ:Gam) (rv:Bool) (s0:ByteArray) (b:UInt8) (i:Int):Prop:=QpR Γ rv ⟨[.c 116,.l 116,.b 0,.c 15],⟨35,[vS 0 s0,vI 3 i],[]⟩⟩
def QlY (Γ:Gam) (rv:Bool) (s0:ByteArray) (b:UInt8):Prop:=QpR Γ rv ⟨[.c 15],⟨35,[],[]⟩⟩
theorem QrL (Γ:Gam) (rv:Bool) {s0 b} {s:Int} {e:(Unit)⊕(Bool)} (h:loopF (fun s=>Qfi s0 b s) s=some e) (hD:sel e (fun e=>QlY Γ rv s0 b) (fun e=>e=rv)):Qm1 Γ rv s0 b s:=by
 refine QaD (C:=fun (s:Int)=>Qm1 Γ rv s0 b s) (D:=fun (e:(Unit)⊕(Bool))=>sel e (fun e=>QlY Γ rv s0 b) (fun e=>e=rv)) ?_ h hD
 clear h hD s e
 intro i z_ h hI hE
 replace h:Qfi s0 b i=_:=h
 unfold Qfi at h
 rcases Qai h with ⟨h4,h⟩|⟨h4,h⟩
 ·obtain ⟨b1,h5,h⟩:=Qad h
  obtain ⟨r1,h6,h⟩:=Qad h
  rcases Qai h with ⟨h7,h⟩|⟨h7,h⟩
  ·exact gn 14 [0,3] [] [bT h4,yE h5,cC (QiP h6),rp 6 (nF h7),fF] (hI _ (oJ h))
  ·obtain ⟨r2,h8,h⟩:=Qad h
   rcases Qai h with ⟨h9,h⟩|⟨h9,h⟩
   ·exact gn 14 [0,3] [] [bT h4,yE h5,cC (QiP h6),rp 3 (nT h7),yE h5,nT h7,cC (Qht h8),nT h7,nT h7,nF h9] (hI _ (oJ h))
   ·obtain rfl:=(hE _ (oJ h):_=rv)
    exact gr 12 [] [bT h4,yE h5,cC (QiP h6),rp 3 (nT h7),yE h5,nT h7,cC (Qht h8),nT h7,nT h7,nT h9]
 ·exact gn 5 [] [] [bF h4] (hE _ (oJ h))
theorem Qfj {s0} {rv:Bool} (h:Qf4 s0=some rv):AFn Tryz.prog 157 [.one (.str s0)] [] (one (.bool rv)) []:=by
 refine QaN Tryz.func157 (by kernel_rfl) (by kernel_rfl) (fun Γ=>?_)
 unfold Qf4 at h
 rcases Qai h with ⟨h0,h⟩|⟨h0,h⟩
 ·obtain rfl:=Option.some.inj h
  exact gr 8 [] [rp 4 hP,rp 2 (oI ((ltI (sizeS s0) 1)=false)),oR True ((ltI (sizeS s0) 1)=false),rp 4 (bT h0),tT]
 ·obtain ⟨b,h1,h⟩:=Qad h
  obtain ⟨r,h2,h⟩:=Qad h
  rcases Qai h with ⟨h3,h⟩|⟨h3,h⟩
  ·obtain rfl:=Option.some.inj h
   exact gr 8 [] [rp 4 hP,rp 2 (oI ((ltI (sizeS s0) 1)=false)),oR True ((ltI (sizeS s0) 1)=false),bF h0,bF h0,yE h1,bF h0,cC (Qht h2),bF h0,bT h3]
  ·obtain ⟨e0,h10,h⟩:=Qad h
   refine gn 12 [0,3] [] [rp 4 hP,rp 2 (oI ((ltI (sizeS s0) 1)=false)),oR True ((ltI (sizeS s0) 1)=false),bF h0,bF h0,yE h1,bF h0,cC (Qht h2),bF h0,bF h3] (QrL Γ rv h10 ?_)
   rcases e0 with e0|e0
   ·replace h:(some true:Option Bool)=some _:=h
    obtain rfl:=Option.some.inj h
    exact gr 2 [] []
   ·obtain ⟨r3,rfl⟩:∃ x,x=e0:=⟨_,rfl⟩
    replace h:(some r3:Option Bool)=some _:=h
    exact Option.some.inj h
def Qh7 (Γ:Gam) (rv:List Qab) (cf:Cf):Prop:=Go Tryz.prog Tryz.f158 [] Γ (one (lL 2 rv Qab.enc)) [] cf
def Qil (Γ:Gam) (rv:List Qab) (l:List Qao) (l2:List Qab) (i:Int):Prop:=Qh7 Γ rv ⟨[.c 244,.l 244,.b 0,.c 31],⟨88,[vL 0 2 l Qao.enc,vO 3 0 2 l2 Qab.enc,vI 4 i],[oS 2 151 l2 Qab.enc]⟩⟩
def QhH (Γ:Gam) (rv:List Qab) (l:List Qao) (l4:List Qab):Prop:=Qh7 Γ rv ⟨[.c 31],⟨88,[vO 3 0 2 l4 Qab.enc],[oS 2 151 l4 Qab.enc]⟩⟩
theorem QkF (Γ:Gam) (rv:List Qab) {l i x0 l3} {x:(List Qab×Int)⊕(List Qab)} (h:QeF l i x0 l3=some x) (hI:∀ s:List Qab×Int,x=.inl s→Qil Γ rv l s.1 s.2) (hE:∀ e:List Qab,x=.inr e→QhH Γ rv l e):Qh7 Γ rv ⟨[.c 7827,.b 1,.c 979,.l 244,.b 0,.c 31],⟨88,[vL 0 2 l Qao.enc,vO 3 0 2 l3 Qab.enc,vI 4 i,vP 5 1 2],[oS 2 151 l3 Qab.enc,oX 2 117 (Qao.enc x0)]⟩⟩:=by
 unfold QeF at h
 rcases Qai h with ⟨h7,h⟩|⟨h7,h⟩
 ·obtain ⟨x1,h8,h⟩:=Qad h
  rcases Qai h with ⟨h9,h⟩|⟨h9,h⟩
  ·obtain ⟨r1,h10,h⟩:=Qad h
   obtain ⟨h11,h⟩:=Qaw h
   exact gn 7 [0,3,4] [3] [hH (.draw 24 []),rp 6 (bT h7),cE Qao.enc h8,rp 4 (bT h7),rp 9 (bT h9),bT h7,bT h9,bT h7,tT,cC (Qb8 h10),oO (Eq.refl ([(Qab.mk 13 r1)].map Qab.enc).length),aO Qab.enc h11] (hI _ (oJ h))
  ·rcases Qai h with ⟨h12,h⟩|⟨h12,h⟩
   ·obtain ⟨r2,h13,h⟩:=Qad h
    obtain ⟨h14,h⟩:=Qaw h
    exact gn 7 [0,3,4] [3] [hH (.draw 24 []),rp 6 (bT h7),cE Qao.enc h8,rp 4 (bT h7),rp 6 (bF h9),cE Qao.enc h8,rp 3 (bF h9),bT h7,bF h9,bT h7,bT h12,cC (Qb8 h13),oO (Eq.refl ([(Qab.mk 13 r2)].map Qab.enc).length),aO Qab.enc h14] (hI _ (oJ h))
   ·exact gn 7 [0,3,4] [0] [hH (.draw 24 []),rp 6 (bT h7),cE Qao.enc h8,rp 4 (bT h7),rp 6 (bF h9),cE Qao.enc h8,rp 3 (bF h9),bT h7,bF h9,bT h7,bF h12] (hI _ (oJ h))
 ·exact gn 7 [0,3,4] [0] [hH (.draw 24 []),rp 10 (bF h7),rp 9 kF,bF h7,bF h7,fF] (hI _ (oJ h))
theorem QqM (Γ:Gam) (rv:List Qab) {l} {s:List Qab×Int} {e:List Qab} (h:loopF (fun s=>QdI l s.1 s.2) s=some e) (hD:QhH Γ rv l e):Qil Γ rv l s.1 s.2:=by
 refine QaD (C:=fun (s:List Qab×Int)=>Qil Γ rv l s.1 s.2) (D:=fun (e:List Qab)=>QhH Γ rv l e) ?_ h hD
 clear h hD s e
 rintro ⟨l2,i⟩ z_ h hI hE
 replace h:QdI l l2 i=_:=h
 unfold QdI at h
 rcases Qai h with ⟨h2,h⟩|⟨h2,h⟩
 ·obtain ⟨x0,h3,h⟩:=Qad h
  rcases Qai h with ⟨h4,h⟩|⟨h4,h⟩
  ·obtain ⟨r,h5,h⟩:=Qad h
   obtain ⟨h6,h⟩:=Qaw h
   exact gn 14 [0,3,4,5] [3,1] [nL Qao.enc l,bT h2,cE Qao.enc h3,rp 17 hP,rp 2 (oI ((ltI x0.t 0)=false)),oR True ((ltI x0.t 0)=false),rp 4 (oI (((ltI x0.t 0)||(gtI x0.t 4096))=false)),oR True (((ltI x0.t 0)||(gtI x0.t 4096))=false),rp 5 (oI ((((ltI x0.t 0)||(gtI x0.t 4096))||(ltI x0.a x0.t))=false)),oR True ((((ltI x0.t 0)||(gtI x0.t 4096))||(ltI x0.a x0.t))=false),bT h4,cC (Qb8 h5),oO (Eq.refl ([(Qab.mk 2 r)].map Qab.enc).length),aO Qab.enc h6] (QkF Γ rv h hI hE)
  ·exact gn 14 [0,3,4,5] [0,1] [nL Qao.enc l,bT h2,cE Qao.enc h3,rp 17 hP,rp 2 (oI ((ltI x0.t 0)=false)),oR True ((ltI x0.t 0)=false),rp 4 (oI (((ltI x0.t 0)||(gtI x0.t 4096))=false)),oR True (((ltI x0.t 0)||(gtI x0.t 4096))=false),rp 5 (oI ((((ltI x0.t 0)||(gtI x0.t 4096))||(ltI x0.a x0.t))=false)),oR True ((((ltI x0.t 0)||(gtI x0.t 4096))||(ltI x0.a x0.t))=false),bF h4] (QkF Γ rv h hI hE)
 ·exact gn 5 [3] [0] [nL Qao.enc l,bF h2] (hE _ (oJ h))
theorem QkE (Γ:Gam) (rv:List Qab) {l l1} (h:QfM l l1=some rv):Qh7 Γ rv ⟨[.c 15],⟨88,[vL 0 2 l Qao.enc,vO 3 0 2 l1 Qab.enc],[oS 2 151 l1 Qab.enc]⟩⟩:=by
 unfold QfM at h
 obtain ⟨e0,h15,h⟩:=Qad h
 refine gn 5 [0,3,4] [0] [] (QqM Γ rv h15 ?_)
 obtain ⟨l4,rfl⟩:∃ x,x=e0:=⟨_,rfl⟩
 replace h:(some l4:Option (List Qab))=some _:=h
 obtain rfl:=Option.some.inj h
 exact gr 2 [] [hW 4,hH (.frz 0),rp 3 (eL l4 Qab.enc)]
theorem Qjq {l} {rv:List Qab} (h:Qfx l=some rv):AFn Tryz.prog 158 [.one (lL 2 l Qao.enc)] [] (one (lL 2 rv Qab.enc)) []:=by
 refine QaN Tryz.func158 (by kernel_rfl) (by kernel_rfl) (fun Γ=>?_)
 unfold Qfx at h
 rcases Qai h with ⟨h0,h⟩|⟨h0,h⟩
 ·obtain ⟨h1,h⟩:=Qaw h
  exact gn 9 [0,3] [1] [nL Qao.enc l,hP,hP,oI ((ltI (lenI l) 1)=false),nL Qao.enc l,hP,hP,oI ((ltI (lenI l) 1)=false),oR True ((ltI (lenI l) 1)=false),bT h0,oO (Eq.refl ([(Qab.mk 4 ByteArray.empty)].map Qab.enc).length),aN (l:=([(Qab.mk 4 ByteArray.empty)]:List Qab)) Qab.enc h1] (QkE Γ rv h)
 ·exact gn 9 [0,3] [0] [nL Qao.enc l,hP,hP,oI ((ltI (lenI l) 1)=false),nL Qao.enc l,hP,hP,oI ((ltI (lenI l) 1)=false),oR True ((ltI (lenI l) 1)=false),bF h0,hW 1,hH (.adopt 3 2 151)] (QkE Γ rv h)
theorem Qc5 {t} {rv:Bool} (h:Qhd t=some rv):AFn Tryz.prog 159 [.one (lI t)] [] (one (.bool rv)) []:=by
 refine QaN Tryz.func159 (by kernel_rfl) (by kernel_rfl) (fun Γ=>?_)
 unfold Qhd at h
 obtain rfl:=Option.some.inj h
 exact gr 4 [] [hP,hP,hP,oI ((geI t 0)=true),oR True ((geI t 0)=true)]
def QbN (Γ:Gam) (rv:List Qab) (cf:Cf):Prop:=Go Tryz.prog Tryz.f110 [] Γ (one (lL 2 rv Qab.enc)) [] cf
def Qjr (Γ:Gam) (rv:List Qab) (n:Qam) (i:Int) (r:ByteArray) (x0:Qas) (l:List Qab) (l1:List Qab) (twice:Bool) (k:Int):Prop:=QbN Γ rv ⟨[.c 4084,.l 4084,.b 0,.c 511],⟨192,[vI 1 i,vP 2 0 2,vO 5 1 2 l1 Qab.enc,vS 6 (catS QaZ r),vP 7 2 6,vB 8 twice,vI 9 k],[oX 2 25 (Qam.enc n),oS 2 151 l1 Qab.enc,oX 6 120 (Qas.enc x0)]⟩⟩
def Qi7 (Γ:Gam) (rv:List Qab) (n:Qam) (i:Int) (r:ByteArray) (x0:Qas) (l:List Qab) (l1:List Qab) (twice1:Bool):Prop:=QbN Γ rv ⟨[.c 511],⟨192,[vO 5 0 2 l1 Qab.enc,vS 6 (catS QaZ r),vP 7 1 6,vB 8 twice1],[oS 2 151 l1 Qab.enc,oX 6 120 (Qas.enc x0)]⟩⟩
def Qjs (Γ:Gam) (rv:List Qab) (r:ByteArray) (x0:Qas) (l:List Qab) (r1:List Qab) (l3:List Qab) (k1:Int):Prop:=QbN Γ rv ⟨[.c 32756,.l 32756,.b 2,.c 4095],⟨192,[vO 5 0 2 l3 Qab.enc,vS 6 (catS QaZ r),vP 7 1 6,vL 11 2 r1 Qab.enc,vI 12 k1],[oS 2 151 l3 Qab.enc,oX 6 120 (Qas.enc x0)]⟩⟩
def Qi8 (Γ:Gam) (rv:List Qab) (r:ByteArray) (x0:Qas) (l:List Qab) (r1:List Qab) (l4:List Qab):Prop:=QbN Γ rv ⟨[.c 4095],⟨192,[vO 5 0 2 l4 Qab.enc,vS 6 (catS QaZ r),vP 7 1 6],[oS 2 151 l4 Qab.enc,oX 6 120 (Qas.enc x0)]⟩⟩
def Qjt (Γ:Gam) (rv:List Qab) (r:ByteArray) (x0:Qas) (l:List Qab) (l6:List Qab) (k2:Int):Prop:=QbN Γ rv ⟨[.c 131060,.l 131060,.b 4,.c 16383],⟨192,[vO 5 0 2 l6 Qab.enc,vS 6 (catS QaZ r),vP 7 1 6,vI 13 k2],[oS 2 151 l6 Qab.enc,oX 6 120 (Qas.enc x0)]⟩⟩
def Qi9 (Γ:Gam) (rv:List Qab) (r:ByteArray) (x0:Qas) (l:List Qab) (l7:List Qab):Prop:=QbN Γ rv ⟨[.c 16383],⟨192,[vO 5 0 2 l7 Qab.enc],[oS 2 151 l7 Qab.enc]⟩⟩
theorem QoU (Γ:Gam) (rv:List Qab) {n i r x0 l l1} {s:Bool×Int} {e:Bool} (h:loopF (fun s=>Qck n i r x0 l l1 s.1 s.2) s=some e) (hD:Qi7 Γ rv n i r x0 l l1 e):Qjr Γ rv n i r x0 l l1 s.1 s.2:=by
 refine QaD (C:=fun (s:Bool×Int)=>Qjr Γ rv n i r x0 l l1 s.1 s.2) (D:=fun (e:Bool)=>Qi7 Γ rv n i r x0 l l1 e) ?_ h hD
 clear h hD s e
 rintro ⟨twice,k⟩ z_ h hI hE
 replace h:Qck n i r x0 l l1 twice k=_:=h
 unfold Qck at h
 rcases Qai h with ⟨h7,h⟩|⟨h7,h⟩
 ·obtain ⟨x1,h8,h⟩:=Qad h
  exact gn 13 [1,2,5,6,7,8,9] [0,1,2] [bT h7,cE Qas.enc h8,rp 22 hP,rp 5 (oI (twice=false)),rp 4 (oI ((twice=false)∧(eqI x0.from_ x1.from_)=true)),oI (twice=false),oI ((twice=false)∧(eqI x0.from_ x1.from_)=true),oI (twice=false),rp 4 (oI ((twice=false)∧((eqI x0.from_ x1.from_)&&(eqI x0.to_ x1.to_))=true)),oI (twice=false),oI ((twice=false)∧((eqI x0.from_ x1.from_)&&(eqI x0.to_ x1.to_))=true),oR True (twice=false)] (hI _ (oJ h))
 ·exact gn 5 [5,6,7,8] [1,2] [bF h7] (hE _ (oJ h))
theorem QoV (Γ:Gam) (rv:List Qab) {r x0 l r1} {s:List Qab×Int} {e:List Qab} (h:loopF (fun s=>Qcl r x0 l r1 s.1 s.2) s=some e) (hD:Qi8 Γ rv r x0 l r1 e):Qjs Γ rv r x0 l r1 s.1 s.2:=by
 refine QaD (C:=fun (s:List Qab×Int)=>Qjs Γ rv r x0 l r1 s.1 s.2) (D:=fun (e:List Qab)=>Qi8 Γ rv r x0 l r1 e) ?_ h hD
 clear h hD s e
 rintro ⟨l3,k1⟩ z_ h hI hE
 replace h:Qcl r x0 l r1 l3 k1=_:=h
 unfold Qcl at h
 rcases Qai h with ⟨h13,h⟩|⟨h13,h⟩
 ·obtain ⟨x2,h14,h⟩:=Qad h
  obtain ⟨h15,h⟩:=Qaw h
  exact gn 11 [5,6,7,11,12] [3,1] [nL Qab.enc r1,bT h13,cE Qab.enc h14,oO (Eq.refl ([(Qab.mk x2.err (catS QaZ r))].map Qab.enc).length),aO Qab.enc h15] (hI _ (oJ h))
 ·exact gn 5 [5,6,7] [0,1] [nL Qab.enc r1,bF h13] (hE _ (oJ h))
theorem QoW (Γ:Gam) (rv:List Qab) {r x0 l} {s:List Qab×Int} {e:List Qab} (h:loopF (fun s=>Qcm r x0 l s.1 s.2) s=some e) (hD:Qi9 Γ rv r x0 l e):Qjt Γ rv r x0 l s.1 s.2:=by
 refine QaD (C:=fun (s:List Qab×Int)=>Qjt Γ rv r x0 l s.1 s.2) (D:=fun (e:List Qab)=>Qi9 Γ rv r x0 l e) ?_ h hD
 clear h hD s e
 rintro ⟨l6,k2⟩ z_ h hI hE
 replace h:Qcm r x0 l l6 k2=_:=h
 unfold Qcm at h
 rcases Qai h with ⟨h19,h⟩|⟨h19,h⟩
 ·obtain ⟨x3,h20,h⟩:=Qad h
  obtain ⟨r2,h21,h⟩:=Qad h
  rcases Qai h with ⟨h22,h⟩|⟨h22,h⟩
  ·obtain ⟨r3,h23,h⟩:=Qad h
   rcases Qai h with ⟨h24,h⟩|⟨h24,h⟩
   ·rcases Qai h with ⟨h25,h⟩|⟨h25,h⟩
    ·obtain ⟨x4,h26,h⟩:=Qad h
     rcases Qai h with ⟨h27,h⟩|⟨h27,h⟩
     ·obtain ⟨h28,h⟩:=Qaw h
      exact gn 16 [5,6,7,13] [4,1] [nL Qao.enc x0.slow,bT h19,cE Qao.enc h20,hH (.draw 26 []),cC (Qc5 h21),rp 3 (nF h22),cC (Qc5 h23),rp 2 (nF h22),rp 3 (nF h24),rp 7 (bT h25),cE Qao.enc h26,rp 3 (bT h25),nF h24,bT h25,nF h24,bT h27,oO (Eq.refl ([(Qab.mk 2 (catS QaZ r))].map Qab.enc).length),aO Qab.enc h28] (hI _ (oJ h))
     ·exact gn 16 [5,6,7,13] [0,1] [nL Qao.enc x0.slow,bT h19,cE Qao.enc h20,hH (.draw 26 []),cC (Qc5 h21),rp 3 (nF h22),cC (Qc5 h23),rp 2 (nF h22),rp 3 (nF h24),rp 7 (bT h25),cE Qao.enc h26,rp 3 (bT h25),nF h24,bT h25,nF h24,bF h27] (hI _ (oJ h))
    ·exact gn 16 [5,6,7,13] [0,1] [nL Qao.enc x0.slow,bT h19,cE Qao.enc h20,hH (.draw 26 []),cC (Qc5 h21),rp 3 (nF h22),cC (Qc5 h23),rp 2 (nF h22),rp 3 (nF h24),rp 10 (bF h25),nF h24,bF h25,nF h24,fF] (hI _ (oJ h))
   ·obtain ⟨h29,h⟩:=Qaw h
    exact gn 16 [5,6,7,13] [4,1] [nL Qao.enc x0.slow,bT h19,cE Qao.enc h20,hH (.draw 26 []),cC (Qc5 h21),rp 3 (nF h22),cC (Qc5 h23),rp 2 (nF h22),rp 3 (nT h24),rp 10 kF,rp 2 (nT h24),tT,oO (Eq.refl ([(Qab.mk 2 (catS QaZ r))].map Qab.enc).length),aO Qab.enc h29] (hI _ (oJ h))
  ·obtain ⟨h30,h⟩:=Qaw h
   exact gn 16 [5,6,7,13] [4,1] [nL Qao.enc x0.slow,bT h19,cE Qao.enc h20,hH (.draw 26 []),cC (Qc5 h21),rp 5 (nT h22),tT,tT,tT,rp 10 kF,tT,tT,tT,oO (Eq.refl ([(Qab.mk 2 (catS QaZ r))].map Qab.enc).length),aO Qab.enc h30] (hI _ (oJ h))
 ·exact gn 5 [5] [0] [nL Qao.enc x0.slow,bF h19] (hE _ (oJ h))
theorem Qi6 (Γ:Gam) (rv:List Qab) {r x0 l l5} (h:QbU r x0 l l5=some rv):QbN Γ rv ⟨[.c 8191],⟨192,[vO 5 0 2 l5 Qab.enc,vS 6 (catS QaZ r),vP 7 1 6],[oS 2 151 l5 Qab.enc,oX 6 120 (Qas.enc x0)]⟩⟩:=by
 unfold QbU at h
 obtain ⟨e2,h31,h⟩:=Qad h
 refine gn 5 [5,6,7,13] [0,1] [] (QoW Γ rv h31 ?_)
 obtain ⟨l7,rfl⟩:∃ x,x=e2:=⟨_,rfl⟩
 replace h:(some l7:Option (List Qab))=some _:=h
 obtain rfl:=Option.some.inj h
 exact gr 2 [] [hW 4,hH (.frz 0),rp 3 (eL l7 Qab.enc)]
theorem Qi5 (Γ:Gam) (rv:List Qab) {r x0 l l2} (h:Qcj r x0 l l2=some rv):QbN Γ rv ⟨[.c 1023],⟨192,[vO 5 0 2 l2 Qab.enc,vS 6 (catS QaZ r),vP 7 1 6],[oS 2 151 l2 Qab.enc,oX 6 120 (Qas.enc x0)]⟩⟩:=by
 unfold Qcj at h
 obtain ⟨r1,h12,h⟩:=Qad h
 obtain ⟨e1,h16,h⟩:=Qad h
 refine gn 7 [5,6,7,11,12] [0,1] [cC (Qjq h12)] (QoV Γ rv h16 ?_)
 obtain ⟨l4,rfl⟩:∃ x,x=e1:=⟨_,rfl⟩
 replace h:(br (gtI (lenI x0.slow) 16) (chk (okN (l4++[(Qab.mk 4 (catS QaZ r))]).length 24) (QbU r x0 l (l4++[(Qab.mk 4 (catS QaZ r))]))) (QbU r x0 l l4):Option (List Qab))=some _:=h
 rcases Qai h with ⟨h17,h⟩|⟨h17,h⟩
 ·obtain ⟨h18,h⟩:=Qaw h
  exact gn 5 [5,6,7] [3,1] [nL Qao.enc x0.slow,bT h17,oO (Eq.refl ([(Qab.mk 4 (catS QaZ r))].map Qab.enc).length),aO Qab.enc h18] (Qi6 Γ rv h)
 ·exact gn 5 [5,6,7] [0,1] [nL Qao.enc x0.slow,bF h17] (Qi6 Γ rv h)
theorem Qi4 (Γ:Gam) (rv:List Qab) {n i r x0 l l1} (h:Qdw n i r x0 l l1=some rv):QbN Γ rv ⟨[.c 127],⟨192,[vI 1 i,vP 2 0 2,vO 5 1 2 l1 Qab.enc,vS 6 (catS QaZ r),vP 7 2 6],[oX 2 25 (Qam.enc n),oS 2 151 l1 Qab.enc,oX 6 120 (Qas.enc x0)]⟩⟩:=by
 unfold Qdw at h
 obtain ⟨e0,h9,h⟩:=Qad h
 refine gn 7 [1,2,5,6,7,8,9] [0,1,2] [] (QoU Γ rv h9 ?_)
 obtain ⟨twice1,rfl⟩:∃ x,x=e0:=⟨_,rfl⟩
 replace h:(br twice1 (chk (okN (l1++[(Qab.mk 6 (catS QaZ r))]).length 24) (Qcj r x0 l (l1++[(Qab.mk 6 (catS QaZ r))]))) (Qcj r x0 l l1):Option (List Qab))=some _:=h
 rcases Qai h with ⟨h10,h⟩|⟨h10,h⟩
 ·obtain ⟨h11,h⟩:=Qaw h
  exact gn 5 [5,6,7] [3,1] [bT h10,oO (Eq.refl ([(Qab.mk 6 (catS QaZ r))].map Qab.enc).length),aO Qab.enc h11] (Qi5 Γ rv h)
 ·exact gn 5 [5,6,7] [0,1] [bF h10] (Qi5 Γ rv h)
theorem Qi3 (Γ:Gam) (rv:List Qab) {n i r x0 l} (h:Qdv n i r x0 l=some rv):QbN Γ rv ⟨[.c 63],⟨192,[vI 1 i,vP 2 0 2,vO 5 1 2 l Qab.enc,vS 6 (catS QaZ r),vP 7 2 6],[oX 2 25 (Qam.enc n),oS 2 151 l Qab.enc,oX 6 120 (Qas.enc x0)]⟩⟩:=by
 unfold Qdv at h
 rcases Qai h with ⟨h5,h⟩|⟨h5,h⟩
 ·obtain ⟨h6,h⟩:=Qaw h
  exact gn 5 [1,2,5,6,7] [0,4,2] [rp 18 hP,rp 2 (oI ((ltI x0.profile 0)=false)),oR True ((ltI x0.profile 0)=false),rp 2 (oI (((ltI x0.profile 0)||(gtI x0.profile 7))=false)),oR True (((ltI x0.profile 0)||(gtI x0.profile 7))=false),rp 2 (oI ((((ltI x0.profile 0)||(gtI x0.profile 7))||(ltI x0.miles 0))=false)),oR True ((((ltI x0.profile 0)||(gtI x0.profile 7))||(ltI x0.miles 0))=false),rp 4 (oI (((((ltI x0.profile 0)||(gtI x0.profile 7))||(ltI x0.miles 0))||(gtI x0.miles 10000))=false)),oR True (((((ltI x0.profile 0)||(gtI x0.profile 7))||(ltI x0.miles 0))||(gtI x0.miles 10000))=false),bT h5,oO (Eq.refl ([(Qab.mk 2 (catS QaZ r))].map Qab.enc).length),aO Qab.enc h6] (Qi4 Γ rv h)
 ·exact gn 5 [1,2,5,6,7] [0,1,2] [rp 18 hP,rp 2 (oI ((ltI x0.profile 0)=false)),oR True ((ltI x0.profile 0)=false),rp 2 (oI (((ltI x0.profile 0)||(gtI x0.profile 7))=false)),oR True (((ltI x0.profile 0)||(gtI x0.profile 7))=false),rp 2 (oI ((((ltI x0.profile 0)||(gtI x0.profile 7))||(ltI x0.miles 0))=false)),oR True ((((ltI x0.profile 0)||(gtI x0.profile 7))||(ltI x0.miles 0))=false),rp 4 (oI (((((ltI x0.profile 0)||(gtI x0.profile 7))||(ltI x0.miles 0))||(gtI x0.miles 10000))=false)),oR True (((((ltI x0.profile 0)||(gtI x0.profile 7))||(ltI x0.miles 0))||(gtI x0.miles 10000))=false),bF h5] (Qi4 Γ rv h)
theorem QqO {n i} {rv:List Qab} (h:QfO n i=some rv):AFn Tryz.prog 110 [.agg (Qam.enc n),.one (lI i)] [] (one (lL 2 rv Qab.enc)) []:=by
 refine QaN Tryz.func110 (by kernel_rfl) (by kernel_rfl) (fun Γ=>?_)
 unfold QfO at h
 obtain ⟨r,h0,h⟩:=Qad h
 obtain ⟨h1,h⟩:=Qaw h
 obtain ⟨x0,h2,h⟩:=Qad h
 rcases Qai h with ⟨h3,h⟩|⟨h3,h⟩
 ·obtain ⟨h4,h⟩:=Qaw h
  exact gn 13 [1,2,5,6,7] [0,3,1] [cC (Qb8 h0),oO (h1),cE Qas.enc h2,rp 5 hP,rp 3 (oI ((ltI x0.from_ 0)=false)),nL e_str n.places,rp 11 hP,rp 2 (oI ((ltI x0.from_ 0)=false)),oR True ((ltI x0.from_ 0)=false),rp 2 (oI (((ltI x0.from_ 0)||(geI x0.from_ (lenI n.places)))=false)),oR True (((ltI x0.from_ 0)||(geI x0.from_ (lenI n.places)))=false),rp 3 (oI ((((ltI x0.from_ 0)||(geI x0.from_ (lenI n.places)))||(ltI x0.to_ 0))=false)),nL e_str n.places,hP,hP,rp 2 (oI ((((ltI x0.from_ 0)||(geI x0.from_ (lenI n.places)))||(ltI x0.to_ 0))=false)),oR True ((((ltI x0.from_ 0)||(geI x0.from_ (lenI n.places)))||(ltI x0.to_ 0))=false),bT h3,oO (Eq.refl ([(Qab.mk 11 (catS QaZ r))].map Qab.enc).length),aN (l:=([(Qab.mk 11 (catS QaZ r))]:List Qab)) Qab.enc h4] (Qi3 Γ rv h)
 ·exact gn 13 [1,2,5,6,7] [0,2,1] [cC (Qb8 h0),oO (h1),cE Qas.enc h2,rp 5 hP,rp 3 (oI ((ltI x0.from_ 0)=false)),nL e_str n.places,rp 11 hP,rp 2 (oI ((ltI x0.from_ 0)=false)),oR True ((ltI x0.from_ 0)=false),rp 2 (oI (((ltI x0.from_ 0)||(geI x0.from_ (lenI n.places)))=false)),oR True (((ltI x0.from_ 0)||(geI x0.from_ (lenI n.places)))=false),rp 3 (oI ((((ltI x0.from_ 0)||(geI x0.from_ (lenI n.places)))||(ltI x0.to_ 0))=false)),nL e_str n.places,hP,hP,rp 2 (oI ((((ltI x0.from_ 0)||(geI x0.from_ (lenI n.places)))||(ltI x0.to_ 0))=false)),oR True ((((ltI x0.from_ 0)||(geI x0.from_ (lenI n.places)))||(ltI x0.to_ 0))=false),bF h3,hW 1,hH (.adopt 5 2 151)] (Qi3 Γ rv h)
def QcN (Γ:Gam) (rv:List Qab) (cf:Cf):Prop:=Go Tryz.prog Tryz.f109 [] Γ (one (lO 0 2 rv Qab.enc)) [oS 2 151 rv Qab.enc] cf
def QgD (Γ:Gam) (rv:List Qab) (n:Qam) (l:List Qab) (l1:List Qab) (i:Int) (r:ByteArray) (twice:Bool) (k:Int):Prop:=QcN Γ rv ⟨[.c 250484,.l 250484,.b 2,.c 31311,.b 1,.c 979,.l 244,.b 0,.c 31],⟨64,[vP 1 0 2,vO 3 1 2 l1 Qab.enc,vI 4 i,vS 5 (catS QdY r),vB 6 twice,vI 7 k],[oX 2 25 (Qam.enc n),oS 2 151 l1 Qab.enc]⟩⟩
def Qgo (Γ:Gam) (rv:List Qab) (n:Qam) (l:List Qab) (l1:List Qab) (i:Int) (r:ByteArray) (twice1:Bool):Prop:=QcN Γ rv ⟨[.c 31311,.b 1,.c 979,.l 244,.b 0,.c 31],⟨64,[vP 1 0 2,vO 3 1 2 l1 Qab.enc,vI 4 i,vS 5 (catS QdY r),vB 6 twice1],[oX 2 25 (Qam.enc n),oS 2 151 l1 Qab.enc]⟩⟩
def QgC (Γ:Gam) (rv:List Qab) (n:Qam) (l:List Qab) (l1:List Qab) (i:Int):Prop:=QcN Γ rv ⟨[.c 244,.l 244,.b 0,.c 31],⟨64,[vP 1 0 2,vO 3 1 2 l1 Qab.enc,vI 4 i],[oX 2 25 (Qam.enc n),oS 2 151 l1 Qab.enc]⟩⟩
def Qgn (Γ:Gam) (rv:List Qab) (n:Qam) (l:List Qab) (l2:List Qab):Prop:=QcN Γ rv ⟨[.c 31],⟨64,[vO 3 0 2 l2 Qab.enc],[oS 2 151 l2 Qab.enc]⟩⟩
theorem Qkj (Γ:Gam) (rv:List Qab) {n l l1 i r} {s:Bool×Int} {e:Bool} (h:loopF (fun s=>Qbn n l l1 i r s.1 s.2) s=some e) (hD:Qgo Γ rv n l l1 i r e):QgD Γ rv n l l1 i r s.1 s.2:=by
 refine QaD (C:=fun (s:Bool×Int)=>QgD Γ rv n l l1 i r s.1 s.2) (D:=fun (e:Bool)=>Qgo Γ rv n l l1 i r e) ?_ h hD
 clear h hD s e
 rintro ⟨twice,k⟩ z_ h hI hE
 replace h:Qbn n l l1 i r twice k=_:=h
 unfold Qbn at h
 rcases Qai h with ⟨h8,h⟩|⟨h8,h⟩
 ·rcases Qai h with ⟨h9,h⟩|⟨h9,h⟩
  ·exact gn 11 [1,3,4,5,6,7] [0,1] [bT h8,hH (.draw 14 []),rp 12 (bT h9)] (hI _ (oJ h))
  ·obtain ⟨x1,h10,h⟩:=Qad h
   obtain ⟨x2,h11,h⟩:=Qad h
   exact gn 11 [1,3,4,5,6,7] [0,1] [bT h8,hH (.draw 14 []),rp 4 (bF h9),cE e_str h10,rp 5 (bF h9),cE e_str h11,rp 3 (bF h9)] (hI _ (oJ h))
 ·exact gn 5 [1,3,4,5,6] [0,1] [bF h8] (hE _ (oJ h))
theorem Qki (Γ:Gam) (rv:List Qab) {n l} {s:List Qab×Int} {e:List Qab} (h:loopF (fun s=>Qbm n l s.1 s.2) s=some e) (hD:Qgn Γ rv n l e):QgC Γ rv n l s.1 s.2:=by
 refine QaD (C:=fun (s:List Qab×Int)=>QgC Γ rv n l s.1 s.2) (D:=fun (e:List Qab)=>Qgn Γ rv n l e) ?_ h hD
 clear h hD s e
 rintro ⟨l1,i⟩ z_ h hI hE
 replace h:Qbm n l l1 i=_:=h
 unfold Qbm at h
 rcases Qai h with ⟨h2,h⟩|⟨h2,h⟩
 ·obtain ⟨r,h3,h⟩:=Qad h
  obtain ⟨h4,h⟩:=Qaw h
  obtain ⟨x0,h5,h⟩:=Qad h
  obtain ⟨r1,h6,h⟩:=Qad h
  rcases Qai h with ⟨h7,h⟩|⟨h7,h⟩
  ·obtain ⟨e0,h12,h⟩:=Qad h
   refine gn 21 [1,3,4,5,6,7] [0,1] [nL e_str n.places,bT h2,cC (Qb8 h3),oO (h4),cE e_str h5,cC (Qfj h6),nF h7] (Qkj Γ rv h12 ?_)
   obtain ⟨twice1,rfl⟩:∃ x,x=e0:=⟨_,rfl⟩
   replace h:(br twice1 (chk (okN (l1++[(Qab.mk 6 (catS QdY r))]).length 24) (some (.inl ((l1++[(Qab.mk 6 (catS QdY r))]),(addK .i64 i 1))))) (some (.inl (l1,(addK .i64 i 1)))):Option ((List Qab×Int)⊕(List Qab)))=some _:=h
   rcases Qai h with ⟨h13,h⟩|⟨h13,h⟩
   ·obtain ⟨h14,h⟩:=Qaw h
    exact gn 7 [1,3,4] [0,3] [bT h13,oO (Eq.refl ([(Qab.mk 6 (catS QdY r))].map Qab.enc).length),aO Qab.enc h14] (hI _ (oJ h))
   ·exact gn 7 [1,3,4] [0,1] [bF h13] (hI _ (oJ h))
  ·obtain ⟨h15,h⟩:=Qaw h
   exact gn 18 [1,3,4] [0,3] [nL e_str n.places,bT h2,cC (Qb8 h3),oO (h4),cE e_str h5,cC (Qfj h6),nT h7,oO (Eq.refl ([(Qab.mk 5 (catS QdY r))].map Qab.enc).length),aO Qab.enc h15] (hI _ (oJ h))
 ·exact gn 5 [3] [1] [nL e_str n.places,bF h2] (hE _ (oJ h))
theorem Qgm (Γ:Gam) (rv:List Qab) {n l} (h:QcB n l=some rv):QcN Γ rv ⟨[.c 15],⟨64,[vP 1 0 2,vO 3 1 2 l Qab.enc],[oX 2 25 (Qam.enc n),oS 2 151 l Qab.enc]⟩⟩:=by
 unfold QcB at h
 obtain ⟨e1,h16,h⟩:=Qad h
 refine gn 5 [1,3,4] [0,1] [] (Qki Γ rv h16 ?_)
 obtain ⟨l2,rfl⟩:∃ x,x=e1:=⟨_,rfl⟩
 replace h:(some l2:Option (List Qab))=some _:=h
 obtain rfl:=Option.some.inj h
 exact gr 2 [0] []
theorem Qhu {n} {rv:List Qab} (h:Qdo n=some rv):AFn Tryz.prog 109 [.agg (Qam.enc n)] [] (one (lO 0 2 rv Qab.enc)) [oS 2 151 rv Qab.enc]:=by
 refine QaN Tryz.func109 (by kernel_rfl) (by kernel_rfl) (fun Γ=>?_)
 unfold Qdo at h
 rcases Qai h with ⟨h0,h⟩|⟨h0,h⟩
 ·obtain ⟨h1,h⟩:=Qaw h
  exact gn 9 [1,3] [0,2] [nL e_str n.places,bT h0,oO (Eq.refl ([(Qab.mk 4 Qly)].map Qab.enc).length),aN (l:=([(Qab.mk 4 Qly)]:List Qab)) Qab.enc h1] (Qgm Γ rv h)
 ·exact gn 9 [1,3] [0,1] [nL e_str n.places,bF h0,hW 1,hH (.adopt 3 2 151)] (Qgm Γ rv h)
def Qkh (Γ:Gam) (rv:List Qab) (cf:Cf):Prop:=Go Tryz.prog Tryz.f72 [] Γ (one (lL 2 rv Qab.enc)) [] cf
def Ql2 (Γ:Gam) (rv:List Qab) (n:Qam) (l:List Qab) (l1:List Qab) (i:Int):Prop:=Qkh Γ rv ⟨[.c 244,.l 244,.b 0,.c 31],⟨28,[vP 1 0 2,vO 3 1 2 l1 Qab.enc,vI 4 i],[oX 2 25 (Qam.enc n),oS 2 151 l1 Qab.enc]⟩⟩
def QkI (Γ:Gam) (rv:List Qab) (n:Qam) (l:List Qab) (l2:List Qab):Prop:=Qkh Γ rv ⟨[.c 31],⟨28,[vO 3 0 2 l2 Qab.enc],[oS 2 151 l2 Qab.enc]⟩⟩
theorem QqN (Γ:Gam) (rv:List Qab) {n l} {s:List Qab×Int} {e:List Qab} (h:loopF (fun s=>Qdg n l s.1 s.2) s=some e) (hD:QkI Γ rv n l e):Ql2 Γ rv n l s.1 s.2:=by
 refine QaD (C:=fun (s:List Qab×Int)=>Ql2 Γ rv n l s.1 s.2) (D:=fun (e:List Qab)=>QkI Γ rv n l e) ?_ h hD
 clear h hD s e
 rintro ⟨l1,i⟩ z_ h hI hE
 replace h:Qdg n l l1 i=_:=h
 unfold Qdg at h
 rcases Qai h with ⟨h3,h⟩|⟨h3,h⟩
 ·obtain ⟨r1,h4,h⟩:=Qad h
  obtain ⟨h5,h⟩:=Qaw h
  exact gn 11 [1,3,4] [0,2] [nL Qas.enc n.arcs,bT h3,cC (QqO h4),aO Qab.enc h5] (hI _ (oJ h))
 ·exact gn 5 [3] [1] [nL Qas.enc n.arcs,bF h3] (hE _ (oJ h))
theorem QkH (Γ:Gam) (rv:List Qab) {n l} (h:QfN n l=some rv):Qkh Γ rv ⟨[.c 15],⟨28,[vP 1 0 2,vO 3 1 2 l Qab.enc],[oX 2 25 (Qam.enc n),oS 2 151 l Qab.enc]⟩⟩:=by
 unfold QfN at h
 obtain ⟨e0,h6,h⟩:=Qad h
 refine gn 5 [1,3,4] [0,1] [] (QqN Γ rv h6 ?_)
 obtain ⟨l2,rfl⟩:∃ x,x=e0:=⟨_,rfl⟩
 replace h:(some l2:Option (List Qab))=some _:=h
 obtain rfl:=Option.some.inj h
 exact gr 2 [] [hW 4,hH (.frz 0),rp 3 (eL l2 Qab.enc)]
theorem QsX {n} {rv:List Qab} (h:QhI n=some rv):AFn Tryz.prog 72 [.agg (Qam.enc n)] [] (one (lL 2 rv Qab.enc)) []:=by
 refine QaN Tryz.func72 (by kernel_rfl) (by kernel_rfl) (fun Γ=>?_)
 unfold QhI at h
 obtain ⟨r,h0,h⟩:=Qad h
 rcases Qai h with ⟨h1,h⟩|⟨h1,h⟩
 ·obtain ⟨h2,h⟩:=Qaw h
  exact gn 9 [1,3] [0,3] [cC (Qhu h0),nL Qas.enc n.arcs,bT h1,oO (Eq.refl ([(Qab.mk 4 QrA)].map Qab.enc).length),aO Qab.enc h2] (QkH Γ rv h)
 ·exact gn 9 [1,3] [0,1] [cC (Qhu h0),nL Qas.enc n.arcs,bF h1] (QkH Γ rv h)
theorem Qan {n lo hi} {rv:Bool} (h:QaX n lo hi=some rv):AFn Tryz.prog 111 [.one (lI n),.one (lI lo),.one (lI hi)] [] (one (.bool rv)) []:=by
 refine QaN Tryz.func111 (by kernel_rfl) (by kernel_rfl) (fun Γ=>?_)
 unfold QaX at h
 obtain rfl:=Option.some.inj h
 exact gr 4 [] [rp 4 hP,rp 2 (oI ((geI n lo)=true)),oR True ((geI n lo)=true)]
theorem Qgq {l} {rv:Int} (h:Qf5 l=some rv):AFn Tryz.prog 75 [.one (lL 14 l Qak.enc)] [] (one (lI rv)) []:=by
 refine QaN Tryz.func75 (by kernel_rfl) (by kernel_rfl) (fun Γ=>?_)
 unfold Qf5 at h
 rcases Qai h with ⟨h0,h⟩|⟨h0,h⟩
 ·obtain rfl:=Option.some.inj h
  exact gr 8 [] [nL Qak.enc l,bT h0]
 ·obtain ⟨x0,h1,h⟩:=Qad h
  obtain rfl:=Option.some.inj h
  exact gr 9 [] [nL Qak.enc l,bF h0,cE Qak.enc h1,nL e_i64 x0.cap]
def QoZ (Γ:Gam) (rv:Bool) (cf:Cf):Prop:=Go Tryz.prog Tryz.f160 [] Γ (one (.bool rv)) [] cf
def Ql8 (Γ:Gam) (rv:Bool) (l:List Qak) (at_:Int) (name:ByteArray) (i:Int):Prop:=QoZ Γ rv ⟨[.c 52,.l 52,.b 0,.c 7],⟨20,[vL 0 14 l Qak.enc,vI 1 at_,vS 2 name,vI 7 i],[]⟩⟩
def QkM (Γ:Gam) (rv:Bool) (l:List Qak) (at_:Int) (name:ByteArray):Prop:=QoZ Γ rv ⟨[.c 7],⟨20,[],[]⟩⟩
theorem QqR (Γ:Gam) (rv:Bool) {l at_ name} {s:Int} {e:(Unit)⊕(Bool)} (h:loopF (fun s=>QcC l at_ name s) s=some e) (hD:sel e (fun e=>QkM Γ rv l at_ name) (fun e=>e=rv)):Ql8 Γ rv l at_ name s:=by
 refine QaD (C:=fun (s:Int)=>Ql8 Γ rv l at_ name s) (D:=fun (e:(Unit)⊕(Bool))=>sel e (fun e=>QkM Γ rv l at_ name) (fun e=>e=rv)) ?_ h hD
 clear h hD s e
 intro i z_ h hI hE
 replace h:QcC l at_ name i=_:=h
 unfold QcC at h
 rcases Qai h with ⟨h0,h⟩|⟨h0,h⟩
 ·obtain ⟨x0,h1,h⟩:=Qad h
  rcases Qai h with ⟨h2,h⟩|⟨h2,h⟩
  ·obtain rfl:=(hE _ (oJ h):_=rv)
   exact gr 12 [] [bT h0,cE Qak.enc h1,bT h2]
  ·exact gn 14 [0,1,2,7] [] [bT h0,cE Qak.enc h1,bF h2] (hI _ (oJ h))
 ·exact gn 5 [] [] [bF h0] (hE _ (oJ h))
theorem QnW {l at_ name} {rv:Bool} (h:QhK l at_ name=some rv):AFn Tryz.prog 160 [.one (lL 14 l Qak.enc),.one (lI at_),.one (.str name)] [] (one (.bool rv)) []:=by
 refine QaN Tryz.func160 (by kernel_rfl) (by kernel_rfl) (fun Γ=>?_)
 unfold QhK at h
 obtain ⟨e0,h3,h⟩:=Qad h
 refine gn 7 [0,1,2,7] [] [] (QqR Γ rv h3 ?_)
 rcases e0 with e0|e0
 ·replace h:(some false:Option Bool)=some _:=h
  obtain rfl:=Option.some.inj h
  exact gr 2 [] []
 ·obtain ⟨r,rfl⟩:∃ x,x=e0:=⟨_,rfl⟩
  replace h:(some r:Option Bool)=some _:=h
  exact Option.some.inj h
def Ql7 (Γ:Gam) (rv:Bool) (cf:Cf):Prop:=Go Tryz.prog Tryz.f161 [] Γ (one (.bool rv)) [] cf
def Qju (Γ:Gam) (rv:Bool) (l:List Int) (i:Int):Prop:=Ql7 Γ rv ⟨[.c 116,.l 116,.b 0,.c 15],⟨28,[vL 0 1 l e_i64,vI 5 i],[]⟩⟩
def Qja (Γ:Gam) (rv:Bool) (l:List Int):Prop:=Ql7 Γ rv ⟨[.c 15],⟨28,[],[]⟩⟩
theorem QoY (Γ:Gam) (rv:Bool) {l} {s:Int} {e:(Unit)⊕(Bool)} (h:loopF (fun s=>QbV l s) s=some e) (hD:sel e (fun e=>Qja Γ rv l) (fun e=>e=rv)):Qju Γ rv l s:=by
 refine QaD (C:=fun (s:Int)=>Qju Γ rv l s) (D:=fun (e:(Unit)⊕(Bool))=>sel e (fun e=>Qja Γ rv l) (fun e=>e=rv)) ?_ h hD
 clear h hD s e
 intro i z_ h hI hE
 replace h:QbV l i=_:=h
 unfold QbV at h
 rcases Qai h with ⟨h2,h⟩|⟨h2,h⟩
 ·obtain ⟨x0,h3,h⟩:=Qad h
  obtain ⟨r1,h4,h⟩:=Qad h
  rcases Qai h with ⟨h5,h⟩|⟨h5,h⟩
  ·exact gn 14 [0,5] [] [nL e_i64 l,bT h2,cE e_i64 h3,cC (Qan h4),nF h5] (hI _ (oJ h))
  ·obtain rfl:=(hE _ (oJ h):_=rv)
   exact gr 12 [] [nL e_i64 l,bT h2,cE e_i64 h3,cC (Qan h4),nT h5]
 ·exact gn 5 [] [] [nL e_i64 l,bF h2] (hE _ (oJ h))
theorem QfQ {l dims} {rv:Bool} (h:QeG l dims=some rv):AFn Tryz.prog 161 [.one (lL 1 l e_i64),.one (lI dims)] [] (one (.bool rv)) []:=by
 refine QaN Tryz.func161 (by kernel_rfl) (by kernel_rfl) (fun Γ=>?_)
 unfold QeG at h
 obtain ⟨r,h0,h⟩:=Qad h
 rcases Qai h with ⟨h1,h⟩|⟨h1,h⟩
 ·obtain rfl:=Option.some.inj h
  exact gr 8 [] [nL e_i64 l,cC (Qan h0),hP,hP,oI ((!r)=false),nL e_i64 l,hP,hP,hP,rp 2 (oI ((!r)=false)),oR True ((!r)=false),bT h1]
 ·obtain ⟨e0,h6,h⟩:=Qad h
  refine gn 12 [0,5] [] [nL e_i64 l,cC (Qan h0),hP,hP,oI ((!r)=false),nL e_i64 l,hP,hP,hP,rp 2 (oI ((!r)=false)),oR True ((!r)=false),bF h1] (QoY Γ rv h6 ?_)
  rcases e0 with e0|e0
  ·replace h:(some true:Option Bool)=some _:=h
   obtain rfl:=Option.some.inj h
   exact gr 2 [] []
  ·obtain ⟨r2,rfl⟩:∃ x,x=e0:=⟨_,rfl⟩
   replace h:(some r2:Option Bool)=some _:=h
   exact Option.some.inj h
def QbQ (Γ:Gam) (rv:List Int) (cf:Cf):Prop:=Go Tryz.prog Tryz.f112 [] Γ (one (lL 1 rv e_i64)) [] cf
theorem QkU (Γ:Gam) (rv:List Int) {x0 l8} (h:QeO x0 l8=some rv):QbQ Γ rv ⟨[.c 4095],⟨125,[vP 7 0 14,vO 8 1 1 l8 e_i64],[oX 14 94 (Qak.enc x0),oS 1 40 l8 e_i64]⟩⟩:=by
 unfold QeO at h
 obtain ⟨r11,h30,h⟩:=Qad h
 rcases Qai h with ⟨h31,h⟩|⟨h31,h⟩
 ·obtain ⟨r12,h32,h⟩:=Qad h
  rcases Qai h with ⟨h33,h⟩|⟨h33,h⟩
  ·obtain ⟨r13,h34,h⟩:=Qad h
   rcases Qai h with ⟨h35,h⟩|⟨h35,h⟩
   ·obtain ⟨r14,h36,h⟩:=Qad h
    rcases Qai h with ⟨h37,h⟩|⟨h37,h⟩
    ·obtain rfl:=Option.some.inj h
     exact gr 7 [] [cC (Qan h30),rp 3 (nF h31),cC (Qan h32),rp 2 (nF h31),rp 3 (nF h33),cC (Qan h34),rp 2 (nF h33),rp 3 (nF h35),cC (Qan h36),rp 2 (nF h35),nF h37,hW 5,hH (.frz 1),rp 3 (eL l8 e_i64)]
    ·obtain ⟨h38,h⟩:=Qaw h
     obtain rfl:=Option.some.inj h
     exact gr 7 [] [cC (Qan h30),rp 3 (nF h31),cC (Qan h32),rp 2 (nF h31),rp 3 (nF h33),cC (Qan h34),rp 2 (nF h33),rp 3 (nF h35),cC (Qan h36),rp 2 (nF h35),nT h37,oO (Eq.refl ([2].map e_i64).length),aO e_i64 h38,hW 5,hH (.frz 3),rp 4 (oO (Eq.refl ((l8++[2]).map e_i64).length))]
   ·obtain ⟨h39,h⟩:=Qaw h
    obtain rfl:=Option.some.inj h
    exact gr 7 [] [cC (Qan h30),rp 3 (nF h31),cC (Qan h32),rp 2 (nF h31),rp 3 (nF h33),cC (Qan h34),rp 2 (nF h33),rp 5 (nT h35),tT,oO (Eq.refl ([2].map e_i64).length),aO e_i64 h39,hW 5,hH (.frz 3),rp 4 (oO (Eq.refl ((l8++[2]).map e_i64).length))]
  ·obtain ⟨h40,h⟩:=Qaw h
   obtain rfl:=Option.some.inj h
   exact gr 7 [] [cC (Qan h30),rp 3 (nF h31),cC (Qan h32),rp 2 (nF h31),rp 5 (nT h33),rp 6 tT,oO (Eq.refl ([2].map e_i64).length),aO e_i64 h40,hW 5,hH (.frz 3),rp 4 (oO (Eq.refl ((l8++[2]).map e_i64).length))]
 ·obtain ⟨h41,h⟩:=Qaw h
  obtain rfl:=Option.some.inj h
  exact gr 7 [] [cC (Qan h30),rp 5 (nT h31),rp 11 tT,oO (Eq.refl ([2].map e_i64).length),aO e_i64 h41,hW 5,hH (.frz 3),rp 4 (oO (Eq.refl ((l8++[2]).map e_i64).length))]
theorem QkT (Γ:Gam) (rv:List Int) {x0 l7} (h:QeN x0 l7=some rv):QbQ Γ rv ⟨[.c 2047],⟨125,[vP 7 0 14,vO 8 1 1 l7 e_i64],[oX 14 94 (Qak.enc x0),oS 1 40 l7 e_i64]⟩⟩:=by
 unfold QeN at h
 obtain ⟨r9,h25,h⟩:=Qad h
 rcases Qai h with ⟨h26,h⟩|⟨h26,h⟩
 ·obtain ⟨r10,h27,h⟩:=Qad h
  rcases Qai h with ⟨h28,h⟩|⟨h28,h⟩
  ·exact gn 5 [7,8] [0,1] [cC (Qan h25),rp 3 (nF h26),cC (Qan h27),rp 2 (nF h26),nF h28] (QkU Γ rv h)
  ·obtain ⟨h29,h⟩:=Qaw h
   exact gn 5 [7,8] [0,3] [cC (Qan h25),rp 3 (nF h26),cC (Qan h27),rp 2 (nF h26),nT h28,oO (Eq.refl ([16].map e_i64).length),aO e_i64 h29] (QkU Γ rv h)
 ·obtain ⟨h42,h⟩:=Qaw h
  obtain ⟨r15,h43,h⟩:=Qad h
  rcases Qai h with ⟨h44,h⟩|⟨h44,h⟩
  ·obtain ⟨r16,h45,h⟩:=Qad h
   rcases Qai h with ⟨h46,h⟩|⟨h46,h⟩
   ·obtain ⟨r17,h47,h⟩:=Qad h
    rcases Qai h with ⟨h48,h⟩|⟨h48,h⟩
    ·obtain ⟨r18,h49,h⟩:=Qad h
     rcases Qai h with ⟨h50,h⟩|⟨h50,h⟩
     ·obtain rfl:=Option.some.inj h
      exact gr 12 [] [cC (Qan h25),rp 5 (nT h26),tT,oO (Eq.refl ([16].map e_i64).length),aO e_i64 h42,cC (Qan h43),rp 3 (nF h44),cC (Qan h45),rp 2 (nF h44),rp 3 (nF h46),cC (Qan h47),rp 2 (nF h46),rp 3 (nF h48),cC (Qan h49),rp 2 (nF h48),nF h50,hW 5,hH (.frz 3),rp 4 (oO (Eq.refl ((l7++[16]).map e_i64).length))]
     ·obtain ⟨h51,h⟩:=Qaw h
      obtain rfl:=Option.some.inj h
      exact gr 12 [] [cC (Qan h25),rp 5 (nT h26),tT,oO (Eq.refl ([16].map e_i64).length),aO e_i64 h42,cC (Qan h43),rp 3 (nF h44),cC (Qan h45),rp 2 (nF h44),rp 3 (nF h46),cC (Qan h47),rp 2 (nF h46),rp 3 (nF h48),cC (Qan h49),rp 2 (nF h48),nT h50,oO (Eq.refl ([2].map e_i64).length),aO e_i64 h51,hW 5,hH (.frz 5),rp 4 (oO (Eq.refl (((l7++[16])++[2]).map e_i64).length))]
    ·obtain ⟨h52,h⟩:=Qaw h
     obtain rfl:=Option.some.inj h
     exact gr 12 [] [cC (Qan h25),rp 5 (nT h26),tT,oO (Eq.refl ([16].map e_i64).length),aO e_i64 h42,cC (Qan h43),rp 3 (nF h44),cC (Qan h45),rp 2 (nF h44),rp 3 (nF h46),cC (Qan h47),rp 2 (nF h46),rp 5 (nT h48),tT,oO (Eq.refl ([2].map e_i64).length),aO e_i64 h52,hW 5,hH (.frz 5),rp 4 (oO (Eq.refl (((l7++[16])++[2]).map e_i64).length))]
   ·obtain ⟨h53,h⟩:=Qaw h
    obtain rfl:=Option.some.inj h
    exact gr 12 [] [cC (Qan h25),rp 5 (nT h26),tT,oO (Eq.refl ([16].map e_i64).length),aO e_i64 h42,cC (Qan h43),rp 3 (nF h44),cC (Qan h45),rp 2 (nF h44),rp 5 (nT h46),rp 6 tT,oO (Eq.refl ([2].map e_i64).length),aO e_i64 h53,hW 5,hH (.frz 5),rp 4 (oO (Eq.refl (((l7++[16])++[2]).map e_i64).length))]
  ·obtain ⟨h54,h⟩:=Qaw h
   obtain rfl:=Option.some.inj h
   exact gr 12 [] [cC (Qan h25),rp 5 (nT h26),tT,oO (Eq.refl ([16].map e_i64).length),aO e_i64 h42,cC (Qan h43),rp 5 (nT h44),rp 11 tT,oO (Eq.refl ([2].map e_i64).length),aO e_i64 h54,hW 5,hH (.frz 5),rp 4 (oO (Eq.refl (((l7++[16])++[2]).map e_i64).length))]
theorem QkS (Γ:Gam) (rv:List Int) {x0 l6} (h:QeM x0 l6=some rv):QbQ Γ rv ⟨[.c 1023],⟨125,[vP 7 0 14,vO 8 1 1 l6 e_i64],[oX 14 94 (Qak.enc x0),oS 1 40 l6 e_i64]⟩⟩:=by
 unfold QeM at h
 obtain ⟨r8,h22,h⟩:=Qad h
 rcases Qai h with ⟨h23,h⟩|⟨h23,h⟩
 ·obtain ⟨h24,h⟩:=Qaw h
  exact gn 5 [7,8] [0,3] [cC (Qan h22),rp 4 hP,rp 2 (oI ((!r8)=false)),oR True ((!r8)=false),bT h23,oO (Eq.refl ([15].map e_i64).length),aO e_i64 h24] (QkT Γ rv h)
 ·exact gn 5 [7,8] [0,1] [cC (Qan h22),rp 4 hP,rp 2 (oI ((!r8)=false)),oR True ((!r8)=false),bF h23] (QkT Γ rv h)
theorem QkR (Γ:Gam) (rv:List Int) {x0 l5} (h:QeL x0 l5=some rv):QbQ Γ rv ⟨[.c 511],⟨125,[vP 7 0 14,vO 8 1 1 l5 e_i64],[oX 14 94 (Qak.enc x0),oS 1 40 l5 e_i64]⟩⟩:=by
 unfold QeL at h
 obtain ⟨r7,h19,h⟩:=Qad h
 rcases Qai h with ⟨h20,h⟩|⟨h20,h⟩
 ·exact gn 5 [7,8] [0,1] [cC (Qan h19),nF h20] (QkS Γ rv h)
 ·obtain ⟨h21,h⟩:=Qaw h
  exact gn 5 [7,8] [0,3] [cC (Qan h19),nT h20,oO (Eq.refl ([18].map e_i64).length),aO e_i64 h21] (QkS Γ rv h)
theorem QkQ (Γ:Gam) (rv:List Int) {l x0 l4} (h:QeK l x0 l4=some rv):QbQ Γ rv ⟨[.c 255],⟨125,[vL 1 14 l Qak.enc,vP 7 0 14,vO 8 1 1 l4 e_i64],[oX 14 94 (Qak.enc x0),oS 1 40 l4 e_i64]⟩⟩:=by
 unfold QeK at h
 obtain ⟨r5,h15,h⟩:=Qad h
 obtain ⟨r6,h16,h⟩:=Qad h
 rcases Qai h with ⟨h17,h⟩|⟨h17,h⟩
 ·exact gn 5 [7,8] [0,1] [hH (.draw 6 []),cC (Qgq h15),cC (QfQ h16),nF h17] (QkR Γ rv h)
 ·obtain ⟨h18,h⟩:=Qaw h
  exact gn 5 [7,8] [0,3] [hH (.draw 6 []),cC (Qgq h15),cC (QfQ h16),nT h17,oO (Eq.refl ([17].map e_i64).length),aO e_i64 h18] (QkR Γ rv h)
theorem QjX (Γ:Gam) (rv:List Int) {x0 l12} (h:QgP x0 l12=some rv):QbQ Γ rv ⟨[.c 4095],⟨125,[vP 7 0 14,vO 8 1 1 l12 e_i64],[oX 14 94 (Qak.enc x0),oS 1 40 l12 e_i64]⟩⟩:=by
 unfold QgP at h
 obtain ⟨r25,h71,h⟩:=Qad h
 rcases Qai h with ⟨h72,h⟩|⟨h72,h⟩
 ·obtain ⟨r26,h73,h⟩:=Qad h
  rcases Qai h with ⟨h74,h⟩|⟨h74,h⟩
  ·obtain ⟨r27,h75,h⟩:=Qad h
   rcases Qai h with ⟨h76,h⟩|⟨h76,h⟩
   ·obtain ⟨r28,h77,h⟩:=Qad h
    rcases Qai h with ⟨h78,h⟩|⟨h78,h⟩
    ·obtain rfl:=Option.some.inj h
     exact gr 7 [] [cC (Qan h71),rp 3 (nF h72),cC (Qan h73),rp 2 (nF h72),rp 3 (nF h74),cC (Qan h75),rp 2 (nF h74),rp 3 (nF h76),cC (Qan h77),rp 2 (nF h76),nF h78,hW 5,hH (.frz 1),rp 3 (eL l12 e_i64)]
    ·obtain ⟨h79,h⟩:=Qaw h
     obtain rfl:=Option.some.inj h
     exact gr 7 [] [cC (Qan h71),rp 3 (nF h72),cC (Qan h73),rp 2 (nF h72),rp 3 (nF h74),cC (Qan h75),rp 2 (nF h74),rp 3 (nF h76),cC (Qan h77),rp 2 (nF h76),nT h78,oO (Eq.refl ([2].map e_i64).length),aO e_i64 h79,hW 5,hH (.frz 3),rp 4 (oO (Eq.refl ((l12++[2]).map e_i64).length))]
   ·obtain ⟨h80,h⟩:=Qaw h
    obtain rfl:=Option.some.inj h
    exact gr 7 [] [cC (Qan h71),rp 3 (nF h72),cC (Qan h73),rp 2 (nF h72),rp 3 (nF h74),cC (Qan h75),rp 2 (nF h74),rp 5 (nT h76),tT,oO (Eq.refl ([2].map e_i64).length),aO e_i64 h80,hW 5,hH (.frz 3),rp 4 (oO (Eq.refl ((l12++[2]).map e_i64).length))]
  ·obtain ⟨h81,h⟩:=Qaw h
   obtain rfl:=Option.some.inj h
   exact gr 7 [] [cC (Qan h71),rp 3 (nF h72),cC (Qan h73),rp 2 (nF h72),rp 5 (nT h74),rp 6 tT,oO (Eq.refl ([2].map e_i64).length),aO e_i64 h81,hW 5,hH (.frz 3),rp 4 (oO (Eq.refl ((l12++[2]).map e_i64).length))]
 ·obtain ⟨h82,h⟩:=Qaw h
  obtain rfl:=Option.some.inj h
  exact gr 7 [] [cC (Qan h71),rp 5 (nT h72),rp 11 tT,oO (Eq.refl ([2].map e_i64).length),aO e_i64 h82,hW 5,hH (.frz 3),rp 4 (oO (Eq.refl ((l12++[2]).map e_i64).length))]
theorem QjW (Γ:Gam) (rv:List Int) {x0 l11} (h:QgO x0 l11=some rv):QbQ Γ rv ⟨[.c 2047],⟨125,[vP 7 0 14,vO 8 1 1 l11 e_i64],[oX 14 94 (Qak.enc x0),oS 1 40 l11 e_i64]⟩⟩:=by
 unfold QgO at h
 obtain ⟨r23,h66,h⟩:=Qad h
 rcases Qai h with ⟨h67,h⟩|⟨h67,h⟩
 ·obtain ⟨r24,h68,h⟩:=Qad h
  rcases Qai h with ⟨h69,h⟩|⟨h69,h⟩
  ·exact gn 5 [7,8] [0,1] [cC (Qan h66),rp 3 (nF h67),cC (Qan h68),rp 2 (nF h67),nF h69] (QjX Γ rv h)
  ·obtain ⟨h70,h⟩:=Qaw h
   exact gn 5 [7,8] [0,3] [cC (Qan h66),rp 3 (nF h67),cC (Qan h68),rp 2 (nF h67),nT h69,oO (Eq.refl ([16].map e_i64).length),aO e_i64 h70] (QjX Γ rv h)
 ·obtain ⟨h83,h⟩:=Qaw h
  obtain ⟨r29,h84,h⟩:=Qad h
  rcases Qai h with ⟨h85,h⟩|⟨h85,h⟩
  ·obtain ⟨r30,h86,h⟩:=Qad h
   rcases Qai h with ⟨h87,h⟩|⟨h87,h⟩
   ·obtain ⟨r31,h88,h⟩:=Qad h
    rcases Qai h with ⟨h89,h⟩|⟨h89,h⟩
    ·obtain ⟨r32,h90,h⟩:=Qad h
     rcases Qai h with ⟨h91,h⟩|⟨h91,h⟩
     ·obtain rfl:=Option.some.inj h
      exact gr 12 [] [cC (Qan h66),rp 5 (nT h67),tT,oO (Eq.refl ([16].map e_i64).length),aO e_i64 h83,cC (Qan h84),rp 3 (nF h85),cC (Qan h86),rp 2 (nF h85),rp 3 (nF h87),cC (Qan h88),rp 2 (nF h87),rp 3 (nF h89),cC (Qan h90),rp 2 (nF h89),nF h91,hW 5,hH (.frz 3),rp 4 (oO (Eq.refl ((l11++[16]).map e_i64).length))]
     ·obtain ⟨h92,h⟩:=Qaw h
      obtain rfl:=Option.some.inj h
      exact gr 12 [] [cC (Qan h66),rp 5 (nT h67),tT,oO (Eq.refl ([16].map e_i64).length),aO e_i64 h83,cC (Qan h84),rp 3 (nF h85),cC (Qan h86),rp 2 (nF h85),rp 3 (nF h87),cC (Qan h88),rp 2 (nF h87),rp 3 (nF h89),cC (Qan h90),rp 2 (nF h89),nT h91,oO (Eq.refl ([2].map e_i64).length),aO e_i64 h92,hW 5,hH (.frz 5),rp 4 (oO (Eq.refl (((l11++[16])++[2]).map e_i64).length))]
    ·obtain ⟨h93,h⟩:=Qaw h
     obtain rfl:=Option.some.inj h
     exact gr 12 [] [cC (Qan h66),rp 5 (nT h67),tT,oO (Eq.refl ([16].map e_i64).length),aO e_i64 h83,cC (Qan h84),rp 3 (nF h85),cC (Qan h86),rp 2 (nF h85),rp 3 (nF h87),cC (Qan h88),rp 2 (nF h87),rp 5 (nT h89),tT,oO (Eq.refl ([2].map e_i64).length),aO e_i64 h93,hW 5,hH (.frz 5),rp 4 (oO (Eq.refl (((l11++[16])++[2]).map e_i64).length))]
   ·obtain ⟨h94,h⟩:=Qaw h
    obtain rfl:=Option.some.inj h
    exact gr 12 [] [cC (Qan h66),rp 5 (nT h67),tT,oO (Eq.refl ([16].map e_i64).length),aO e_i64 h83,cC (Qan h84),rp 3 (nF h85),cC (Qan h86),rp 2 (nF h85),rp 5 (nT h87),rp 6 tT,oO (Eq.refl ([2].map e_i64).length),aO e_i64 h94,hW 5,hH (.frz 5),rp 4 (oO (Eq.refl (((l11++[16])++[2]).map e_i64).length))]
  ·obtain ⟨h95,h⟩:=Qaw h
   obtain rfl:=Option.some.inj h
   exact gr 12 [] [cC (Qan h66),rp 5 (nT h67),tT,oO (Eq.refl ([16].map e_i64).length),aO e_i64 h83,cC (Qan h84),rp 5 (nT h85),rp 11 tT,oO (Eq.refl ([2].map e_i64).length),aO e_i64 h95,hW 5,hH (.frz 5),rp 4 (oO (Eq.refl (((l11++[16])++[2]).map e_i64).length))]
theorem QjV (Γ:Gam) (rv:List Int) {x0 l10} (h:QgN x0 l10=some rv):QbQ Γ rv ⟨[.c 1023],⟨125,[vP 7 0 14,vO 8 1 1 l10 e_i64],[oX 14 94 (Qak.enc x0),oS 1 40 l10 e_i64]⟩⟩:=by
 unfold QgN at h
 obtain ⟨r22,h63,h⟩:=Qad h
 rcases Qai h with ⟨h64,h⟩|⟨h64,h⟩
 ·obtain ⟨h65,h⟩:=Qaw h
  exact gn 5 [7,8] [0,3] [cC (Qan h63),rp 4 hP,rp 2 (oI ((!r22)=false)),oR True ((!r22)=false),bT h64,oO (Eq.refl ([15].map e_i64).length),aO e_i64 h65] (QjW Γ rv h)
 ·exact gn 5 [7,8] [0,1] [cC (Qan h63),rp 4 hP,rp 2 (oI ((!r22)=false)),oR True ((!r22)=false),bF h64] (QjW Γ rv h)
theorem QkV (Γ:Gam) (rv:List Int) {x0 l9} (h:Qhw x0 l9=some rv):QbQ Γ rv ⟨[.c 511],⟨125,[vP 7 0 14,vO 8 1 1 l9 e_i64],[oX 14 94 (Qak.enc x0),oS 1 40 l9 e_i64]⟩⟩:=by
 unfold Qhw at h
 obtain ⟨r21,h60,h⟩:=Qad h
 rcases Qai h with ⟨h61,h⟩|⟨h61,h⟩
 ·exact gn 5 [7,8] [0,1] [cC (Qan h60),nF h61] (QjV Γ rv h)
 ·obtain ⟨h62,h⟩:=Qaw h
  exact gn 5 [7,8] [0,3] [cC (Qan h60),nT h61,oO (Eq.refl ([18].map e_i64).length),aO e_i64 h62] (QjV Γ rv h)
theorem QkP (Γ:Gam) (rv:List Int) {n l x0 l3} (h:QeJ n l x0 l3=some rv):QbQ Γ rv ⟨[.c 127],⟨125,[vL 1 14 l Qak.enc,vP 3 0 2,vP 7 1 14,vO 8 2 1 l3 e_i64],[oX 2 25 (Qam.enc n),oX 14 94 (Qak.enc x0),oS 1 40 l3 e_i64]⟩⟩:=by
 unfold QeJ at h
 obtain ⟨r3,h10,h⟩:=Qad h
 rcases Qai h with ⟨h11,h⟩|⟨h11,h⟩
 ·obtain ⟨r4,h12,h⟩:=Qad h
  rcases Qai h with ⟨h13,h⟩|⟨h13,h⟩
  ·exact gn 5 [1,7,8] [1,2] [nL e_str n.places,cC (Qan h10),rp 5 (nF h11),nL e_str n.places,rp 2 (nF h11),cC (Qan h12),rp 2 (nF h11),nF h13] (QkQ Γ rv h)
  ·obtain ⟨h14,h⟩:=Qaw h
   exact gn 5 [1,7,8] [1,4] [nL e_str n.places,cC (Qan h10),rp 5 (nF h11),nL e_str n.places,rp 2 (nF h11),cC (Qan h12),rp 2 (nF h11),nT h13,oO (Eq.refl ([11].map e_i64).length),aO e_i64 h14] (QkQ Γ rv h)
 ·obtain ⟨h55,h⟩:=Qaw h
  obtain ⟨r19,h56,h⟩:=Qad h
  obtain ⟨r20,h57,h⟩:=Qad h
  rcases Qai h with ⟨h58,h⟩|⟨h58,h⟩
  ·exact gn 10 [7,8] [1,4] [nL e_str n.places,cC (Qan h10),rp 9 (nT h11),tT,oO (Eq.refl ([11].map e_i64).length),aO e_i64 h55,hH (.draw 6 []),cC (Qgq h56),cC (QfQ h57),nF h58] (QkV Γ rv h)
  ·obtain ⟨h59,h⟩:=Qaw h
   exact gn 10 [7,8] [1,6] [nL e_str n.places,cC (Qan h10),rp 9 (nT h11),tT,oO (Eq.refl ([11].map e_i64).length),aO e_i64 h55,hH (.draw 6 []),cC (Qgq h56),cC (QfQ h57),nT h58,oO (Eq.refl ([17].map e_i64).length),aO e_i64 h59] (QkV Γ rv h)
theorem QkO (Γ:Gam) (rv:List Int) {n l x0 l2} (h:QeI n l x0 l2=some rv):QbQ Γ rv ⟨[.c 63],⟨125,[vL 1 14 l Qak.enc,vP 3 0 2,vP 7 1 14,vO 8 2 1 l2 e_i64],[oX 2 25 (Qam.enc n),oX 14 94 (Qak.enc x0),oS 1 40 l2 e_i64]⟩⟩:=by
 unfold QeI at h
 obtain ⟨r2,h7,h⟩:=Qad h
 rcases Qai h with ⟨h8,h⟩|⟨h8,h⟩
 ·exact gn 5 [1,3,7,8] [0,1,2] [cC (Qan h7),nF h8] (QkP Γ rv h)
 ·obtain ⟨h9,h⟩:=Qaw h
  exact gn 5 [1,3,7,8] [0,1,4] [cC (Qan h7),nT h8,oO (Eq.refl ([22].map e_i64).length),aO e_i64 h9] (QkP Γ rv h)
theorem QkN (Γ:Gam) (rv:List Int) {n l at_ x0 l1} (h:QeH n l at_ x0 l1=some rv):QbQ Γ rv ⟨[.c 31],⟨125,[vL 1 14 l Qak.enc,vI 2 at_,vP 3 0 2,vP 7 1 14,vO 8 2 1 l1 e_i64],[oX 2 25 (Qam.enc n),oX 14 94 (Qak.enc x0),oS 1 40 l1 e_i64]⟩⟩:=by
 unfold QeH at h
 obtain ⟨r1,h4,h⟩:=Qad h
 rcases Qai h with ⟨h5,h⟩|⟨h5,h⟩
 ·obtain ⟨h6,h⟩:=Qaw h
  exact gn 5 [1,3,7,8] [0,1,4] [cC (QnW h4),bT h5,oO (Eq.refl ([6].map e_i64).length),aO e_i64 h6] (QkO Γ rv h)
 ·exact gn 5 [1,3,7,8] [0,1,2] [cC (QnW h4),bF h5] (QkO Γ rv h)
theorem QsZ {n l at_} {rv:List Int} (h:QhL n l at_=some rv):AFn Tryz.prog 112 [.agg (Qam.enc n),.one (lL 14 l Qak.enc),.one (lI at_)] [] (one (lL 1 rv e_i64)) []:=by
 refine QaN Tryz.func112 (by kernel_rfl) (by kernel_rfl) (fun Γ=>?_)
 unfold QhL at h
 obtain ⟨x0,h0,h⟩:=Qad h
 obtain ⟨r,h1,h⟩:=Qad h
 rcases Qai h with ⟨h2,h⟩|⟨h2,h⟩
 ·exact gn 11 [1,2,3,7,8] [0,1,2] [cE Qak.enc h0,cC (Qfj h1),nF h2,hW 1,hH (.adopt 8 1 40)] (QkN Γ rv h)
 ·obtain ⟨h3,h⟩:=Qaw h
  exact gn 11 [1,2,3,7,8] [0,1,3] [cE Qak.enc h0,cC (Qfj h1),nT h2,oO (Eq.refl ([5].map e_i64).length),aN (l:=([5]:List Int)) e_i64 h3] (QkN Γ rv h)
def Qgp (Γ:Gam) (rv:List Qab) (cf:Cf):Prop:=Go Tryz.prog Tryz.f73 [] Γ (one (lL 2 rv Qab.enc)) [] cf
def Ql6 (Γ:Gam) (rv:List Qab) (n:Qam) (l:List Qak) (i:Int) (r1:List Int) (l3:List Qab) (k:Int):Prop:=Qgp Γ rv ⟨[.c 31308,.l 31308,.b 2,.b 1,.c 979,.l 244,.b 0,.c 31],⟨44,[vL 1 14 l Qak.enc,vP 2 0 2,vO 5 1 2 l3 Qab.enc,vI 6 i,vL 7 1 r1 e_i64,vI 8 k],[oX 2 25 (Qam.enc n),oS 2 151 l3 Qab.enc]⟩⟩
def QkL (Γ:Gam) (rv:List Qab) (n:Qam) (l:List Qak) (i:Int) (r1:List Int) (l4:List Qab):Prop:=Qgp Γ rv ⟨[.b 1,.c 979,.l 244,.b 0,.c 31],⟨44,[vL 1 14 l Qak.enc,vP 2 0 2,vO 5 1 2 l4 Qab.enc,vI 6 i],[oX 2 25 (Qam.enc n),oS 2 151 l4 Qab.enc]⟩⟩
def Ql5 (Γ:Gam) (rv:List Qab) (n:Qam) (l:List Qak) (l2:List Qab) (i:Int):Prop:=Qgp Γ rv ⟨[.c 244,.l 244,.b 0,.c 31],⟨44,[vL 1 14 l Qak.enc,vP 2 0 2,vO 5 1 2 l2 Qab.enc,vI 6 i],[oX 2 25 (Qam.enc n),oS 2 151 l2 Qab.enc]⟩⟩
def QkK (Γ:Gam) (rv:List Qab) (n:Qam) (l:List Qak) (l5:List Qab):Prop:=Qgp Γ rv ⟨[.c 31],⟨44,[vO 5 0 2 l5 Qab.enc],[oS 2 151 l5 Qab.enc]⟩⟩
theorem QqQ (Γ:Gam) (rv:List Qab) {n l i r1} {s:List Qab×Int} {e:List Qab} (h:loopF (fun s=>Qhv n l i r1 s.1 s.2) s=some e) (hD:QkL Γ rv n l i r1 e):Ql6 Γ rv n l i r1 s.1 s.2:=by
 refine QaD (C:=fun (s:List Qab×Int)=>Ql6 Γ rv n l i r1 s.1 s.2) (D:=fun (e:List Qab)=>QkL Γ rv n l i r1 e) ?_ h hD
 clear h hD s e
 rintro ⟨l3,k⟩ z_ h hI hE
 replace h:Qhv n l i r1 l3 k=_:=h
 unfold Qhv at h
 rcases Qai h with ⟨h5,h⟩|⟨h5,h⟩
 ·obtain ⟨x0,h6,h⟩:=Qad h
  obtain ⟨r2,h7,h⟩:=Qad h
  obtain ⟨h8,h⟩:=Qaw h
  exact gn 11 [1,2,5,6,7,8] [0,3] [nL e_i64 r1,bT h5,hH (.draw 9 []),cE e_i64 h6,cC (Qb8 h7),oO (Eq.refl ([(Qab.mk x0 r2)].map Qab.enc).length),aO Qab.enc h8] (hI _ (oJ h))
 ·exact gn 5 [1,2,5,6] [0,1] [nL e_i64 r1,bF h5] (hE _ (oJ h))
theorem QqP (Γ:Gam) (rv:List Qab) {n l} {s:List Qab×Int} {e:List Qab} (h:loopF (fun s=>Qdh n l s.1 s.2) s=some e) (hD:QkK Γ rv n l e):Ql5 Γ rv n l s.1 s.2:=by
 refine QaD (C:=fun (s:List Qab×Int)=>Ql5 Γ rv n l s.1 s.2) (D:=fun (e:List Qab)=>QkK Γ rv n l e) ?_ h hD
 clear h hD s e
 rintro ⟨l2,i⟩ z_ h hI hE
 replace h:Qdh n l l2 i=_:=h
 unfold Qdh at h
 rcases Qai h with ⟨h3,h⟩|⟨h3,h⟩
 ·obtain ⟨r1,h4,h⟩:=Qad h
  obtain ⟨e0,h9,h⟩:=Qad h
  refine gn 13 [1,2,5,6,7,8] [0,1] [nL Qak.enc l,bT h3,cC (QsZ h4)] (QqQ Γ rv h9 ?_)
  obtain ⟨l4,rfl⟩:∃ x,x=e0:=⟨_,rfl⟩
  replace h:(some (.inl (l4,(addK .i64 i 1))):Option ((List Qab×Int)⊕(List Qab)))=some _:=h
  exact gn 3 [1,2,5,6] [0,1] [] (hI _ (oJ h))
 ·exact gn 5 [5] [1] [nL Qak.enc l,bF h3] (hE _ (oJ h))
theorem QkJ (Γ:Gam) (rv:List Qab) {n l l1} (h:QfP n l l1=some rv):Qgp Γ rv ⟨[.c 15],⟨44,[vL 1 14 l Qak.enc,vP 2 0 2,vO 5 1 2 l1 Qab.enc],[oX 2 25 (Qam.enc n),oS 2 151 l1 Qab.enc]⟩⟩:=by
 unfold QfP at h
 obtain ⟨e1,h10,h⟩:=Qad h
 refine gn 5 [1,2,5,6] [0,1] [] (QqP Γ rv h10 ?_)
 obtain ⟨l5,rfl⟩:∃ x,x=e1:=⟨_,rfl⟩
 replace h:(some l5:Option (List Qab))=some _:=h
 obtain rfl:=Option.some.inj h
 exact gr 2 [] [hW 4,hH (.frz 0),rp 3 (eL l5 Qab.enc)]
theorem QsY {n l} {rv:List Qab} (h:QhJ n l=some rv):AFn Tryz.prog 73 [.agg (Qam.enc n),.one (lL 14 l Qak.enc)] [] (one (lL 2 rv Qab.enc)) []:=by
 refine QaN Tryz.func73 (by kernel_rfl) (by kernel_rfl) (fun Γ=>?_)
 unfold QhJ at h
 obtain ⟨r,h0,h⟩:=Qad h
 rcases Qai h with ⟨h1,h⟩|⟨h1,h⟩
 ·exact gn 9 [1,2,5] [0,1] [nL Qak.enc l,cC (Qan h0),nF h1,hW 1,hH (.adopt 5 2 151)] (QkJ Γ rv h)
 ·obtain ⟨h2,h⟩:=Qaw h
  exact gn 9 [1,2,5] [0,2] [nL Qak.enc l,cC (Qan h0),nT h1,oO (Eq.refl ([(Qab.mk 4 ByteArray.empty)].map Qab.enc).length),aN (l:=([(Qab.mk 4 ByteArray.empty)]:List Qab)) Qab.enc h2] (QkJ Γ rv h)
def QoR (Γ:Gam) (rv:Bool) (cf:Cf):Prop:=Go Tryz.prog Tryz.f162 [] Γ (one (.bool rv)) [] cf
def Ql0 (Γ:Gam) (rv:Bool) (a:List Int) (i:Int):Prop:=QoR Γ rv ⟨[.c 116,.l 116,.b 0,.c 15],⟨28,[vL 0 1 a e_i64,vI 5 i],[]⟩⟩
def QkC (Γ:Gam) (rv:Bool) (a:List Int):Prop:=QoR Γ rv ⟨[.c 15],⟨28,[],[]⟩⟩
theorem QqL (Γ:Gam) (rv:Bool) {a} {s:Int} {e:(Unit)⊕(Bool)} (h:loopF (fun s=>Qcz a s) s=some e) (hD:sel e (fun e=>QkC Γ rv a) (fun e=>e=rv)):Ql0 Γ rv a s:=by
 refine QaD (C:=fun (s:Int)=>Ql0 Γ rv a s) (D:=fun (e:(Unit)⊕(Bool))=>sel e (fun e=>QkC Γ rv a) (fun e=>e=rv)) ?_ h hD
 clear h hD s e
 intro i z_ h hI hE
 replace h:Qcz a i=_:=h
 unfold Qcz at h
 rcases Qai h with ⟨h1,h⟩|⟨h1,h⟩
 ·obtain ⟨x0,h2,h⟩:=Qad h
  rcases Qai h with ⟨h3,h⟩|⟨h3,h⟩
  ·obtain rfl:=(hE _ (oJ h):_=rv)
   exact gr 12 [] [nL e_i64 a,bT h1,cE e_i64 h2,rp 6 (bT h3),tT]
  ·rcases Qai h with ⟨h4,h⟩|⟨h4,h⟩
   ·obtain rfl:=(hE _ (oJ h):_=rv)
    exact gr 12 [] [nL e_i64 a,bT h1,cE e_i64 h2,rp 3 (bF h3),cE e_i64 h2,rp 3 (bF h3),bT h4]
   ·exact gn 14 [0,5] [] [nL e_i64 a,bT h1,cE e_i64 h2,rp 3 (bF h3),cE e_i64 h2,rp 3 (bF h3),bF h4] (hI _ (oJ h))
 ·exact gn 5 [] [] [nL e_i64 a,bF h1] (hE _ (oJ h))
theorem QnR {a dims} {rv:Bool} (h:Qfw a dims=some rv):AFn Tryz.prog 162 [.one (lL 1 a e_i64),.one (lI dims)] [] (one (.bool rv)) []:=by
 refine QaN Tryz.func162 (by kernel_rfl) (by kernel_rfl) (fun Γ=>?_)
 unfold Qfw at h
 rcases Qai h with ⟨h0,h⟩|⟨h0,h⟩
 ·obtain rfl:=Option.some.inj h
  exact gr 8 [] [nL e_i64 a,bT h0]
 ·obtain ⟨e0,h5,h⟩:=Qad h
  refine gn 12 [0,5] [] [nL e_i64 a,bF h0] (QqL Γ rv h5 ?_)
  rcases e0 with e0|e0
  ·replace h:(some true:Option Bool)=some _:=h
   obtain rfl:=Option.some.inj h
   exact gr 2 [] []
  ·obtain ⟨r,rfl⟩:∃ x,x=e0:=⟨_,rfl⟩
   replace h:(some r:Option Bool)=some _:=h
   exact Option.some.inj h
theorem QaJ {n low high} {rv:Bool} (h:QbW n low high=some rv):AFn Tryz.prog 163 [.one (lI n),.one (lI low),.one (lI high)] [] (one (.bool rv)) []:=by
 refine QaN Tryz.func163 (by kernel_rfl) (by kernel_rfl) (fun Γ=>?_)
 unfold QbW at h
 obtain rfl:=Option.some.inj h
 exact gr 4 [] [rp 4 hP,rp 2 (oI ((geI n low)=true)),oR True ((geI n low)=true)]
theorem QbJ {s0} {rv:Int} (h:Qex s0=some rv):AFn Tryz.prog 164 [.agg (Qau.enc s0)] [] (one (lI rv)) []:=by
 refine QaN Tryz.func164 (by kernel_rfl) (by kernel_rfl) (fun Γ=>?_)
 unfold Qex at h
 rcases Qai h with ⟨h0,h⟩|⟨h0,h⟩
 ·obtain rfl:=Option.some.inj h
  exact gr 8 [] [rp 12 hP,rp 2 (oI ((eqI s0.place (-1))=true)),oR True ((eqI s0.place (-1))=true),rp 2 (oI (((eqI s0.place (-1))&&(eqI s0.open_ 0))=true)),oR True (((eqI s0.place (-1))&&(eqI s0.open_ 0))=true),rp 2 (oI ((((eqI s0.place (-1))&&(eqI s0.open_ 0))&&(eqI s0.close 0))=true)),oR True ((((eqI s0.place (-1))&&(eqI s0.open_ 0))&&(eqI s0.close 0))=true),bT h0]
 ·rcases Qai h with ⟨h1,h⟩|⟨h1,h⟩
  ·obtain rfl:=Option.some.inj h
   exact gr 13 [] [rp 12 hP,rp 2 (oI ((eqI s0.place (-1))=true)),oR True ((eqI s0.place (-1))=true),rp 2 (oI (((eqI s0.place (-1))&&(eqI s0.open_ 0))=true)),oR True (((eqI s0.place (-1))&&(eqI s0.open_ 0))=true),rp 2 (oI ((((eqI s0.place (-1))&&(eqI s0.open_ 0))&&(eqI s0.close 0))=true)),oR True ((((eqI s0.place (-1))&&(eqI s0.open_ 0))&&(eqI s0.close 0))=true),bF h0,rp 22 hP,rp 2 (oI ((ltI s0.place 0)=false)),oR True ((ltI s0.place 0)=false),rp 4 (oI (((ltI s0.place 0)||(ltI s0.open_ 0))=false)),oR True (((ltI s0.place 0)||(ltI s0.open_ 0))=false),rp 2 (oI ((((ltI s0.place 0)||(ltI s0.open_ 0))||(gtI s0.open_ s0.close))=false)),oR True ((((ltI s0.place 0)||(ltI s0.open_ 0))||(gtI s0.open_ s0.close))=false),rp 2 (oI (((((ltI s0.place 0)||(ltI s0.open_ 0))||(gtI s0.open_ s0.close))||(gtI s0.close 4096))=false)),oR True (((((ltI s0.place 0)||(ltI s0.open_ 0))||(gtI s0.open_ s0.close))||(gtI s0.close 4096))=false),rp 2 (oI ((((((ltI s0.place 0)||(ltI s0.open_ 0))||(gtI s0.open_ s0.close))||(gtI s0.close 4096))||(ltI s0.service 0))=false)),oR True ((((((ltI s0.place 0)||(ltI s0.open_ 0))||(gtI s0.open_ s0.close))||(gtI s0.close 4096))||(ltI s0.service 0))=false),bT h1]
  ·obtain rfl:=Option.some.inj h
   exact gr 14 [] [rp 12 hP,rp 2 (oI ((eqI s0.place (-1))=true)),oR True ((eqI s0.place (-1))=true),rp 2 (oI (((eqI s0.place (-1))&&(eqI s0.open_ 0))=true)),oR True (((eqI s0.place (-1))&&(eqI s0.open_ 0))=true),rp 2 (oI ((((eqI s0.place (-1))&&(eqI s0.open_ 0))&&(eqI s0.close 0))=true)),oR True ((((eqI s0.place (-1))&&(eqI s0.open_ 0))&&(eqI s0.close 0))=true),bF h0,rp 22 hP,rp 2 (oI ((ltI s0.place 0)=false)),oR True ((ltI s0.place 0)=false),rp 4 (oI (((ltI s0.place 0)||(ltI s0.open_ 0))=false)),oR True (((ltI s0.place 0)||(ltI s0.open_ 0))=false),rp 2 (oI ((((ltI s0.place 0)||(ltI s0.open_ 0))||(gtI s0.open_ s0.close))=false)),oR True ((((ltI s0.place 0)||(ltI s0.open_ 0))||(gtI s0.open_ s0.close))=false),rp 2 (oI (((((ltI s0.place 0)||(ltI s0.open_ 0))||(gtI s0.open_ s0.close))||(gtI s0.close 4096))=false)),oR True (((((ltI s0.place 0)||(ltI s0.open_ 0))||(gtI s0.open_ s0.close))||(gtI s0.close 4096))=false),rp 2 (oI ((((((ltI s0.place 0)||(ltI s0.open_ 0))||(gtI s0.open_ s0.close))||(gtI s0.close 4096))||(ltI s0.service 0))=false)),oR True ((((((ltI s0.place 0)||(ltI s0.open_ 0))||(gtI s0.open_ s0.close))||(gtI s0.close 4096))||(ltI s0.service 0))=false),bF h1]
def QbI (Γ:Gam) (rv:List Int) (cf:Cf):Prop:=Go Tryz.prog Tryz.f114 [] Γ (one (lL 1 rv e_i64)) [] cf
def Qmb (Γ:Gam) (rv:List Int) (places:Int) (dims:Int) (types:Int) (l:List Qah) (at_:Int) (x0:Qah) (l1:List Int) (i:Int):Prop:=QbI Γ rv ⟨[.c 500,.l 500,.b 0,.c 63],⟨156,[vI 0 places,vI 1 dims,vI 2 types,vL 3 16 l Qah.enc,vI 4 at_,vO 11 0 1 l1 e_i64,vP 12 1 16,vI 13 i],[oS 1 40 l1 e_i64,oX 16 124 (Qah.enc x0)]⟩⟩
def Qk8 (Γ:Gam) (rv:List Int) (places:Int) (dims:Int) (types:Int) (l:List Qah) (at_:Int) (x0:Qah) (l1:List Int) (l2:List Int):Prop:=QbI Γ rv ⟨[.c 63],⟨156,[vI 0 places,vI 1 dims,vI 2 types,vO 11 0 1 l2 e_i64,vP 12 1 16],[oS 1 40 l2 e_i64,oX 16 124 (Qah.enc x0)]⟩⟩
theorem QqU (Γ:Gam) (rv:List Int) {places dims types l at_ x0 l1} {s:Int} {e:List Int} (h:loopF (fun s=>QcD places dims types l at_ x0 l1 s) s=some e) (hD:Qk8 Γ rv places dims types l at_ x0 l1 e):Qmb Γ rv places dims types l at_ x0 l1 s:=by
 refine QaD (C:=fun (s:Int)=>Qmb Γ rv places dims types l at_ x0 l1 s) (D:=fun (e:List Int)=>Qk8 Γ rv places dims types l at_ x0 l1 e) ?_ h hD
 clear h hD s e
 intro i z_ h hI hE
 replace h:QcD places dims types l at_ x0 l1 i=_:=h
 unfold QcD at h
 rcases Qai h with ⟨h4,h⟩|⟨h4,h⟩
 ·obtain ⟨x1,h5,h⟩:=Qad h
  rcases Qai h with ⟨h6,h⟩|⟨h6,h⟩
  ·obtain ⟨h7,h⟩:=Qaw h
   exact gn 13 [0,1,2,11,12] [3,1] [bT h4,hH (.draw 8 []),cE Qah.enc h5,bT h6,oO (Eq.refl ([6].map e_i64).length),aO e_i64 h7] (hE _ (oJ h))
  ·exact gn 14 [0,1,2,3,4,11,12,13] [0,1] [bT h4,hH (.draw 8 []),cE Qah.enc h5,bF h6] (hI _ (oJ h))
 ·exact gn 5 [0,1,2,11,12] [0,1] [bF h4] (hE _ (oJ h))
theorem Qk3 (Γ:Gam) (rv:List Int) {types x0 l6} (h:QeS types x0 l6=some rv):QbI Γ rv ⟨[.c 2047],⟨156,[vI 2 types,vO 11 0 1 l6 e_i64,vP 12 1 16],[oS 1 40 l6 e_i64,oX 16 124 (Qah.enc x0)]⟩⟩:=by
 unfold QeS at h
 obtain ⟨r6,h25,h⟩:=Qad h
 rcases Qai h with ⟨h26,h⟩|⟨h26,h⟩
 ·obtain ⟨r7,h27,h⟩:=Qad h
  rcases Qai h with ⟨h28,h⟩|⟨h28,h⟩
  ·obtain ⟨h29,h⟩:=Qaw h
   obtain rfl:=Option.some.inj h
   exact gr 9 [] [rp 5 hP,rp 3 (oI ((neI x0.pick.place (-1))=true)),oR True ((neI x0.pick.place (-1))=true),cC (QaJ h25),rp 3 (nF h26),cC (QaJ h27),rp 2 (nF h26),rp 26 hP,rp 4 (oI ((!r7)=false)),oI (((!r7)=false)∧(gtI x0.split 1)=true),oR True ((!r7)=false),rp 2 (oI (((!r7)||((gtI x0.split 1)&&((neI x0.pick.place (-1))&&(neI x0.drop.place (-1)))))=false)),oR True (((!r7)||((gtI x0.split 1)&&((neI x0.pick.place (-1))&&(neI x0.drop.place (-1)))))=false),rp 3 (oI ((((!r7)||((gtI x0.split 1)&&((neI x0.pick.place (-1))&&(neI x0.drop.place (-1)))))||(ltI x0.last_ (-1)))=false)),oR True ((((!r7)||((gtI x0.split 1)&&((neI x0.pick.place (-1))&&(neI x0.drop.place (-1)))))||(ltI x0.last_ (-1)))=false),rp 2 (oI (((((!r7)||((gtI x0.split 1)&&((neI x0.pick.place (-1))&&(neI x0.drop.place (-1)))))||(ltI x0.last_ (-1)))||(geI x0.last_ types))=false)),oR True (((((!r7)||((gtI x0.split 1)&&((neI x0.pick.place (-1))&&(neI x0.drop.place (-1)))))||(ltI x0.last_ (-1)))||(geI x0.last_ types))=false),rp 3 (oI ((((((!r7)||((gtI x0.split 1)&&((neI x0.pick.place (-1))&&(neI x0.drop.place (-1)))))||(ltI x0.last_ (-1)))||(geI x0.last_ types))||(ltI x0.now (-1)))=false)),oR True ((((((!r7)||((gtI x0.split 1)&&((neI x0.pick.place (-1))&&(neI x0.drop.place (-1)))))||(ltI x0.last_ (-1)))||(geI x0.last_ types))||(ltI x0.now (-1)))=false),bT h28,oO (Eq.refl ([2].map e_i64).length),aO e_i64 h29,hW 5,hH (.frz 3),rp 4 (oO (Eq.refl ((l6++[2]).map e_i64).length))]
  ·obtain rfl:=Option.some.inj h
   exact gr 9 [] [rp 5 hP,rp 3 (oI ((neI x0.pick.place (-1))=true)),oR True ((neI x0.pick.place (-1))=true),cC (QaJ h25),rp 3 (nF h26),cC (QaJ h27),rp 2 (nF h26),rp 26 hP,rp 4 (oI ((!r7)=false)),oI (((!r7)=false)∧(gtI x0.split 1)=true),oR True ((!r7)=false),rp 2 (oI (((!r7)||((gtI x0.split 1)&&((neI x0.pick.place (-1))&&(neI x0.drop.place (-1)))))=false)),oR True (((!r7)||((gtI x0.split 1)&&((neI x0.pick.place (-1))&&(neI x0.drop.place (-1)))))=false),rp 3 (oI ((((!r7)||((gtI x0.split 1)&&((neI x0.pick.place (-1))&&(neI x0.drop.place (-1)))))||(ltI x0.last_ (-1)))=false)),oR True ((((!r7)||((gtI x0.split 1)&&((neI x0.pick.place (-1))&&(neI x0.drop.place (-1)))))||(ltI x0.last_ (-1)))=false),rp 2 (oI (((((!r7)||((gtI x0.split 1)&&((neI x0.pick.place (-1))&&(neI x0.drop.place (-1)))))||(ltI x0.last_ (-1)))||(geI x0.last_ types))=false)),oR True (((((!r7)||((gtI x0.split 1)&&((neI x0.pick.place (-1))&&(neI x0.drop.place (-1)))))||(ltI x0.last_ (-1)))||(geI x0.last_ types))=false),rp 3 (oI ((((((!r7)||((gtI x0.split 1)&&((neI x0.pick.place (-1))&&(neI x0.drop.place (-1)))))||(ltI x0.last_ (-1)))||(geI x0.last_ types))||(ltI x0.now (-1)))=false)),oR True ((((((!r7)||((gtI x0.split 1)&&((neI x0.pick.place (-1))&&(neI x0.drop.place (-1)))))||(ltI x0.last_ (-1)))||(geI x0.last_ types))||(ltI x0.now (-1)))=false),bF h28,hW 5,hH (.frz 0),rp 3 (eL l6 e_i64)]
 ·obtain ⟨h30,h⟩:=Qaw h
  obtain rfl:=Option.some.inj h
  exact gr 9 [] [rp 5 hP,rp 3 (oI ((neI x0.pick.place (-1))=true)),oR True ((neI x0.pick.place (-1))=true),cC (QaJ h25),rp 5 (nT h26),rp 4 tT,kF,rp 21 tT,oO (Eq.refl ([2].map e_i64).length),aO e_i64 h30,hW 5,hH (.frz 3),rp 4 (oO (Eq.refl ((l6++[2]).map e_i64).length))]
theorem Qk5 (Γ:Gam) (rv:List Int) {types x0 l8} (h:Qhy types x0 l8=some rv):QbI Γ rv ⟨[.c 2047],⟨156,[vI 2 types,vO 11 0 1 l8 e_i64,vP 12 1 16],[oS 1 40 l8 e_i64,oX 16 124 (Qah.enc x0)]⟩⟩:=by
 unfold Qhy at h
 obtain ⟨r10,h37,h⟩:=Qad h
 rcases Qai h with ⟨h38,h⟩|⟨h38,h⟩
 ·obtain ⟨r11,h39,h⟩:=Qad h
  rcases Qai h with ⟨h40,h⟩|⟨h40,h⟩
  ·obtain ⟨h41,h⟩:=Qaw h
   obtain rfl:=Option.some.inj h
   exact gr 9 [] [rp 5 hP,rp 3 (oI ((neI x0.pick.place (-1))=true)),oR True ((neI x0.pick.place (-1))=true),cC (QaJ h37),rp 3 (nF h38),cC (QaJ h39),rp 2 (nF h38),rp 26 hP,rp 4 (oI ((!r11)=false)),oI (((!r11)=false)∧(gtI x0.split 1)=true),oR True ((!r11)=false),rp 2 (oI (((!r11)||((gtI x0.split 1)&&((neI x0.pick.place (-1))&&(neI x0.drop.place (-1)))))=false)),oR True (((!r11)||((gtI x0.split 1)&&((neI x0.pick.place (-1))&&(neI x0.drop.place (-1)))))=false),rp 3 (oI ((((!r11)||((gtI x0.split 1)&&((neI x0.pick.place (-1))&&(neI x0.drop.place (-1)))))||(ltI x0.last_ (-1)))=false)),oR True ((((!r11)||((gtI x0.split 1)&&((neI x0.pick.place (-1))&&(neI x0.drop.place (-1)))))||(ltI x0.last_ (-1)))=false),rp 2 (oI (((((!r11)||((gtI x0.split 1)&&((neI x0.pick.place (-1))&&(neI x0.drop.place (-1)))))||(ltI x0.last_ (-1)))||(geI x0.last_ types))=false)),oR True (((((!r11)||((gtI x0.split 1)&&((neI x0.pick.place (-1))&&(neI x0.drop.place (-1)))))||(ltI x0.last_ (-1)))||(geI x0.last_ types))=false),rp 3 (oI ((((((!r11)||((gtI x0.split 1)&&((neI x0.pick.place (-1))&&(neI x0.drop.place (-1)))))||(ltI x0.last_ (-1)))||(geI x0.last_ types))||(ltI x0.now (-1)))=false)),oR True ((((((!r11)||((gtI x0.split 1)&&((neI x0.pick.place (-1))&&(neI x0.drop.place (-1)))))||(ltI x0.last_ (-1)))||(geI x0.last_ types))||(ltI x0.now (-1)))=false),bT h40,oO (Eq.refl ([2].map e_i64).length),aO e_i64 h41,hW 5,hH (.frz 3),rp 4 (oO (Eq.refl ((l8++[2]).map e_i64).length))]
  ·obtain rfl:=Option.some.inj h
   exact gr 9 [] [rp 5 hP,rp 3 (oI ((neI x0.pick.place (-1))=true)),oR True ((neI x0.pick.place (-1))=true),cC (QaJ h37),rp 3 (nF h38),cC (QaJ h39),rp 2 (nF h38),rp 26 hP,rp 4 (oI ((!r11)=false)),oI (((!r11)=false)∧(gtI x0.split 1)=true),oR True ((!r11)=false),rp 2 (oI (((!r11)||((gtI x0.split 1)&&((neI x0.pick.place (-1))&&(neI x0.drop.place (-1)))))=false)),oR True (((!r11)||((gtI x0.split 1)&&((neI x0.pick.place (-1))&&(neI x0.drop.place (-1)))))=false),rp 3 (oI ((((!r11)||((gtI x0.split 1)&&((neI x0.pick.place (-1))&&(neI x0.drop.place (-1)))))||(ltI x0.last_ (-1)))=false)),oR True ((((!r11)||((gtI x0.split 1)&&((neI x0.pick.place (-1))&&(neI x0.drop.place (-1)))))||(ltI x0.last_ (-1)))=false),rp 2 (oI (((((!r11)||((gtI x0.split 1)&&((neI x0.pick.place (-1))&&(neI x0.drop.place (-1)))))||(ltI x0.last_ (-1)))||(geI x0.last_ types))=false)),oR True (((((!r11)||((gtI x0.split 1)&&((neI x0.pick.place (-1))&&(neI x0.drop.place (-1)))))||(ltI x0.last_ (-1)))||(geI x0.last_ types))=false),rp 3 (oI ((((((!r11)||((gtI x0.split 1)&&((neI x0.pick.place (-1))&&(neI x0.drop.place (-1)))))||(ltI x0.last_ (-1)))||(geI x0.last_ types))||(ltI x0.now (-1)))=false)),oR True ((((((!r11)||((gtI x0.split 1)&&((neI x0.pick.place (-1))&&(neI x0.drop.place (-1)))))||(ltI x0.last_ (-1)))||(geI x0.last_ types))||(ltI x0.now (-1)))=false),bF h40,hW 5,hH (.frz 0),rp 3 (eL l8 e_i64)]
 ·obtain ⟨h42,h⟩:=Qaw h
  obtain rfl:=Option.some.inj h
  exact gr 9 [] [rp 5 hP,rp 3 (oI ((neI x0.pick.place (-1))=true)),oR True ((neI x0.pick.place (-1))=true),cC (QaJ h37),rp 5 (nT h38),rp 4 tT,kF,rp 21 tT,oO (Eq.refl ([2].map e_i64).length),aO e_i64 h42,hW 5,hH (.frz 3),rp 4 (oO (Eq.refl ((l8++[2]).map e_i64).length))]
theorem Qk4 (Γ:Gam) (rv:List Int) {types x0 l7} (h:QeT types x0 l7=some rv):QbI Γ rv ⟨[.c 1023],⟨156,[vI 2 types,vO 11 0 1 l7 e_i64,vP 12 1 16],[oS 1 40 l7 e_i64,oX 16 124 (Qah.enc x0)]⟩⟩:=by
 unfold QeT at h
 obtain ⟨r9,h34,h⟩:=Qad h
 rcases Qai h with ⟨h35,h⟩|⟨h35,h⟩
 ·exact gn 5 [2,11,12] [0,1] [cC (QaJ h34),nF h35] (Qk5 Γ rv h)
 ·obtain ⟨h36,h⟩:=Qaw h
  exact gn 5 [2,11,12] [3,1] [cC (QaJ h34),nT h35,oO (Eq.refl ([18].map e_i64).length),aO e_i64 h36] (Qk5 Γ rv h)
theorem Qk2 (Γ:Gam) (rv:List Int) {types x0 l5} (h:QeR types x0 l5=some rv):QbI Γ rv ⟨[.c 511],⟨156,[vI 2 types,vO 11 0 1 l5 e_i64,vP 12 1 16],[oS 1 40 l5 e_i64,oX 16 124 (Qah.enc x0)]⟩⟩:=by
 unfold QeR at h
 obtain ⟨r4,h19,h⟩:=Qad h
 rcases Qai h with ⟨h20,h⟩|⟨h20,h⟩
 ·obtain ⟨h21,h⟩:=Qaw h
  obtain ⟨r5,h22,h⟩:=Qad h
  rcases Qai h with ⟨h23,h⟩|⟨h23,h⟩
  ·exact gn 10 [2,11,12] [3,1] [cC (QbJ h19),rp 5 (bT h20),tT,oO (Eq.refl ([14].map e_i64).length),aO e_i64 h21,cC (QaJ h22),nF h23] (Qk3 Γ rv h)
  ·obtain ⟨h24,h⟩:=Qaw h
   exact gn 10 [2,11,12] [5,1] [cC (QbJ h19),rp 5 (bT h20),tT,oO (Eq.refl ([14].map e_i64).length),aO e_i64 h21,cC (QaJ h22),nT h23,oO (Eq.refl ([18].map e_i64).length),aO e_i64 h24] (Qk3 Γ rv h)
 ·obtain ⟨r8,h31,h⟩:=Qad h
  rcases Qai h with ⟨h32,h⟩|⟨h32,h⟩
  ·obtain ⟨h33,h⟩:=Qaw h
   exact gn 5 [2,11,12] [3,1] [cC (QbJ h19),rp 3 (bF h20),cC (QbJ h31),rp 2 (bF h20),bT h32,oO (Eq.refl ([14].map e_i64).length),aO e_i64 h33] (Qk4 Γ rv h)
  ·exact gn 5 [2,11,12] [0,1] [cC (QbJ h19),rp 3 (bF h20),cC (QbJ h31),rp 2 (bF h20),bF h32] (Qk4 Γ rv h)
theorem Qk1 (Γ:Gam) (rv:List Int) {types x0 l4} (h:QeQ types x0 l4=some rv):QbI Γ rv ⟨[.c 255],⟨156,[vI 2 types,vO 11 0 1 l4 e_i64,vP 12 1 16],[oS 1 40 l4 e_i64,oX 16 124 (Qah.enc x0)]⟩⟩:=by
 unfold QeQ at h
 rcases Qai h with ⟨h17,h⟩|⟨h17,h⟩
 ·obtain ⟨h18,h⟩:=Qaw h
  exact gn 5 [2,11,12] [3,1] [rp 5 hP,rp 3 (oI ((eqI x0.pick.place (-1))=true)),oR True ((eqI x0.pick.place (-1))=true),bT h17,oO (Eq.refl ([19].map e_i64).length),aO e_i64 h18] (Qk2 Γ rv h)
 ·exact gn 5 [2,11,12] [0,1] [rp 5 hP,rp 3 (oI ((eqI x0.pick.place (-1))=true)),oR True ((eqI x0.pick.place (-1))=true),bF h17] (Qk2 Γ rv h)
theorem Qk7 (Γ:Gam) (rv:List Int) {types x0 l10} (h:QhA types x0 l10=some rv):QbI Γ rv ⟨[.c 2047],⟨156,[vI 2 types,vO 11 0 1 l10 e_i64,vP 12 1 16],[oS 1 40 l10 e_i64,oX 16 124 (Qah.enc x0)]⟩⟩:=by
 unfold QhA at h
 obtain ⟨r14,h52,h⟩:=Qad h
 rcases Qai h with ⟨h53,h⟩|⟨h53,h⟩
 ·obtain ⟨r15,h54,h⟩:=Qad h
  rcases Qai h with ⟨h55,h⟩|⟨h55,h⟩
  ·obtain ⟨h56,h⟩:=Qaw h
   obtain rfl:=Option.some.inj h
   exact gr 9 [] [rp 5 hP,rp 3 (oI ((neI x0.pick.place (-1))=true)),oR True ((neI x0.pick.place (-1))=true),cC (QaJ h52),rp 3 (nF h53),cC (QaJ h54),rp 2 (nF h53),rp 26 hP,rp 4 (oI ((!r15)=false)),oI (((!r15)=false)∧(gtI x0.split 1)=true),oR True ((!r15)=false),rp 2 (oI (((!r15)||((gtI x0.split 1)&&((neI x0.pick.place (-1))&&(neI x0.drop.place (-1)))))=false)),oR True (((!r15)||((gtI x0.split 1)&&((neI x0.pick.place (-1))&&(neI x0.drop.place (-1)))))=false),rp 3 (oI ((((!r15)||((gtI x0.split 1)&&((neI x0.pick.place (-1))&&(neI x0.drop.place (-1)))))||(ltI x0.last_ (-1)))=false)),oR True ((((!r15)||((gtI x0.split 1)&&((neI x0.pick.place (-1))&&(neI x0.drop.place (-1)))))||(ltI x0.last_ (-1)))=false),rp 2 (oI (((((!r15)||((gtI x0.split 1)&&((neI x0.pick.place (-1))&&(neI x0.drop.place (-1)))))||(ltI x0.last_ (-1)))||(geI x0.last_ types))=false)),oR True (((((!r15)||((gtI x0.split 1)&&((neI x0.pick.place (-1))&&(neI x0.drop.place (-1)))))||(ltI x0.last_ (-1)))||(geI x0.last_ types))=false),rp 3 (oI ((((((!r15)||((gtI x0.split 1)&&((neI x0.pick.place (-1))&&(neI x0.drop.place (-1)))))||(ltI x0.last_ (-1)))||(geI x0.last_ types))||(ltI x0.now (-1)))=false)),oR True ((((((!r15)||((gtI x0.split 1)&&((neI x0.pick.place (-1))&&(neI x0.drop.place (-1)))))||(ltI x0.last_ (-1)))||(geI x0.last_ types))||(ltI x0.now (-1)))=false),bT h55,oO (Eq.refl ([2].map e_i64).length),aO e_i64 h56,hW 5,hH (.frz 3),rp 4 (oO (Eq.refl ((l10++[2]).map e_i64).length))]
  ·obtain rfl:=Option.some.inj h
   exact gr 9 [] [rp 5 hP,rp 3 (oI ((neI x0.pick.place (-1))=true)),oR True ((neI x0.pick.place (-1))=true),cC (QaJ h52),rp 3 (nF h53),cC (QaJ h54),rp 2 (nF h53),rp 26 hP,rp 4 (oI ((!r15)=false)),oI (((!r15)=false)∧(gtI x0.split 1)=true),oR True ((!r15)=false),rp 2 (oI (((!r15)||((gtI x0.split 1)&&((neI x0.pick.place (-1))&&(neI x0.drop.place (-1)))))=false)),oR True (((!r15)||((gtI x0.split 1)&&((neI x0.pick.place (-1))&&(neI x0.drop.place (-1)))))=false),rp 3 (oI ((((!r15)||((gtI x0.split 1)&&((neI x0.pick.place (-1))&&(neI x0.drop.place (-1)))))||(ltI x0.last_ (-1)))=false)),oR True ((((!r15)||((gtI x0.split 1)&&((neI x0.pick.place (-1))&&(neI x0.drop.place (-1)))))||(ltI x0.last_ (-1)))=false),rp 2 (oI (((((!r15)||((gtI x0.split 1)&&((neI x0.pick.place (-1))&&(neI x0.drop.place (-1)))))||(ltI x0.last_ (-1)))||(geI x0.last_ types))=false)),oR True (((((!r15)||((gtI x0.split 1)&&((neI x0.pick.place (-1))&&(neI x0.drop.place (-1)))))||(ltI x0.last_ (-1)))||(geI x0.last_ types))=false),rp 3 (oI ((((((!r15)||((gtI x0.split 1)&&((neI x0.pick.place (-1))&&(neI x0.drop.place (-1)))))||(ltI x0.last_ (-1)))||(geI x0.last_ types))||(ltI x0.now (-1)))=false)),oR True ((((((!r15)||((gtI x0.split 1)&&((neI x0.pick.place (-1))&&(neI x0.drop.place (-1)))))||(ltI x0.last_ (-1)))||(geI x0.last_ types))||(ltI x0.now (-1)))=false),bF h55,hW 5,hH (.frz 0),rp 3 (eL l10 e_i64)]
 ·obtain ⟨h57,h⟩:=Qaw h
  obtain rfl:=Option.some.inj h
  exact gr 9 [] [rp 5 hP,rp 3 (oI ((neI x0.pick.place (-1))=true)),oR True ((neI x0.pick.place (-1))=true),cC (QaJ h52),rp 5 (nT h53),rp 4 tT,kF,rp 21 tT,oO (Eq.refl ([2].map e_i64).length),aO e_i64 h57,hW 5,hH (.frz 3),rp 4 (oO (Eq.refl ((l10++[2]).map e_i64).length))]
theorem QjZ (Γ:Gam) (rv:List Int) {types x0 l12} (h:QgS types x0 l12=some rv):QbI Γ rv ⟨[.c 2047],⟨156,[vI 2 types,vO 11 0 1 l12 e_i64,vP 12 1 16],[oS 1 40 l12 e_i64,oX 16 124 (Qah.enc x0)]⟩⟩:=by
 unfold QgS at h
 obtain ⟨r18,h64,h⟩:=Qad h
 rcases Qai h with ⟨h65,h⟩|⟨h65,h⟩
 ·obtain ⟨r19,h66,h⟩:=Qad h
  rcases Qai h with ⟨h67,h⟩|⟨h67,h⟩
  ·obtain ⟨h68,h⟩:=Qaw h
   obtain rfl:=Option.some.inj h
   exact gr 9 [] [rp 5 hP,rp 3 (oI ((neI x0.pick.place (-1))=true)),oR True ((neI x0.pick.place (-1))=true),cC (QaJ h64),rp 3 (nF h65),cC (QaJ h66),rp 2 (nF h65),rp 26 hP,rp 4 (oI ((!r19)=false)),oI (((!r19)=false)∧(gtI x0.split 1)=true),oR True ((!r19)=false),rp 2 (oI (((!r19)||((gtI x0.split 1)&&((neI x0.pick.place (-1))&&(neI x0.drop.place (-1)))))=false)),oR True (((!r19)||((gtI x0.split 1)&&((neI x0.pick.place (-1))&&(neI x0.drop.place (-1)))))=false),rp 3 (oI ((((!r19)||((gtI x0.split 1)&&((neI x0.pick.place (-1))&&(neI x0.drop.place (-1)))))||(ltI x0.last_ (-1)))=false)),oR True ((((!r19)||((gtI x0.split 1)&&((neI x0.pick.place (-1))&&(neI x0.drop.place (-1)))))||(ltI x0.last_ (-1)))=false),rp 2 (oI (((((!r19)||((gtI x0.split 1)&&((neI x0.pick.place (-1))&&(neI x0.drop.place (-1)))))||(ltI x0.last_ (-1)))||(geI x0.last_ types))=false)),oR True (((((!r19)||((gtI x0.split 1)&&((neI x0.pick.place (-1))&&(neI x0.drop.place (-1)))))||(ltI x0.last_ (-1)))||(geI x0.last_ types))=false),rp 3 (oI ((((((!r19)||((gtI x0.split 1)&&((neI x0.pick.place (-1))&&(neI x0.drop.place (-1)))))||(ltI x0.last_ (-1)))||(geI x0.last_ types))||(ltI x0.now (-1)))=false)),oR True ((((((!r19)||((gtI x0.split 1)&&((neI x0.pick.place (-1))&&(neI x0.drop.place (-1)))))||(ltI x0.last_ (-1)))||(geI x0.last_ types))||(ltI x0.now (-1)))=false),bT h67,oO (Eq.refl ([2].map e_i64).length),aO e_i64 h68,hW 5,hH (.frz 3),rp 4 (oO (Eq.refl ((l12++[2]).map e_i64).length))]
  ·obtain rfl:=Option.some.inj h
   exact gr 9 [] [rp 5 hP,rp 3 (oI ((neI x0.pick.place (-1))=true)),oR True ((neI x0.pick.place (-1))=true),cC (QaJ h64),rp 3 (nF h65),cC (QaJ h66),rp 2 (nF h65),rp 26 hP,rp 4 (oI ((!r19)=false)),oI (((!r19)=false)∧(gtI x0.split 1)=true),oR True ((!r19)=false),rp 2 (oI (((!r19)||((gtI x0.split 1)&&((neI x0.pick.place (-1))&&(neI x0.drop.place (-1)))))=false)),oR True (((!r19)||((gtI x0.split 1)&&((neI x0.pick.place (-1))&&(neI x0.drop.place (-1)))))=false),rp 3 (oI ((((!r19)||((gtI x0.split 1)&&((neI x0.pick.place (-1))&&(neI x0.drop.place (-1)))))||(ltI x0.last_ (-1)))=false)),oR True ((((!r19)||((gtI x0.split 1)&&((neI x0.pick.place (-1))&&(neI x0.drop.place (-1)))))||(ltI x0.last_ (-1)))=false),rp 2 (oI (((((!r19)||((gtI x0.split 1)&&((neI x0.pick.place (-1))&&(neI x0.drop.place (-1)))))||(ltI x0.last_ (-1)))||(geI x0.last_ types))=false)),oR True (((((!r19)||((gtI x0.split 1)&&((neI x0.pick.place (-1))&&(neI x0.drop.place (-1)))))||(ltI x0.last_ (-1)))||(geI x0.last_ types))=false),rp 3 (oI ((((((!r19)||((gtI x0.split 1)&&((neI x0.pick.place (-1))&&(neI x0.drop.place (-1)))))||(ltI x0.last_ (-1)))||(geI x0.last_ types))||(ltI x0.now (-1)))=false)),oR True ((((((!r19)||((gtI x0.split 1)&&((neI x0.pick.place (-1))&&(neI x0.drop.place (-1)))))||(ltI x0.last_ (-1)))||(geI x0.last_ types))||(ltI x0.now (-1)))=false),bF h67,hW 5,hH (.frz 0),rp 3 (eL l12 e_i64)]
 ·obtain ⟨h69,h⟩:=Qaw h
  obtain rfl:=Option.some.inj h
  exact gr 9 [] [rp 5 hP,rp 3 (oI ((neI x0.pick.place (-1))=true)),oR True ((neI x0.pick.place (-1))=true),cC (QaJ h64),rp 5 (nT h65),rp 4 tT,kF,rp 21 tT,oO (Eq.refl ([2].map e_i64).length),aO e_i64 h69,hW 5,hH (.frz 3),rp 4 (oO (Eq.refl ((l12++[2]).map e_i64).length))]
theorem QjY (Γ:Gam) (rv:List Int) {types x0 l11} (h:QgR types x0 l11=some rv):QbI Γ rv ⟨[.c 1023],⟨156,[vI 2 types,vO 11 0 1 l11 e_i64,vP 12 1 16],[oS 1 40 l11 e_i64,oX 16 124 (Qah.enc x0)]⟩⟩:=by
 unfold QgR at h
 obtain ⟨r17,h61,h⟩:=Qad h
 rcases Qai h with ⟨h62,h⟩|⟨h62,h⟩
 ·exact gn 5 [2,11,12] [0,1] [cC (QaJ h61),nF h62] (QjZ Γ rv h)
 ·obtain ⟨h63,h⟩:=Qaw h
  exact gn 5 [2,11,12] [3,1] [cC (QaJ h61),nT h62,oO (Eq.refl ([18].map e_i64).length),aO e_i64 h63] (QjZ Γ rv h)
theorem Qk6 (Γ:Gam) (rv:List Int) {types x0 l9} (h:Qhz types x0 l9=some rv):QbI Γ rv ⟨[.c 511],⟨156,[vI 2 types,vO 11 0 1 l9 e_i64,vP 12 1 16],[oS 1 40 l9 e_i64,oX 16 124 (Qah.enc x0)]⟩⟩:=by
 unfold Qhz at h
 obtain ⟨r12,h46,h⟩:=Qad h
 rcases Qai h with ⟨h47,h⟩|⟨h47,h⟩
 ·obtain ⟨h48,h⟩:=Qaw h
  obtain ⟨r13,h49,h⟩:=Qad h
  rcases Qai h with ⟨h50,h⟩|⟨h50,h⟩
  ·exact gn 10 [2,11,12] [3,1] [cC (QbJ h46),rp 5 (bT h47),tT,oO (Eq.refl ([14].map e_i64).length),aO e_i64 h48,cC (QaJ h49),nF h50] (Qk7 Γ rv h)
  ·obtain ⟨h51,h⟩:=Qaw h
   exact gn 10 [2,11,12] [5,1] [cC (QbJ h46),rp 5 (bT h47),tT,oO (Eq.refl ([14].map e_i64).length),aO e_i64 h48,cC (QaJ h49),nT h50,oO (Eq.refl ([18].map e_i64).length),aO e_i64 h51] (Qk7 Γ rv h)
 ·obtain ⟨r16,h58,h⟩:=Qad h
  rcases Qai h with ⟨h59,h⟩|⟨h59,h⟩
  ·obtain ⟨h60,h⟩:=Qaw h
   exact gn 5 [2,11,12] [3,1] [cC (QbJ h46),rp 3 (bF h47),cC (QbJ h58),rp 2 (bF h47),bT h59,oO (Eq.refl ([14].map e_i64).length),aO e_i64 h60] (QjY Γ rv h)
  ·exact gn 5 [2,11,12] [0,1] [cC (QbJ h46),rp 3 (bF h47),cC (QbJ h58),rp 2 (bF h47),bF h59] (QjY Γ rv h)
theorem Qk0 (Γ:Gam) (rv:List Int) {places types x0 l3} (h:Qcd places types x0 l3=some rv):QbI Γ rv ⟨[.c 127],⟨156,[vI 0 places,vI 2 types,vO 11 0 1 l3 e_i64,vP 12 1 16],[oS 1 40 l3 e_i64,oX 16 124 (Qah.enc x0)]⟩⟩:=by
 unfold Qcd at h
 obtain ⟨r2,h12,h⟩:=Qad h
 rcases Qai h with ⟨h13,h⟩|⟨h13,h⟩
 ·obtain ⟨r3,h14,h⟩:=Qad h
  rcases Qai h with ⟨h15,h⟩|⟨h15,h⟩
  ·exact gn 5 [2,11,12] [0,1] [cC (QaJ h12),rp 6 (nF h13),cC (QaJ h14),rp 2 (nF h13),nF h15] (Qk1 Γ rv h)
  ·obtain ⟨h16,h⟩:=Qaw h
   exact gn 5 [2,11,12] [3,1] [cC (QaJ h12),rp 6 (nF h13),cC (QaJ h14),rp 2 (nF h13),nT h15,oO (Eq.refl ([11].map e_i64).length),aO e_i64 h16] (Qk1 Γ rv h)
 ·obtain ⟨h43,h⟩:=Qaw h
  rcases Qai h with ⟨h44,h⟩|⟨h44,h⟩
  ·obtain ⟨h45,h⟩:=Qaw h
   exact gn 10 [2,11,12] [5,1] [cC (QaJ h12),rp 8 (nT h13),tT,oO (Eq.refl ([11].map e_i64).length),aO e_i64 h43,rp 5 hP,rp 3 (oI ((eqI x0.pick.place (-1))=true)),oR True ((eqI x0.pick.place (-1))=true),bT h44,oO (Eq.refl ([19].map e_i64).length),aO e_i64 h45] (Qk6 Γ rv h)
  ·exact gn 10 [2,11,12] [3,1] [cC (QaJ h12),rp 8 (nT h13),tT,oO (Eq.refl ([11].map e_i64).length),aO e_i64 h43,rp 5 hP,rp 3 (oI ((eqI x0.pick.place (-1))=true)),oR True ((eqI x0.pick.place (-1))=true),bF h44] (Qk6 Γ rv h)
theorem QkZ (Γ:Gam) (rv:List Int) {places dims types l at_ x0 l1} (h:QeP places dims types l at_ x0 l1=some rv):QbI Γ rv ⟨[.c 31],⟨156,[vI 0 places,vI 1 dims,vI 2 types,vL 3 16 l Qah.enc,vI 4 at_,vO 11 0 1 l1 e_i64,vP 12 1 16],[oS 1 40 l1 e_i64,oX 16 124 (Qah.enc x0)]⟩⟩:=by
 unfold QeP at h
 obtain ⟨e0,h8,h⟩:=Qad h
 refine gn 5 [0,1,2,3,4,11,12,13] [0,1] [] (QqU Γ rv h8 ?_)
 obtain ⟨l2,rfl⟩:∃ x,x=e0:=⟨_,rfl⟩
 replace h:(bnd (Qfw x0.load dims) fun r1=>br r1 (Qcd places types x0 l2) (chk (okN (l2++[17]).length 8) (Qcd places types x0 (l2++[17]))):Option (List Int))=some _:=h
 obtain ⟨r1,h9,h⟩:=Qad h
 rcases Qai h with ⟨h10,h⟩|⟨h10,h⟩
 ·exact gn 5 [0,2,11,12] [0,1] [cC (QnR h9),nF h10] (Qk0 Γ rv h)
 ·obtain ⟨h11,h⟩:=Qaw h
  exact gn 5 [0,2,11,12] [3,1] [cC (QnR h9),nT h10,oO (Eq.refl ([17].map e_i64).length),aO e_i64 h11] (Qk0 Γ rv h)
theorem Qs1 {places dims types l at_} {rv:List Int} (h:QhN places dims types l at_=some rv):AFn Tryz.prog 114 [.one (lI places),.one (lI dims),.one (lI types),.one (lL 16 l Qah.enc),.one (lI at_)] [] (one (lL 1 rv e_i64)) []:=by
 refine QaN Tryz.func114 (by kernel_rfl) (by kernel_rfl) (fun Γ=>?_)
 unfold QhN at h
 obtain ⟨x0,h0,h⟩:=Qad h
 obtain ⟨r,h1,h⟩:=Qad h
 rcases Qai h with ⟨h2,h⟩|⟨h2,h⟩
 ·exact gn 11 [0,1,2,3,4,11,12] [1,0] [cE Qah.enc h0,cC (Qfj h1),nF h2,hW 1,hH (.adopt 11 1 40)] (QkZ Γ rv h)
 ·obtain ⟨h3,h⟩:=Qaw h
  exact gn 11 [0,1,2,3,4,11,12] [2,0] [cE Qah.enc h0,cC (Qfj h1),nT h2,oO (Eq.refl ([5].map e_i64).length),aN (l:=([5]:List Int)) e_i64 h3] (QkZ Γ rv h)
def Qgr (Γ:Gam) (rv:List Qab) (cf:Cf):Prop:=Go Tryz.prog Tryz.f74 [] Γ (one (lL 2 rv Qab.enc)) [] cf
def Qma (Γ:Gam) (rv:List Qab) (n:Qam) (dims:Int) (types:Int) (l:List Qah) (i:Int) (r:List Int) (l3:List Qab) (k:Int):Prop:=Qgr Γ rv ⟨[.c 31308,.l 31308,.b 2,.b 1,.c 979,.l 244,.b 0,.c 31],⟨51,[vI 1 dims,vI 2 types,vL 3 16 l Qah.enc,vP 4 0 2,vO 9 1 2 l3 Qab.enc,vI 10 i,vL 11 1 r e_i64,vI 12 k],[oX 2 25 (Qam.enc n),oS 2 151 l3 Qab.enc]⟩⟩
def QkY (Γ:Gam) (rv:List Qab) (n:Qam) (dims:Int) (types:Int) (l:List Qah) (i:Int) (r:List Int) (l4:List Qab):Prop:=Qgr Γ rv ⟨[.b 1,.c 979,.l 244,.b 0,.c 31],⟨51,[vI 1 dims,vI 2 types,vL 3 16 l Qah.enc,vP 4 0 2,vO 9 1 2 l4 Qab.enc,vI 10 i],[oX 2 25 (Qam.enc n),oS 2 151 l4 Qab.enc]⟩⟩
def Ql9 (Γ:Gam) (rv:List Qab) (n:Qam) (dims:Int) (types:Int) (l:List Qah) (l2:List Qab) (i:Int):Prop:=Qgr Γ rv ⟨[.c 244,.l 244,.b 0,.c 31],⟨51,[vI 1 dims,vI 2 types,vL 3 16 l Qah.enc,vP 4 0 2,vO 9 1 2 l2 Qab.enc,vI 10 i],[oX 2 25 (Qam.enc n),oS 2 151 l2 Qab.enc]⟩⟩
def QkX (Γ:Gam) (rv:List Qab) (n:Qam) (dims:Int) (types:Int) (l:List Qah) (l5:List Qab):Prop:=Qgr Γ rv ⟨[.c 31],⟨51,[vO 9 0 2 l5 Qab.enc],[oS 2 151 l5 Qab.enc]⟩⟩
theorem QqT (Γ:Gam) (rv:List Qab) {n dims types l i r} {s:List Qab×Int} {e:List Qab} (h:loopF (fun s=>Qhx n dims types l i r s.1 s.2) s=some e) (hD:QkY Γ rv n dims types l i r e):Qma Γ rv n dims types l i r s.1 s.2:=by
 refine QaD (C:=fun (s:List Qab×Int)=>Qma Γ rv n dims types l i r s.1 s.2) (D:=fun (e:List Qab)=>QkY Γ rv n dims types l i r e) ?_ h hD
 clear h hD s e
 rintro ⟨l3,k⟩ z_ h hI hE
 replace h:Qhx n dims types l i r l3 k=_:=h
 unfold Qhx at h
 rcases Qai h with ⟨h4,h⟩|⟨h4,h⟩
 ·obtain ⟨x0,h5,h⟩:=Qad h
  obtain ⟨r1,h6,h⟩:=Qad h
  obtain ⟨h7,h⟩:=Qaw h
  exact gn 11 [1,2,3,4,9,10,11,12] [0,3] [nL e_i64 r,bT h4,hH (.draw 9 []),cE e_i64 h5,cC (Qb8 h6),oO (Eq.refl ([(Qab.mk x0 r1)].map Qab.enc).length),aO Qab.enc h7] (hI _ (oJ h))
 ·exact gn 5 [1,2,3,4,9,10] [0,1] [nL e_i64 r,bF h4] (hE _ (oJ h))
theorem QqS (Γ:Gam) (rv:List Qab) {n dims types l} {s:List Qab×Int} {e:List Qab} (h:loopF (fun s=>Qdi n dims types l s.1 s.2) s=some e) (hD:QkX Γ rv n dims types l e):Ql9 Γ rv n dims types l s.1 s.2:=by
 refine QaD (C:=fun (s:List Qab×Int)=>Ql9 Γ rv n dims types l s.1 s.2) (D:=fun (e:List Qab)=>QkX Γ rv n dims types l e) ?_ h hD
 clear h hD s e
 rintro ⟨l2,i⟩ z_ h hI hE
 replace h:Qdi n dims types l l2 i=_:=h
 unfold Qdi at h
 rcases Qai h with ⟨h2,h⟩|⟨h2,h⟩
 ·obtain ⟨r,h3,h⟩:=Qad h
  obtain ⟨e0,h8,h⟩:=Qad h
  refine gn 13 [1,2,3,4,9,10,11,12] [0,1] [nL Qah.enc l,bT h2,nL e_str n.places,cC (Qs1 h3)] (QqT Γ rv h8 ?_)
  obtain ⟨l4,rfl⟩:∃ x,x=e0:=⟨_,rfl⟩
  replace h:(some (.inl (l4,(addK .i64 i 1))):Option ((List Qab×Int)⊕(List Qab)))=some _:=h
  exact gn 3 [1,2,3,4,9,10] [0,1] [] (hI _ (oJ h))
 ·exact gn 5 [9] [1] [nL Qah.enc l,bF h2] (hE _ (oJ h))
theorem QkW (Γ:Gam) (rv:List Qab) {n dims types l l1} (h:QfR n dims types l l1=some rv):Qgr Γ rv ⟨[.c 15],⟨51,[vI 1 dims,vI 2 types,vL 3 16 l Qah.enc,vP 4 0 2,vO 9 1 2 l1 Qab.enc],[oX 2 25 (Qam.enc n),oS 2 151 l1 Qab.enc]⟩⟩:=by
 unfold QfR at h
 obtain ⟨e1,h9,h⟩:=Qad h
 refine gn 5 [1,2,3,4,9,10] [0,1] [] (QqS Γ rv h9 ?_)
 obtain ⟨l5,rfl⟩:∃ x,x=e1:=⟨_,rfl⟩
 replace h:(some l5:Option (List Qab))=some _:=h
 obtain rfl:=Option.some.inj h
 exact gr 2 [] [hW 4,hH (.frz 0),rp 3 (eL l5 Qab.enc)]
theorem Qs0 {n dims types l} {rv:List Qab} (h:QhM n dims types l=some rv):AFn Tryz.prog 74 [.agg (Qam.enc n),.one (lI dims),.one (lI types),.one (lL 16 l Qah.enc)] [] (one (lL 2 rv Qab.enc)) []:=by
 refine QaN Tryz.func74 (by kernel_rfl) (by kernel_rfl) (fun Γ=>?_)
 unfold QhM at h
 rcases Qai h with ⟨h0,h⟩|⟨h0,h⟩
 ·obtain ⟨h1,h⟩:=Qaw h
  exact gn 9 [1,2,3,4,9] [0,2] [nL Qah.enc l,bT h0,oO (Eq.refl ([(Qab.mk 4 ByteArray.empty)].map Qab.enc).length),aN (l:=([(Qab.mk 4 ByteArray.empty)]:List Qab)) Qab.enc h1] (QkW Γ rv h)
 ·exact gn 9 [1,2,3,4,9] [0,1] [nL Qah.enc l,bF h0,hW 1,hH (.adopt 9 2 151)] (QkW Γ rv h)
def Qm8 (Γ:Gam) (rv:ByteArray) (cf:Cf):Prop:=Go Tryz.prog Tryz.f165 [] Γ (one (.str rv)) [] cf
def Qj0 (Γ:Gam) (rv:ByteArray) (n1:Int) (s0:ByteArray):Prop:=Qm8 Γ rv ⟨[.c 56,.l 56,.b 0,.c 15],⟨23,[vI 0 n1,vS 3 s0],[]⟩⟩
def Qjv (Γ:Gam) (rv:ByteArray) (n2:Int) (s1:ByteArray):Prop:=Qm8 Γ rv ⟨[.c 15],⟨23,[vI 0 n2,vS 3 s1],[]⟩⟩
theorem QpH (Γ:Gam) (rv:ByteArray) {s:Int×ByteArray} {e:Int×ByteArray} (h:loopF (fun s=>QdS s.1 s.2) s=some e) (hD:Qjv Γ rv e.1 e.2):Qj0 Γ rv s.1 s.2:=by
 refine QaD (C:=fun (s:Int×ByteArray)=>Qj0 Γ rv s.1 s.2) (D:=fun (e:Int×ByteArray)=>Qjv Γ rv e.1 e.2) ?_ h hD
 clear h hD s e
 rintro ⟨n1,s0⟩ z_ h hI hE
 replace h:QdS n1 s0=_:=h
 unfold QdS at h
 rcases Qai h with ⟨h0,h⟩|⟨h0,h⟩
 ·obtain ⟨h1,h⟩:=Qaw h
  exact gn 11 [0,3] [] [bT h0,hH (.ints [(cvK .u8 (addK .i64 48 (remK n1 10)))]),oO (oA (n:=10)),oO (Eq.refl ([(cvK .u8 (addK .i64 48 (remK n1 10)))].map e_u8).length),oO (Eq.refl (([(cvK .u8 (addK .i64 48 (remK n1 10)))].map e_u8):List (List Lf))),oO (h1),oO (oA (n:=10))] (hI _ (oJ h))
 ·exact gn 5 [0,3] [] [bF h0] (hE _ (oJ h))
theorem Qgf {n} {rv:ByteArray} (h:Qfl n=some rv):AFn Tryz.prog 165 [.one (lI n)] [] (one (.str rv)) []:=by
 refine QaN Tryz.func165 (by kernel_rfl) (by kernel_rfl) (fun Γ=>?_)
 unfold Qfl at h
 obtain ⟨e0,h2,h⟩:=Qad h
 refine gn 7 [0,3] [] [] (QpH Γ rv h2 ?_)
 obtain ⟨n2,s1⟩:=e0
 replace h:(chk ((Qsh [(cvK .u8 (addK .i64 48 n2))]).size+s1.size≤9223372036854775807) (some (catS (Qsh [(cvK .u8 (addK .i64 48 n2))]) s1)):Option ByteArray)=some _:=h
 obtain ⟨h3,h⟩:=Qaw h
 obtain rfl:=Option.some.inj h
 exact gr 2 [] [hH (.ints [(cvK .u8 (addK .i64 48 n2))]),oO (Eq.refl ([(cvK .u8 (addK .i64 48 n2))].map e_u8).length),oO (Eq.refl (([(cvK .u8 (addK .i64 48 n2))].map e_u8):List (List Lf))),oO (h3)]
def QfS (Γ:Gam) (rv:List Qab) (cf:Cf):Prop:=Go Tryz.prog Tryz.f115 [] Γ (one (lL 2 rv Qab.enc)) [] cf
def Qla (Γ:Gam) (rv:List Qab) (orders:Int) (l:List QaC) (word:ByteArray) (turned:Bool) (l2:List Qab) (i:Int) (x0:QaC) (r:ByteArray) (twice:Bool) (k:Int):Prop:=QfS Γ rv ⟨[.c 1001972,.l 1001972,.b 2,.c 125247,.b 1,.c 979,.l 244,.b 0,.c 31],⟨123,[vI 0 orders,vL 1 2 l QaC.enc,vS 2 word,vB 3 turned,vO 9 0 2 l2 Qab.enc,vI 10 i,vI 11 x0.x0,vI 12 x0.x1,vS 13 (catS (catS word Qde) r),vB 14 twice,vI 15 k],[oS 2 151 l2 Qab.enc]⟩⟩
def Qj3 (Γ:Gam) (rv:List Qab) (orders:Int) (l:List QaC) (word:ByteArray) (turned:Bool) (l2:List Qab) (i:Int) (x0:QaC) (r:ByteArray) (twice1:Bool):Prop:=QfS Γ rv ⟨[.c 125247,.b 1,.c 979,.l 244,.b 0,.c 31],⟨123,[vI 0 orders,vL 1 2 l QaC.enc,vS 2 word,vB 3 turned,vO 9 0 2 l2 Qab.enc,vI 10 i,vS 13 (catS (catS word Qde) r),vB 14 twice1],[oS 2 151 l2 Qab.enc]⟩⟩
def Qk9 (Γ:Gam) (rv:List Qab) (orders:Int) (l:List QaC) (word:ByteArray) (turned:Bool) (l2:List Qab) (i:Int):Prop:=QfS Γ rv ⟨[.c 244,.l 244,.b 0,.c 31],⟨123,[vI 0 orders,vL 1 2 l QaC.enc,vS 2 word,vB 3 turned,vO 9 0 2 l2 Qab.enc,vI 10 i],[oS 2 151 l2 Qab.enc]⟩⟩
def Qj2 (Γ:Gam) (rv:List Qab) (orders:Int) (l:List QaC) (word:ByteArray) (turned:Bool) (l3:List Qab):Prop:=QfS Γ rv ⟨[.c 31],⟨123,[vO 9 0 2 l3 Qab.enc],[oS 2 151 l3 Qab.enc]⟩⟩
theorem Qqj (Γ:Gam) (rv:List Qab) {orders l word turned l2 i x0 r} {s:Bool×Int} {e:Bool} (h:loopF (fun s=>Qec orders l word turned l2 i x0 r s.1 s.2) s=some e) (hD:Qj3 Γ rv orders l word turned l2 i x0 r e):Qla Γ rv orders l word turned l2 i x0 r s.1 s.2:=by
 refine QaD (C:=fun (s:Bool×Int)=>Qla Γ rv orders l word turned l2 i x0 r s.1 s.2) (D:=fun (e:Bool)=>Qj3 Γ rv orders l word turned l2 i x0 r e) ?_ h hD
 clear h hD s e
 rintro ⟨twice,k⟩ z_ h hI hE
 replace h:Qec orders l word turned l2 i x0 r twice k=_:=h
 unfold Qec at h
 rcases Qai h with ⟨h9,h⟩|⟨h9,h⟩
 ·rcases Qai h with ⟨h10,h⟩|⟨h10,h⟩
  ·exact gn 11 [0,1,2,3,9,10,11,12,13,14,15] [0] [bT h9,rp 8 (bT h10),rp 7 kF,rp 2 (bT h10),tT,tT,rp 7 kF,tT,tT,rp 7 kF,tT,tT] (hI _ (oJ h))
  ·obtain ⟨x1,h11,h⟩:=Qad h
   rcases Qai h with ⟨h12,h⟩|⟨h12,h⟩
   ·rcases Qai h with ⟨h13,h⟩|⟨h13,h⟩
    ·exact gn 11 [0,1,2,3,9,10,11,12,13,14,15] [0] [bT h9,rp 3 (bF h10),cE QaC.enc h11,bF h10,oO (zL 0),oO (lT 0 2),rp 4 (bF h10),rp 3 (bT h12),cE QaC.enc h11,bT h12,oO (zL 1),oO (lT 1 2),rp 3 (bT h12),bF h10,bT h12,bF h10,rp 2 (bT h13),rp 7 kF,rp 2 (bT h13),rp 7 kF,rp 2 (bT h13)] (hI _ (oJ h))
    ·rcases Qai h with ⟨h14,h⟩|⟨h14,h⟩
     ·rcases Qai h with ⟨h15,h⟩|⟨h15,h⟩
      ·exact gn 11 [0,1,2,3,9,10,11,12,13,14,15] [0] [bT h9,rp 3 (bF h10),cE QaC.enc h11,bF h10,oO (zL 0),oO (lT 0 2),rp 4 (bF h10),rp 3 (bT h12),cE QaC.enc h11,bT h12,oO (zL 1),oO (lT 1 2),rp 3 (bT h12),bF h10,bT h12,bF h10,rp 2 (bF h13),rp 3 (bT h14),cE QaC.enc h11,bT h14,oO (zL 0),oO (lT 0 2),rp 3 (bT h14),bF h13,bT h14,bF h13,rp 3 (bT h15),cE QaC.enc h11,bT h15,oO (zL 1),oO (lT 1 2),rp 3 (bT h15),bF h13,bT h15,bF h13] (hI _ (oJ h))
      ·exact gn 11 [0,1,2,3,9,10,11,12,13,14,15] [0] [bT h9,rp 3 (bF h10),cE QaC.enc h11,bF h10,oO (zL 0),oO (lT 0 2),rp 4 (bF h10),rp 3 (bT h12),cE QaC.enc h11,bT h12,oO (zL 1),oO (lT 1 2),rp 3 (bT h12),bF h10,bT h12,bF h10,rp 2 (bF h13),rp 3 (bT h14),cE QaC.enc h11,bT h14,oO (zL 0),oO (lT 0 2),rp 3 (bT h14),bF h13,bT h14,bF h13,rp 7 (bF h15),bF h13,bF h15,bF h13] (hI _ (oJ h))
     ·exact gn 11 [0,1,2,3,9,10,11,12,13,14,15] [0] [bT h9,rp 3 (bF h10),cE QaC.enc h11,bF h10,oO (zL 0),oO (lT 0 2),rp 4 (bF h10),rp 3 (bT h12),cE QaC.enc h11,bT h12,oO (zL 1),oO (lT 1 2),rp 3 (bT h12),bF h10,bT h12,bF h10,rp 2 (bF h13),rp 7 (bF h14),bF h13,bF h14,bF h13,rp 7 fF,bF h13,fF,bF h13] (hI _ (oJ h))
   ·rcases Qai h with ⟨h16,h⟩|⟨h16,h⟩
    ·rcases Qai h with ⟨h17,h⟩|⟨h17,h⟩
     ·exact gn 11 [0,1,2,3,9,10,11,12,13,14,15] [0] [bT h9,rp 3 (bF h10),cE QaC.enc h11,bF h10,oO (zL 0),oO (lT 0 2),rp 4 (bF h10),rp 7 (bF h12),bF h10,bF h12,bF h10,fF,fF,rp 3 (bT h16),cE QaC.enc h11,bT h16,oO (zL 0),oO (lT 0 2),rp 3 (bT h16),fF,bT h16,fF,rp 3 (bT h17),cE QaC.enc h11,bT h17,oO (zL 1),oO (lT 1 2),rp 3 (bT h17),fF,bT h17,fF] (hI _ (oJ h))
     ·exact gn 11 [0,1,2,3,9,10,11,12,13,14,15] [0] [bT h9,rp 3 (bF h10),cE QaC.enc h11,bF h10,oO (zL 0),oO (lT 0 2),rp 4 (bF h10),rp 7 (bF h12),bF h10,bF h12,bF h10,fF,fF,rp 3 (bT h16),cE QaC.enc h11,bT h16,oO (zL 0),oO (lT 0 2),rp 3 (bT h16),fF,bT h16,fF,rp 7 (bF h17),fF,bF h17,fF] (hI _ (oJ h))
    ·exact gn 11 [0,1,2,3,9,10,11,12,13,14,15] [0] [bT h9,rp 3 (bF h10),cE QaC.enc h11,bF h10,oO (zL 0),oO (lT 0 2),rp 4 (bF h10),rp 7 (bF h12),bF h10,bF h12,bF h10,fF,fF,rp 7 (bF h16),fF,bF h16,rp 11 fF] (hI _ (oJ h))
 ·exact gn 5 [0,1,2,3,9,10,13,14] [0] [bF h9] (hE _ (oJ h))
theorem Qqi (Γ:Gam) (rv:List Qab) {orders l word turned} {s:List Qab×Int} {e:List Qab} (h:loopF (fun s=>QcO orders l word turned s.1 s.2) s=some e) (hD:Qj2 Γ rv orders l word turned e):Qk9 Γ rv orders l word turned s.1 s.2:=by
 refine QaD (C:=fun (s:List Qab×Int)=>Qk9 Γ rv orders l word turned s.1 s.2) (D:=fun (e:List Qab)=>Qj2 Γ rv orders l word turned e) ?_ h hD
 clear h hD s e
 rintro ⟨l2,i⟩ z_ h hI hE
 replace h:QcO orders l word turned l2 i=_:=h
 unfold QcO at h
 rcases Qai h with ⟨h2,h⟩|⟨h2,h⟩
 ·obtain ⟨x0,h3,h⟩:=Qad h
  obtain ⟨h4,h⟩:=Qaw h
  obtain ⟨r,h5,h⟩:=Qad h
  obtain ⟨h6,h⟩:=Qaw h
  rcases Qai h with ⟨h7,h⟩|⟨h7,h⟩
  ·obtain ⟨h8,h⟩:=Qaw h
   exact gn 22 [0,1,2,3,9,10] [2] [nL QaC.enc l,bT h2,cE QaC.enc h3,oO (zL 0),oO (lT 0 2),cE QaC.enc h3,oO (zL 1),oO (lT 1 2),oO (h4),cC (Qgf h5),rp 15 hP,oO (h6),rp 2 (oI ((ltI x0.x0 0)=false)),oR True ((ltI x0.x0 0)=false),oI (((ltI x0.x0 0)||(geI x0.x0 orders))=false),oR True (((ltI x0.x0 0)||(geI x0.x0 orders))=false),rp 2 (oI ((((ltI x0.x0 0)||(geI x0.x0 orders))||(ltI x0.x1 0))=false)),oR True ((((ltI x0.x0 0)||(geI x0.x0 orders))||(ltI x0.x1 0))=false),rp 2 (oI (((((ltI x0.x0 0)||(geI x0.x0 orders))||(ltI x0.x1 0))||(geI x0.x1 orders))=false)),oR True (((((ltI x0.x0 0)||(geI x0.x0 orders))||(ltI x0.x1 0))||(geI x0.x1 orders))=false),bT h7,oO (Eq.refl ([(Qab.mk 2 (catS (catS word Qde) r))].map Qab.enc).length),aO Qab.enc h8] (hI _ (oJ h))
  ·obtain ⟨e0,h18,h⟩:=Qad h
   refine gn 25 [0,1,2,3,9,10,11,12,13,14,15] [0] [nL QaC.enc l,bT h2,cE QaC.enc h3,oO (zL 0),oO (lT 0 2),cE QaC.enc h3,oO (zL 1),oO (lT 1 2),oO (h4),cC (Qgf h5),rp 15 hP,oO (h6),rp 2 (oI ((ltI x0.x0 0)=false)),oR True ((ltI x0.x0 0)=false),oI (((ltI x0.x0 0)||(geI x0.x0 orders))=false),oR True (((ltI x0.x0 0)||(geI x0.x0 orders))=false),rp 2 (oI ((((ltI x0.x0 0)||(geI x0.x0 orders))||(ltI x0.x1 0))=false)),oR True ((((ltI x0.x0 0)||(geI x0.x0 orders))||(ltI x0.x1 0))=false),rp 2 (oI (((((ltI x0.x0 0)||(geI x0.x0 orders))||(ltI x0.x1 0))||(geI x0.x1 orders))=false)),oR True (((((ltI x0.x0 0)||(geI x0.x0 orders))||(ltI x0.x1 0))||(geI x0.x1 orders))=false),bF h7] (Qqj Γ rv h18 ?_)
   obtain ⟨twice1,rfl⟩:∃ x,x=e0:=⟨_,rfl⟩
   replace h:(br twice1 (chk (okN (l2++[(Qab.mk 6 (catS (catS word Qde) r))]).length 24) (some (.inl ((l2++[(Qab.mk 6 (catS (catS word Qde) r))]),(addK .i64 i 1))))) (some (.inl (l2,(addK .i64 i 1)))):Option ((List Qab×Int)⊕(List Qab)))=some _:=h
   rcases Qai h with ⟨h19,h⟩|⟨h19,h⟩
   ·obtain ⟨h20,h⟩:=Qaw h
    exact gn 7 [0,1,2,3,9,10] [2] [bT h19,oO (Eq.refl ([(Qab.mk 6 (catS (catS word Qde) r))].map Qab.enc).length),aO Qab.enc h20] (hI _ (oJ h))
   ·exact gn 7 [0,1,2,3,9,10] [0] [bF h19] (hI _ (oJ h))
 ·exact gn 5 [9] [0] [nL QaC.enc l,bF h2] (hE _ (oJ h))
theorem Qj1 (Γ:Gam) (rv:List Qab) {orders l word turned l1} (h:Qfy orders l word turned l1=some rv):QfS Γ rv ⟨[.c 15],⟨123,[vI 0 orders,vL 1 2 l QaC.enc,vS 2 word,vB 3 turned,vO 9 0 2 l1 Qab.enc],[oS 2 151 l1 Qab.enc]⟩⟩:=by
 unfold Qfy at h
 obtain ⟨e1,h21,h⟩:=Qad h
 refine gn 5 [0,1,2,3,9,10] [0] [] (Qqi Γ rv h21 ?_)
 obtain ⟨l3,rfl⟩:∃ x,x=e1:=⟨_,rfl⟩
 replace h:(some l3:Option (List Qab))=some _:=h
 obtain rfl:=Option.some.inj h
 exact gr 2 [] [hW 4,hH (.frz 0),rp 3 (eL l3 Qab.enc)]
theorem Qsq {orders l word turned} {rv:List Qab} (h:Qg5 orders l word turned=some rv):AFn Tryz.prog 115 [.one (lI orders),.one (lL 2 l QaC.enc),.one (.str word),.one (.bool turned)] [] (one (lL 2 rv Qab.enc)) []:=by
 refine QaN Tryz.func115 (by kernel_rfl) (by kernel_rfl) (fun Γ=>?_)
 unfold Qg5 at h
 rcases Qai h with ⟨h0,h⟩|⟨h0,h⟩
 ·obtain ⟨h1,h⟩:=Qaw h
  exact gn 9 [0,1,2,3,9] [1] [nL QaC.enc l,bT h0,oO (Eq.refl ([(Qab.mk 4 word)].map Qab.enc).length),aN (l:=([(Qab.mk 4 word)]:List Qab)) Qab.enc h1] (Qj1 Γ rv h)
 ·exact gn 9 [0,1,2,3,9] [0] [nL QaC.enc l,bF h0,hW 1,hH (.adopt 9 2 151)] (Qj1 Γ rv h)
def Qd5 (Γ:Gam) (rv:List Qab) (cf:Cf):Prop:=Go Tryz.prog Tryz.f115 [] Γ (one (lO 0 2 rv Qab.enc)) [oS 2 151 rv Qab.enc] cf
def Qiw (Γ:Gam) (rv:List Qab) (orders:Int) (l:List QaC) (word:ByteArray) (turned:Bool) (l2:List Qab) (i:Int) (x0:QaC) (r:ByteArray) (twice:Bool) (k:Int):Prop:=Qd5 Γ rv ⟨[.c 1001972,.l 1001972,.b 2,.c 125247,.b 1,.c 979,.l 244,.b 0,.c 31],⟨123,[vI 0 orders,vL 1 2 l QaC.enc,vS 2 word,vB 3 turned,vO 9 0 2 l2 Qab.enc,vI 10 i,vI 11 x0.x0,vI 12 x0.x1,vS 13 (catS (catS word Qde) r),vB 14 twice,vI 15 k],[oS 2 151 l2 Qab.enc]⟩⟩
def Qij (Γ:Gam) (rv:List Qab) (orders:Int) (l:List QaC) (word:ByteArray) (turned:Bool) (l2:List Qab) (i:Int) (x0:QaC) (r:ByteArray) (twice1:Bool):Prop:=Qd5 Γ rv ⟨[.c 125247,.b 1,.c 979,.l 244,.b 0,.c 31],⟨123,[vI 0 orders,vL 1 2 l QaC.enc,vS 2 word,vB 3 turned,vO 9 0 2 l2 Qab.enc,vI 10 i,vS 13 (catS (catS word Qde) r),vB 14 twice1],[oS 2 151 l2 Qab.enc]⟩⟩
def Qiv (Γ:Gam) (rv:List Qab) (orders:Int) (l:List QaC) (word:ByteArray) (turned:Bool) (l2:List Qab) (i:Int):Prop:=Qd5 Γ rv ⟨[.c 244,.l 244,.b 0,.c 31],⟨123,[vI 0 orders,vL 1 2 l QaC.enc,vS 2 word,vB 3 turned,vO 9 0 2 l2 Qab.enc,vI 10 i],[oS 2 151 l2 Qab.enc]⟩⟩
def Qii (Γ:Gam) (rv:List Qab) (orders:Int) (l:List QaC) (word:ByteArray) (turned:Bool) (l3:List Qab):Prop:=Qd5 Γ rv ⟨[.c 31],⟨123,[vO 9 0 2 l3 Qab.enc],[oS 2 151 l3 Qab.enc]⟩⟩
theorem QnI (Γ:Gam) (rv:List Qab) {orders l word turned l2 i x0 r} {s:Bool×Int} {e:Bool} (h:loopF (fun s=>Qe6 orders l word turned l2 i x0 r s.1 s.2) s=some e) (hD:Qij Γ rv orders l word turned l2 i x0 r e):Qiw Γ rv orders l word turned l2 i x0 r s.1 s.2:=by
 refine QaD (C:=fun (s:Bool×Int)=>Qiw Γ rv orders l word turned l2 i x0 r s.1 s.2) (D:=fun (e:Bool)=>Qij Γ rv orders l word turned l2 i x0 r e) ?_ h hD
 clear h hD s e
 rintro ⟨twice,k⟩ z_ h hI hE
 replace h:Qe6 orders l word turned l2 i x0 r twice k=_:=h
 unfold Qe6 at h
 rcases Qai h with ⟨h9,h⟩|⟨h9,h⟩
 ·rcases Qai h with ⟨h10,h⟩|⟨h10,h⟩
  ·exact gn 11 [0,1,2,3,9,10,11,12,13,14,15] [0] [bT h9,rp 8 (bT h10),rp 7 kF,rp 2 (bT h10),tT,tT,rp 7 kF,tT,tT,rp 7 kF,tT,tT] (hI _ (oJ h))
  ·obtain ⟨x1,h11,h⟩:=Qad h
   rcases Qai h with ⟨h12,h⟩|⟨h12,h⟩
   ·rcases Qai h with ⟨h13,h⟩|⟨h13,h⟩
    ·exact gn 11 [0,1,2,3,9,10,11,12,13,14,15] [0] [bT h9,rp 3 (bF h10),cE QaC.enc h11,bF h10,oO (zL 0),oO (lT 0 2),rp 4 (bF h10),rp 3 (bT h12),cE QaC.enc h11,bT h12,oO (zL 1),oO (lT 1 2),rp 3 (bT h12),bF h10,bT h12,bF h10,rp 2 (bT h13),rp 7 kF,rp 2 (bT h13),rp 7 kF,rp 2 (bT h13)] (hI _ (oJ h))
    ·rcases Qai h with ⟨h14,h⟩|⟨h14,h⟩
     ·rcases Qai h with ⟨h15,h⟩|⟨h15,h⟩
      ·exact gn 11 [0,1,2,3,9,10,11,12,13,14,15] [0] [bT h9,rp 3 (bF h10),cE QaC.enc h11,bF h10,oO (zL 0),oO (lT 0 2),rp 4 (bF h10),rp 3 (bT h12),cE QaC.enc h11,bT h12,oO (zL 1),oO (lT 1 2),rp 3 (bT h12),bF h10,bT h12,bF h10,rp 2 (bF h13),rp 3 (bT h14),cE QaC.enc h11,bT h14,oO (zL 0),oO (lT 0 2),rp 3 (bT h14),bF h13,bT h14,bF h13,rp 3 (bT h15),cE QaC.enc h11,bT h15,oO (zL 1),oO (lT 1 2),rp 3 (bT h15),bF h13,bT h15,bF h13] (hI _ (oJ h))
      ·exact gn 11 [0,1,2,3,9,10,11,12,13,14,15] [0] [bT h9,rp 3 (bF h10),cE QaC.enc h11,bF h10,oO (zL 0),oO (lT 0 2),rp 4 (bF h10),rp 3 (bT h12),cE QaC.enc h11,bT h12,oO (zL 1),oO (lT 1 2),rp 3 (bT h12),bF h10,bT h12,bF h10,rp 2 (bF h13),rp 3 (bT h14),cE QaC.enc h11,bT h14,oO (zL 0),oO (lT 0 2),rp 3 (bT h14),bF h13,bT h14,bF h13,rp 7 (bF h15),bF h13,bF h15,bF h13] (hI _ (oJ h))
     ·exact gn 11 [0,1,2,3,9,10,11,12,13,14,15] [0] [bT h9,rp 3 (bF h10),cE QaC.enc h11,bF h10,oO (zL 0),oO (lT 0 2),rp 4 (bF h10),rp 3 (bT h12),cE QaC.enc h11,bT h12,oO (zL 1),oO (lT 1 2),rp 3 (bT h12),bF h10,bT h12,bF h10,rp 2 (bF h13),rp 7 (bF h14),bF h13,bF h14,bF h13,rp 7 fF,bF h13,fF,bF h13] (hI _ (oJ h))
   ·rcases Qai h with ⟨h16,h⟩|⟨h16,h⟩
    ·rcases Qai h with ⟨h17,h⟩|⟨h17,h⟩
     ·exact gn 11 [0,1,2,3,9,10,11,12,13,14,15] [0] [bT h9,rp 3 (bF h10),cE QaC.enc h11,bF h10,oO (zL 0),oO (lT 0 2),rp 4 (bF h10),rp 7 (bF h12),bF h10,bF h12,bF h10,fF,fF,rp 3 (bT h16),cE QaC.enc h11,bT h16,oO (zL 0),oO (lT 0 2),rp 3 (bT h16),fF,bT h16,fF,rp 3 (bT h17),cE QaC.enc h11,bT h17,oO (zL 1),oO (lT 1 2),rp 3 (bT h17),fF,bT h17,fF] (hI _ (oJ h))
     ·exact gn 11 [0,1,2,3,9,10,11,12,13,14,15] [0] [bT h9,rp 3 (bF h10),cE QaC.enc h11,bF h10,oO (zL 0),oO (lT 0 2),rp 4 (bF h10),rp 7 (bF h12),bF h10,bF h12,bF h10,fF,fF,rp 3 (bT h16),cE QaC.enc h11,bT h16,oO (zL 0),oO (lT 0 2),rp 3 (bT h16),fF,bT h16,fF,rp 7 (bF h17),fF,bF h17,fF] (hI _ (oJ h))
    ·exact gn 11 [0,1,2,3,9,10,11,12,13,14,15] [0] [bT h9,rp 3 (bF h10),cE QaC.enc h11,bF h10,oO (zL 0),oO (lT 0 2),rp 4 (bF h10),rp 7 (bF h12),bF h10,bF h12,bF h10,fF,fF,rp 7 (bF h16),fF,bF h16,rp 11 fF] (hI _ (oJ h))
 ·exact gn 5 [0,1,2,3,9,10,13,14] [0] [bF h9] (hE _ (oJ h))
theorem QnH (Γ:Gam) (rv:List Qab) {orders l word turned} {s:List Qab×Int} {e:List Qab} (h:loopF (fun s=>Qe5 orders l word turned s.1 s.2) s=some e) (hD:Qii Γ rv orders l word turned e):Qiv Γ rv orders l word turned s.1 s.2:=by
 refine QaD (C:=fun (s:List Qab×Int)=>Qiv Γ rv orders l word turned s.1 s.2) (D:=fun (e:List Qab)=>Qii Γ rv orders l word turned e) ?_ h hD
 clear h hD s e
 rintro ⟨l2,i⟩ z_ h hI hE
 replace h:Qe5 orders l word turned l2 i=_:=h
 unfold Qe5 at h
 rcases Qai h with ⟨h2,h⟩|⟨h2,h⟩
 ·obtain ⟨x0,h3,h⟩:=Qad h
  obtain ⟨h4,h⟩:=Qaw h
  obtain ⟨r,h5,h⟩:=Qad h
  obtain ⟨h6,h⟩:=Qaw h
  rcases Qai h with ⟨h7,h⟩|⟨h7,h⟩
  ·obtain ⟨h8,h⟩:=Qaw h
   exact gn 22 [0,1,2,3,9,10] [2] [nL QaC.enc l,bT h2,cE QaC.enc h3,oO (zL 0),oO (lT 0 2),cE QaC.enc h3,oO (zL 1),oO (lT 1 2),oO (h4),cC (Qgf h5),rp 15 hP,oO (h6),rp 2 (oI ((ltI x0.x0 0)=false)),oR True ((ltI x0.x0 0)=false),oI (((ltI x0.x0 0)||(geI x0.x0 orders))=false),oR True (((ltI x0.x0 0)||(geI x0.x0 orders))=false),rp 2 (oI ((((ltI x0.x0 0)||(geI x0.x0 orders))||(ltI x0.x1 0))=false)),oR True ((((ltI x0.x0 0)||(geI x0.x0 orders))||(ltI x0.x1 0))=false),rp 2 (oI (((((ltI x0.x0 0)||(geI x0.x0 orders))||(ltI x0.x1 0))||(geI x0.x1 orders))=false)),oR True (((((ltI x0.x0 0)||(geI x0.x0 orders))||(ltI x0.x1 0))||(geI x0.x1 orders))=false),bT h7,oO (Eq.refl ([(Qab.mk 2 (catS (catS word Qde) r))].map Qab.enc).length),aO Qab.enc h8] (hI _ (oJ h))
  ·obtain ⟨e0,h18,h⟩:=Qad h
   refine gn 25 [0,1,2,3,9,10,11,12,13,14,15] [0] [nL QaC.enc l,bT h2,cE QaC.enc h3,oO (zL 0),oO (lT 0 2),cE QaC.enc h3,oO (zL 1),oO (lT 1 2),oO (h4),cC (Qgf h5),rp 15 hP,oO (h6),rp 2 (oI ((ltI x0.x0 0)=false)),oR True ((ltI x0.x0 0)=false),oI (((ltI x0.x0 0)||(geI x0.x0 orders))=false),oR True (((ltI x0.x0 0)||(geI x0.x0 orders))=false),rp 2 (oI ((((ltI x0.x0 0)||(geI x0.x0 orders))||(ltI x0.x1 0))=false)),oR True ((((ltI x0.x0 0)||(geI x0.x0 orders))||(ltI x0.x1 0))=false),rp 2 (oI (((((ltI x0.x0 0)||(geI x0.x0 orders))||(ltI x0.x1 0))||(geI x0.x1 orders))=false)),oR True (((((ltI x0.x0 0)||(geI x0.x0 orders))||(ltI x0.x1 0))||(geI x0.x1 orders))=false),bF h7] (QnI Γ rv h18 ?_)
   obtain ⟨twice1,rfl⟩:∃ x,x=e0:=⟨_,rfl⟩
   replace h:(br twice1 (chk (okN (l2++[(Qab.mk 6 (catS (catS word Qde) r))]).length 24) (some (.inl ((l2++[(Qab.mk 6 (catS (catS word Qde) r))]),(addK .i64 i 1))))) (some (.inl (l2,(addK .i64 i 1)))):Option ((List Qab×Int)⊕(List Qab)))=some _:=h
   rcases Qai h with ⟨h19,h⟩|⟨h19,h⟩
   ·obtain ⟨h20,h⟩:=Qaw h
    exact gn 7 [0,1,2,3,9,10] [2] [bT h19,oO (Eq.refl ([(Qab.mk 6 (catS (catS word Qde) r))].map Qab.enc).length),aO Qab.enc h20] (hI _ (oJ h))
   ·exact gn 7 [0,1,2,3,9,10] [0] [bF h19] (hI _ (oJ h))
 ·exact gn 5 [9] [0] [nL QaC.enc l,bF h2] (hE _ (oJ h))
theorem Qih (Γ:Gam) (rv:List Qab) {orders l word turned l1} (h:Qe4 orders l word turned l1=some rv):Qd5 Γ rv ⟨[.c 15],⟨123,[vI 0 orders,vL 1 2 l QaC.enc,vS 2 word,vB 3 turned,vO 9 0 2 l1 Qab.enc],[oS 2 151 l1 Qab.enc]⟩⟩:=by
 unfold Qe4 at h
 obtain ⟨e1,h21,h⟩:=Qad h
 refine gn 5 [0,1,2,3,9,10] [0] [] (QnH Γ rv h21 ?_)
 obtain ⟨l3,rfl⟩:∃ x,x=e1:=⟨_,rfl⟩
 replace h:(some l3:Option (List Qab))=some _:=h
 obtain rfl:=Option.some.inj h
 exact gr 2 [0] []
theorem QpI {orders l word turned} {rv:List Qab} (h:Qim orders l word turned=some rv):AFn Tryz.prog 115 [.one (lI orders),.one (lL 2 l QaC.enc),.one (.str word),.one (.bool turned)] [] (one (lO 0 2 rv Qab.enc)) [oS 2 151 rv Qab.enc]:=by
 refine QaN Tryz.func115 (by kernel_rfl) (by kernel_rfl) (fun Γ=>?_)
 unfold Qim at h
 rcases Qai h with ⟨h0,h⟩|⟨h0,h⟩
 ·obtain ⟨h1,h⟩:=Qaw h
  exact gn 9 [0,1,2,3,9] [1] [nL QaC.enc l,bT h0,oO (Eq.refl ([(Qab.mk 4 word)].map Qab.enc).length),aN (l:=([(Qab.mk 4 word)]:List Qab)) Qab.enc h1] (Qih Γ rv h)
 ·exact gn 9 [0,1,2,3,9] [0] [nL QaC.enc l,bF h0,hW 1,hH (.adopt 9 2 151)] (Qih Γ rv h)
theorem Qs2 {orders apart before} {rv:List Qab} (h:QhO orders apart before=some rv):AFn Tryz.prog 76 [.one (lI orders),.one (lL 2 apart QaC.enc),.one (lL 2 before QaC.enc)] [] (one (lL 2 rv Qab.enc)) []:=by
 refine QaN Tryz.func76 (by kernel_rfl) (by kernel_rfl) (fun Γ=>?_)
 unfold QhO at h
 obtain ⟨r,h0,h⟩:=Qad h
 obtain ⟨r1,h1,h⟩:=Qad h
 obtain ⟨h2,h⟩:=Qaw h
 obtain rfl:=Option.some.inj h
 exact gr 6 [] [cC (QpI h0),cC (Qsq h1),aO Qab.enc h2,hW 1,hH (.frz 1),rp 2 (oO (Eq.refl ((r++r1).map Qab.enc).length))]
def QhR (Γ:Gam) (rv:List Qab) (cf:Cf):Prop:=Go Tryz.prog Tryz.f71 [] Γ (one (lO 0 2 rv Qab.enc)) [oS 2 151 rv Qab.enc] cf
def Qgt (Γ:Gam) (rv:List Qab) (word:ByteArray) (l:List Qab) (l1:List Qab) (i:Int):Prop:=QhR Γ rv ⟨[.c 116,.l 116,.b 0,.c 15],⟨40,[vS 0 word,vL 1 2 l Qab.enc,vO 5 0 2 l1 Qab.enc,vI 6 i],[oS 2 151 l1 Qab.enc]⟩⟩
def Qf6 (Γ:Gam) (rv:List Qab) (word:ByteArray) (l:List Qab) (l2:List Qab):Prop:=QhR Γ rv ⟨[.c 15],⟨40,[vO 5 0 2 l2 Qab.enc],[oS 2 151 l2 Qab.enc]⟩⟩
theorem Qix (Γ:Gam) (rv:List Qab) {word l l1 i at_} {x:(List Qab×Int)⊕(List Qab)} (h:Qfz word l l1 i at_=some x) (hI:∀ s:List Qab×Int,x=.inl s→Qgt Γ rv word l s.1 s.2) (hE:∀ e:List Qab,x=.inr e→Qf6 Γ rv word l e):QhR Γ rv ⟨[.c 3731,.b 1,.c 467,.l 116,.b 0,.c 15],⟨40,[vS 0 word,vL 1 2 l Qab.enc,vO 5 0 2 l1 Qab.enc,vI 6 i,vS 7 at_],[oS 2 151 l1 Qab.enc]⟩⟩:=by
 unfold Qfz at h
 obtain ⟨x1,h5,h⟩:=Qad h
 obtain ⟨h6,h⟩:=Qaw h
 exact gn 4 [0,1,5,6] [2] [cE Qab.enc h5,oO (Eq.refl ([(Qab.mk x1.err at_)].map Qab.enc).length),aO Qab.enc h6] (hI _ (oJ h))
theorem QoA (Γ:Gam) (rv:List Qab) {word l} {s:List Qab×Int} {e:List Qab} (h:loopF (fun s=>QfA word l s.1 s.2) s=some e) (hD:Qf6 Γ rv word l e):Qgt Γ rv word l s.1 s.2:=by
 refine QaD (C:=fun (s:List Qab×Int)=>Qgt Γ rv word l s.1 s.2) (D:=fun (e:List Qab)=>Qf6 Γ rv word l e) ?_ h hD
 clear h hD s e
 rintro ⟨l1,i⟩ z_ h hI hE
 replace h:QfA word l l1 i=_:=h
 unfold QfA at h
 rcases Qai h with ⟨h0,h⟩|⟨h0,h⟩
 ·obtain ⟨x0,h1,h⟩:=Qad h
  rcases Qai h with ⟨h2,h⟩|⟨h2,h⟩
  ·exact gn 14 [0,1,5,6,7] [0] [nL Qab.enc l,bT h0,cE Qab.enc h1,nF h2] (Qix Γ rv h hI hE)
  ·obtain ⟨h3,h⟩:=Qaw h
   obtain ⟨h4,h⟩:=Qaw h
   exact gn 14 [0,1,5,6,7] [0] [nL Qab.enc l,bT h0,cE Qab.enc h1,nT h2,oO (h3),cE Qab.enc h1,oO (h4)] (Qix Γ rv h hI hE)
 ·exact gn 5 [5] [0] [nL Qab.enc l,bF h0] (hE _ (oJ h))
theorem Qqk {word l} {rv:List Qab} (h:QgT word l=some rv):AFn Tryz.prog 71 [.one (.str word),.one (lL 2 l Qab.enc)] [] (one (lO 0 2 rv Qab.enc)) [oS 2 151 rv Qab.enc]:=by
 refine QaN Tryz.func71 (by kernel_rfl) (by kernel_rfl) (fun Γ=>?_)
 unfold QgT at h
 obtain ⟨e0,h7,h⟩:=Qad h
 refine gn 9 [0,1,5,6] [0] [hW 12,hH (.adopt 5 2 151)] (QoA Γ rv h7 ?_)
 obtain ⟨l2,rfl⟩:∃ x,x=e0:=⟨_,rfl⟩
 replace h:(some l2:Option (List Qab))=some _:=h
 obtain rfl:=Option.some.inj h
 exact gr 2 [0] []
theorem Qs3 {x0} {rv:List Qab} (h:QhP x0=some rv):AFn Tryz.prog 39 [.agg (Qac.enc x0)] [] (one (lL 2 rv Qab.enc)) []:=by
 refine QaN Tryz.func39 (by kernel_rfl) (by kernel_rfl) (fun Γ=>?_)
 unfold QhP at h
 obtain ⟨r,h0,h⟩:=Qad h
 obtain ⟨r1,h1,h⟩:=Qad h
 obtain ⟨r2,h2,h⟩:=Qad h
 obtain ⟨r3,h3,h⟩:=Qad h
 obtain ⟨h4,h⟩:=Qaw h
 obtain ⟨r4,h5,h⟩:=Qad h
 obtain ⟨r5,h6,h⟩:=Qad h
 obtain ⟨r6,h7,h⟩:=Qad h
 obtain ⟨h8,h⟩:=Qaw h
 obtain ⟨r7,h9,h⟩:=Qad h
 obtain ⟨r8,h10,h⟩:=Qad h
 obtain ⟨h11,h⟩:=Qaw h
 obtain rfl:=Option.some.inj h
 exact gr 12 [] [cC (QsX h0),cC (Qqk h1),cC (QsY h2),cC (Qjw h3),aO Qab.enc h4,hH (.draw 13 []),cC (Qgq h5),nL Qak.enc x0.types,cC (Qs0 h6),cC (Qjw h7),aO Qab.enc h8,nL Qah.enc x0.orders,cC (Qs2 h9),cC (Qjw h10),aO Qab.enc h11,hW 5,hH (.frz 4),rp 4 (oO (Eq.refl ((((r1++r3)++r6)++r8).map Qab.enc).length))]
def Qp9 (Γ:Gam) (rv:Int×Int) (cf:Cf):Prop:=Go Tryz.prog Tryz.f20 [] Γ (.tup [.one (lI rv.1),.one (lI rv.2)]) [] cf
def Qnu (Γ:Gam) (rv:Int×Int) (r:Qag) (set_:Int) (v:Int):Prop:=Qp9 Γ rv ⟨[.c 116,.l 116,.b 0,.c 15],⟨29,[vI 4 set_,vL 8 2 r.visits Qaa.enc,vI 9 (lenI r.visits),vI 10 v],[]⟩⟩
def Qmz (Γ:Gam) (rv:Int×Int) (r:Qag) (set_1:Int):Prop:=Qp9 Γ rv ⟨[.c 15],⟨29,[vI 4 set_1],[]⟩⟩
theorem Qr0 (Γ:Gam) (rv:Int×Int) {r} {s:Int×Int} {e:(Int)⊕(Int×Int)} (h:loopF (fun s=>Qfq r s.1 s.2) s=some e) (hD:sel e (fun e=>Qmz Γ rv r e) (fun e=>e=rv)):Qnu Γ rv r s.1 s.2:=by
 refine QaD (C:=fun (s:Int×Int)=>Qnu Γ rv r s.1 s.2) (D:=fun (e:(Int)⊕(Int×Int))=>sel e (fun e=>Qmz Γ rv r e) (fun e=>e=rv)) ?_ h hD
 clear h hD s e
 rintro ⟨set_,v⟩ z_ h hI hE
 replace h:Qfq r set_ v=_:=h
 unfold Qfq at h
 rcases Qai h with ⟨h0,h⟩|⟨h0,h⟩
 ·obtain ⟨x0,h1,h⟩:=Qad h
  rcases Qai h with ⟨h2,h⟩|⟨h2,h⟩
  ·obtain rfl:=(hE _ (oJ h):_=rv)
   exact gr 15 [] [bT h0,cE Qaa.enc h1,rp 4 hP,rp 2 (oI ((ltI x0.order 0)=false)),oR True ((ltI x0.order 0)=false),bT h2]
  ·obtain ⟨h3,h⟩:=Qaw h
   exact gn 18 [4,8,9,10] [] [bT h0,cE Qaa.enc h1,rp 4 hP,rp 2 (oI ((ltI x0.order 0)=false)),oR True ((ltI x0.order 0)=false),bF h2,oO (h3)] (hI _ (oJ h))
 ·exact gn 5 [4] [] [bF h0] (hE _ (oJ h))
theorem Qpo {r} {rv:Int×Int} (h:Qhp r=some rv):AFn Tryz.prog 20 [.agg (Qag.enc r)] [] (.tup [.one (lI rv.1),.one (lI rv.2)]) []:=by
 refine QaN Tryz.func20 (by kernel_rfl) (by kernel_rfl) (fun Γ=>?_)
 unfold Qhp at h
 obtain ⟨e0,h4,h⟩:=Qad h
 refine gn 9 [4,8,9,10] [] [nL Qaa.enc r.visits] (Qr0 Γ rv h4 ?_)
 rcases e0 with e0|e0
 ·obtain ⟨set_1,rfl⟩:∃ x,x=e0:=⟨_,rfl⟩
  replace h:(some (set_1,0):Option (Int×Int))=some _:=h
  obtain rfl:=Option.some.inj h
  exact gr 2 [] []
 ·obtain ⟨r1,rfl⟩:∃ x,x=e0:=⟨_,rfl⟩
  replace h:(some r1:Option (Int×Int))=some _:=h
  exact Option.some.inj h
def Qfd (Γ:Gam) (rv:Int) (cf:Cf):Prop:=Go Tryz.prog Tryz.f192 [] Γ (one (lI rv)) [] cf
def QeD (Γ:Gam) (rv:Int) (s0:List Qaa) (v:Qaa) (v1:Int):Prop:=Qfd Γ rv ⟨[.c 52,.l 52,.b 0,.c 7],⟨19,[vL 0 2 s0 Qaa.enc,vP 3 0 2,vI 7 (lenI s0),vI 8 v1],[oX 2 54 (Qaa.enc v)]⟩⟩
def Qel (Γ:Gam) (rv:Int) (s0:List Qaa) (v:Qaa):Prop:=Qfd Γ rv ⟨[.c 7],⟨19,[],[]⟩⟩
theorem QhF (Γ:Gam) (rv:Int) {s0 v} {s:Int} {e:(Unit)⊕(Int)} (h:loopF (fun s=>QaU s0 v s) s=some e) (hD:sel e (fun e=>Qel Γ rv s0 v) (fun e=>e=rv)):QeD Γ rv s0 v s:=by
 refine QaD (C:=fun (s:Int)=>QeD Γ rv s0 v s) (D:=fun (e:(Unit)⊕(Int))=>sel e (fun e=>Qel Γ rv s0 v) (fun e=>e=rv)) ?_ h hD
 clear h hD s e
 intro v1 z_ h hI hE
 replace h:QaU s0 v v1=_:=h
 unfold QaU at h
 rcases Qai h with ⟨h0,h⟩|⟨h0,h⟩
 ·obtain ⟨x0,h1,h⟩:=Qad h
  rcases Qai h with ⟨h2,h⟩|⟨h2,h⟩
  ·obtain rfl:=(hE _ (oJ h):_=rv)
   exact gr 14 [] [bT h0,hH (.draw 6 []),cE Qaa.enc h1,bT h2]
  ·exact gn 16 [0,3,7,8] [0] [bT h0,hH (.draw 6 []),cE Qaa.enc h1,bF h2] (hI _ (oJ h))
 ·exact gn 5 [] [] [bF h0] (hE _ (oJ h))
theorem Qe3 {s0 v} {rv:Int} (h:Qbs s0 v=some rv):AFn Tryz.prog 192 [.one (lL 2 s0 Qaa.enc),.agg (Qaa.enc v)] [] (one (lI rv)) []:=by
 refine QaN Tryz.func192 (by kernel_rfl) (by kernel_rfl) (fun Γ=>?_)
 unfold Qbs at h
 obtain ⟨e0,h3,h⟩:=Qad h
 refine gn 7 [0,3,7,8] [0] [nL Qaa.enc s0] (QhF Γ rv h3 ?_)
 rcases e0 with e0|e0
 ·replace h:(some (-1):Option Int)=some _:=h
  obtain rfl:=Option.some.inj h
  exact gr 2 [] []
 ·obtain ⟨r,rfl⟩:∃ x,x=e0:=⟨_,rfl⟩
  replace h:(some r:Option Int)=some _:=h
  exact Option.some.inj h
theorem QcZ {l v} {rv:Int} (h:Qes l v=some rv):AFn Tryz.prog 167 [.one (lL 2 l Qaa.enc),.agg (Qaa.enc v)] [] (one (lI rv)) []:=by
 refine QaN Tryz.func167 (by kernel_rfl) (by kernel_rfl) (fun Γ=>?_)
 unfold Qes at h
 obtain ⟨r,h0,h⟩:=Qad h
 obtain rfl:=Option.some.inj h
 exact gr 4 [] [cC (Qe3 h0)]
def Qrh (Γ:Gam) (rv:Bool) (cf:Cf):Prop:=Go Tryz.prog Tryz.f119 [] Γ (one (.bool rv)) [] cf
def Qow (Γ:Gam) (rv:Bool) (l:List Qaa) (v:Int):Prop:=Qrh Γ rv ⟨[.c 52,.l 52,.b 0,.c 7],⟨19,[vL 0 2 l Qaa.enc,vL 5 2 l Qaa.enc,vI 6 (lenI l),vI 7 v],[]⟩⟩
def QnB (Γ:Gam) (rv:Bool) (l:List Qaa):Prop:=Qrh Γ rv ⟨[.c 7],⟨19,[],[]⟩⟩
theorem QsE (Γ:Gam) (rv:Bool) {l} {s:Int} {e:(Unit)⊕(Bool)} (h:loopF (fun s=>Qdt l s) s=some e) (hD:sel e (fun e=>QnB Γ rv l) (fun e=>e=rv)):Qow Γ rv l s:=by
 refine QaD (C:=fun (s:Int)=>Qow Γ rv l s) (D:=fun (e:(Unit)⊕(Bool))=>sel e (fun e=>QnB Γ rv l) (fun e=>e=rv)) ?_ h hD
 clear h hD s e
 intro v z_ h hI hE
 replace h:Qdt l v=_:=h
 unfold Qdt at h
 rcases Qai h with ⟨h0,h⟩|⟨h0,h⟩
 ·obtain ⟨x0,h1,h⟩:=Qad h
  obtain ⟨l1,h2,h⟩:=Qad h
  obtain ⟨r,h3,h⟩:=Qad h
  rcases Qai h with ⟨h4,h⟩|⟨h4,h⟩
  ·obtain rfl:=(hE _ (oJ h):_=rv)
   exact gr 14 [] [bT h0,cE Qaa.enc h1,hH (.draw 6 []),hH (.rows (l1.map Qaa.enc)),oO (sl1 h2),oO (sl2 h2),oO (sl3 Qaa.enc h2),oO (Int.le_refl v),oO (sl3 Qaa.enc h2),oO (sl6 Qaa.enc h2),cC (QcZ h3),bT h4]
  ·exact gn 16 [0,5,6,7] [] [bT h0,cE Qaa.enc h1,hH (.draw 6 []),hH (.rows (l1.map Qaa.enc)),oO (sl1 h2),oO (sl2 h2),oO (sl3 Qaa.enc h2),oO (Int.le_refl v),oO (sl3 Qaa.enc h2),oO (sl6 Qaa.enc h2),cC (QcZ h3),bF h4] (hI _ (oJ h))
 ·exact gn 5 [] [] [bF h0] (hE _ (oJ h))
theorem QlM {l} {rv:Bool} (h:QjL l=some rv):AFn Tryz.prog 119 [.one (lL 2 l Qaa.enc)] [] (one (.bool rv)) []:=by
 refine QaN Tryz.func119 (by kernel_rfl) (by kernel_rfl) (fun Γ=>?_)
 unfold QjL at h
 obtain ⟨e0,h5,h⟩:=Qad h
 refine gn 7 [0,5,6,7] [] [nL Qaa.enc l] (QsE Γ rv h5 ?_)
 rcases e0 with e0|e0
 ·replace h:(some false:Option Bool)=some _:=h
  obtain rfl:=Option.some.inj h
  exact gr 2 [] []
 ·obtain ⟨r1,rfl⟩:∃ x,x=e0:=⟨_,rfl⟩
  replace h:(some r1:Option Bool)=some _:=h
  exact Option.some.inj h
theorem Qie {l at_} {rv:Bool} (h:QmM l at_=some rv):AFn Tryz.prog 89 [.one (lL 16 l Qah.enc),.one (lI at_)] [] (one (.bool rv)) []:=by
 refine QaN Tryz.func89 (by kernel_rfl) (by kernel_rfl) (fun Γ=>?_)
 unfold QmM at h
 obtain rfl:=Option.some.inj h
 exact gr 4 [] [hP,hP,hP,oI ((geI at_ 0)=true),nL Qah.enc l,hP,hP,rp 2 (oI ((geI at_ 0)=true)),oR True ((geI at_ 0)=true)]
def QwF (Γ:Gam) (rv:List Qaa) (cf:Cf):Prop:=Go Tryz.prog Tryz.f55 [] Γ (one (lL 2 rv Qaa.enc)) [] cf
theorem Qpc (Γ:Gam) (rv:List Qaa) {l at_ l1} (h:Qhk l at_ l1=some rv):QwF Γ rv ⟨[.c 31],⟨35,[vL 0 16 l Qah.enc,vI 1 at_,vO 5 0 2 l1 Qaa.enc],[oS 2 54 l1 Qaa.enc]⟩⟩:=by
 unfold Qhk at h
 obtain ⟨x1,h5,h⟩:=Qad h
 rcases Qai h with ⟨h6,h⟩|⟨h6,h⟩
 ·obtain ⟨h7,h⟩:=Qaw h
  obtain rfl:=Option.some.inj h
  exact gr 7 [] [cE Qah.enc h5,bT h6,oO (Eq.refl ([(Qaa.mk at_ true)].map Qaa.enc).length),aO Qaa.enc h7,hW 5,hH (.frz 2),rp 4 (oO (Eq.refl ((l1++[(Qaa.mk at_ true)]).map Qaa.enc).length))]
 ·obtain rfl:=Option.some.inj h
  exact gr 7 [] [cE Qah.enc h5,bF h6,hW 5,hH (.frz 0),rp 3 (eL l1 Qaa.enc)]
theorem Qhl {l at_} {rv:List Qaa} (h:QgV l at_=some rv):AFn Tryz.prog 55 [.one (lL 16 l Qah.enc),.one (lI at_)] [] (one (lL 2 rv Qaa.enc)) []:=by
 refine QaN Tryz.func55 (by kernel_rfl) (by kernel_rfl) (fun Γ=>?_)
 unfold QgV at h
 obtain ⟨r,h0,h⟩:=Qad h
 rcases Qai h with ⟨h1,h⟩|⟨h1,h⟩
 ·obtain ⟨x0,h2,h⟩:=Qad h
  rcases Qai h with ⟨h3,h⟩|⟨h3,h⟩
  ·obtain ⟨h4,h⟩:=Qaw h
   exact gn 14 [0,1,5] [1] [cC (Qie h0),nF h1,cE Qah.enc h2,bT h3,oO (Eq.refl ([(Qaa.mk at_ false)].map Qaa.enc).length),aN (l:=([(Qaa.mk at_ false)]:List Qaa)) Qaa.enc h4] (Qpc Γ rv h)
  ·exact gn 14 [0,1,5] [0] [cC (Qie h0),nF h1,cE Qah.enc h2,bF h3,hW 1,hH (.adopt 5 2 54)] (Qpc Γ rv h)
 ·obtain rfl:=Option.some.inj h
  exact gr 10 [] [cC (Qie h0),nT h1,hW 3,hH (.nilS 4 0 2)]
theorem Qej {s0 v} {rv:Bool} (h:QbD s0 v=some rv):AFn Tryz.prog 168 [.one (lL 2 s0 Qaa.enc),.agg (Qaa.enc v)] [] (one (.bool rv)) []:=by
 refine QaN Tryz.func168 (by kernel_rfl) (by kernel_rfl) (fun Γ=>?_)
 unfold QbD at h
 obtain ⟨r,h0,h⟩:=Qad h
 obtain rfl:=Option.some.inj h
 exact gr 4 [] [cC (Qe3 h0)]
def QiM (Γ:Gam) (rv:Bool) (cf:Cf):Prop:=Go Tryz.prog Tryz.f120 [] Γ (one (.bool rv)) [] cf
def Qnx (Γ:Gam) (rv:Bool) (x0:Qac) (l:List Qaa) (v:Int) (r:List Qaa) (last_:Int) (v1:Int):Prop:=QiM Γ rv ⟨[.c 108156,.l 108156,.b 2,.b 1,.c 423,.l 52,.b 0,.c 7],⟨42,[vL 1 2 l Qaa.enc,vP 2 0 6,vI 8 last_,vL 12 2 l Qaa.enc,vI 13 (lenI l),vI 14 v,vL 27 2 r Qaa.enc,vI 28 (lenI r),vI 29 v1],[oX 6 30 (Qac.enc x0)]⟩⟩
def QmC (Γ:Gam) (rv:Bool) (x0:Qac) (l:List Qaa) (v:Int) (r:List Qaa):Prop:=QiM Γ rv ⟨[.b 1,.c 423,.l 52,.b 0,.c 7],⟨42,[vL 1 2 l Qaa.enc,vP 2 0 6,vL 12 2 l Qaa.enc,vI 13 (lenI l),vI 14 v],[oX 6 30 (Qac.enc x0)]⟩⟩
def Qnw (Γ:Gam) (rv:Bool) (x0:Qac) (l:List Qaa) (v:Int):Prop:=QiM Γ rv ⟨[.c 52,.l 52,.b 0,.c 7],⟨42,[vL 1 2 l Qaa.enc,vP 2 0 6,vL 12 2 l Qaa.enc,vI 13 (lenI l),vI 14 v],[oX 6 30 (Qac.enc x0)]⟩⟩
def QmB (Γ:Gam) (rv:Bool) (x0:Qac) (l:List Qaa):Prop:=QiM Γ rv ⟨[.c 7],⟨42,[],[]⟩⟩
theorem Qr2 (Γ:Gam) (rv:Bool) {x0 l v r} {s:Int×Int} {e:(Unit)⊕(Bool)} (h:loopF (fun s=>Qbo x0 l v r s.1 s.2) s=some e) (hD:sel e (fun e=>QmC Γ rv x0 l v r) (fun e=>e=rv)):Qnx Γ rv x0 l v r s.1 s.2:=by
 refine QaD (C:=fun (s:Int×Int)=>Qnx Γ rv x0 l v r s.1 s.2) (D:=fun (e:(Unit)⊕(Bool))=>sel e (fun e=>QmC Γ rv x0 l v r) (fun e=>e=rv)) ?_ h hD
 clear h hD s e
 rintro ⟨last_,v1⟩ z_ h hI hE
 replace h:Qbo x0 l v r last_ v1=_:=h
 unfold Qbo at h
 rcases Qai h with ⟨h5,h⟩|⟨h5,h⟩
 ·obtain ⟨x2,h6,h⟩:=Qad h
  obtain ⟨r2,h7,h⟩:=Qad h
  rcases Qai h with ⟨h8,h⟩|⟨h8,h⟩
  ·obtain rfl:=(hE _ (oJ h):_=rv)
   exact gr 17 [] [bT h5,cE Qaa.enc h6,cC (QcZ h7),bT h8]
  ·exact gn 20 [1,2,8,12,13,14,27,28,29] [0] [bT h5,cE Qaa.enc h6,cC (QcZ h7),bF h8] (hI _ (oJ h))
 ·exact gn 5 [1,2,12,13,14] [0] [bF h5] (hE _ (oJ h))
theorem Qr1 (Γ:Gam) (rv:Bool) {x0 l} {s:Int} {e:(Unit)⊕(Bool)} (h:loopF (fun s=>Qda x0 l s) s=some e) (hD:sel e (fun e=>QmB Γ rv x0 l) (fun e=>e=rv)):Qnw Γ rv x0 l s:=by
 refine QaD (C:=fun (s:Int)=>Qnw Γ rv x0 l s) (D:=fun (e:(Unit)⊕(Bool))=>sel e (fun e=>QmB Γ rv x0 l) (fun e=>e=rv)) ?_ h hD
 clear h hD s e
 intro v z_ h hI hE
 replace h:Qda x0 l v=_:=h
 unfold Qda at h
 rcases Qai h with ⟨h0,h⟩|⟨h0,h⟩
 ·obtain ⟨x1,h1,h⟩:=Qad h
  obtain ⟨r,h2,h⟩:=Qad h
  obtain ⟨r1,h3,h⟩:=Qad h
  rcases Qai h with ⟨h4,h⟩|⟨h4,h⟩
  ·obtain ⟨e0,h9,h⟩:=Qad h
   refine gn 22 [1,2,8,12,13,14,27,28,29] [0] [bT h0,cE Qaa.enc h1,cC (Qhl h2),cC (Qej h3),nF h4,nL Qaa.enc r] (Qr2 Γ rv h9 ?_)
   rcases e0 with e0|e0
   ·replace h:(some (.inl (addK .i64 v 1)):Option ((Int)⊕((Unit)⊕(Bool))))=some _:=h
    exact gn 3 [1,2,12,13,14] [0] [] (hI _ (oJ h))
   ·obtain ⟨r3,rfl⟩:∃ x,x=e0:=⟨_,rfl⟩
    replace h:(some (.inr (.inr r3)):Option ((Int)⊕((Unit)⊕(Bool))))=some _:=h
    exact (hE _ (oJ h):_=rv)
  ·obtain rfl:=(hE _ (oJ h):_=rv)
   exact gr 17 [] [bT h0,cE Qaa.enc h1,cC (Qhl h2),cC (Qej h3),nT h4]
 ·exact gn 5 [] [] [bF h0] (hE _ (oJ h))
theorem Qpq {x0 l} {rv:Bool} (h:QiC x0 l=some rv):AFn Tryz.prog 120 [.agg (Qac.enc x0),.one (lL 2 l Qaa.enc)] [] (one (.bool rv)) []:=by
 refine QaN Tryz.func120 (by kernel_rfl) (by kernel_rfl) (fun Γ=>?_)
 unfold QiC at h
 obtain ⟨e1,h10,h⟩:=Qad h
 refine gn 7 [1,2,12,13,14] [0] [nL Qaa.enc l] (Qr1 Γ rv h10 ?_)
 rcases e1 with e1|e1
 ·replace h:(some true:Option Bool)=some _:=h
  obtain rfl:=Option.some.inj h
  exact gr 2 [] []
 ·obtain ⟨r4,rfl⟩:∃ x,x=e1:=⟨_,rfl⟩
  replace h:(some r4:Option Bool)=some _:=h
  exact Option.some.inj h
theorem Qqa {v c} {rv:Bool} (h:QmG v c=some rv):AFn Tryz.prog 169 [.agg (Qaa.enc v),.one (.ip [lI c] 0)] [] (one (.bool rv)) []:=by
 refine QaN Tryz.func169 (by kernel_rfl) (by kernel_rfl) (fun Γ=>?_)
 unfold QmG at h
 obtain rfl:=Option.some.inj h
 exact gr 4 [] []
def Qdu (Γ:Gam) (rv:Int) (cf:Cf):Prop:=Go Tryz.prog Tryz.f166 [] Γ (one (lI rv)) [] cf
def Qdd (Γ:Gam) (rv:Int) (s0:List Qaa) (c:Int) (v:Int):Prop:=Qdu Γ rv ⟨[.c 52,.l 52,.b 0,.c 7],⟨19,[vL 0 2 s0 Qaa.enc,(1,one (.fn (.func 169) [.ip [lI c] 0])),vI 7 (lenI s0),vI 8 v],[]⟩⟩
def Qc2 (Γ:Gam) (rv:Int) (s0:List Qaa) (c:Int):Prop:=Qdu Γ rv ⟨[.c 7],⟨19,[],[]⟩⟩
theorem QfC (Γ:Gam) (rv:Int) {s0 c} {s:Int} {e:(Unit)⊕(Int)} (h:loopF (fun s=>QaI s0 c s) s=some e) (hD:sel e (fun e=>Qc2 Γ rv s0 c) (fun e=>e=rv)):Qdd Γ rv s0 c s:=by
 refine QaD (C:=fun (s:Int)=>Qdd Γ rv s0 c s) (D:=fun (e:(Unit)⊕(Int))=>sel e (fun e=>Qc2 Γ rv s0 c) (fun e=>e=rv)) ?_ h hD
 clear h hD s e
 intro v z_ h hI hE
 replace h:QaI s0 c v=_:=h
 unfold QaI at h
 rcases Qai h with ⟨h0,h⟩|⟨h0,h⟩
 ·obtain ⟨x0,h1,h⟩:=Qad h
  obtain ⟨r,h2,h⟩:=Qad h
  rcases Qai h with ⟨h3,h⟩|⟨h3,h⟩
  ·obtain rfl:=(hE _ (oJ h):_=rv)
   exact gr 14 [] [bT h0,cE Qaa.enc h1,cC (Qqa h2),bT h3]
  ·exact gn 16 [0,1,7,8] [] [bT h0,cE Qaa.enc h1,cC (Qqa h2),bF h3] (hI _ (oJ h))
 ·exact gn 5 [] [] [bF h0] (hE _ (oJ h))
theorem Qga {s0 c} {rv:Int} (h:Qbe s0 c=some rv):AFn Tryz.prog 166 [.one (lL 2 s0 Qaa.enc),.one (.fn (.func 169) [.ip [lI c] 0])] [] (one (lI rv)) []:=by
 refine QaN Tryz.func166 (by kernel_rfl) (by kernel_rfl) (fun Γ=>?_)
 unfold Qbe at h
 obtain ⟨e0,h4,h⟩:=Qad h
 refine gn 7 [0,1,7,8] [] [nL Qaa.enc s0] (QfC Γ rv h4 ?_)
 rcases e0 with e0|e0
 ·replace h:(some (-1):Option Int)=some _:=h
  obtain rfl:=Option.some.inj h
  exact gr 2 [] []
 ·obtain ⟨r1,rfl⟩:∃ x,x=e0:=⟨_,rfl⟩
  replace h:(some r1:Option Int)=some _:=h
  exact Option.some.inj h
theorem QfB {s0 c} {rv:Bool} (h:Qbq s0 c=some rv):AFn Tryz.prog 116 [.one (lL 2 s0 Qaa.enc),.one (.fn (.func 169) [.ip [lI c] 0])] [] (one (.bool rv)) []:=by
 refine QaN Tryz.func116 (by kernel_rfl) (by kernel_rfl) (fun Γ=>?_)
 unfold Qbq at h
 obtain ⟨r,h0,h⟩:=Qad h
 obtain rfl:=Option.some.inj h
 exact gr 4 [] [cC (Qga h0)]
theorem Qfb {l o} {rv:Bool} (h:QhZ l o=some rv):AFn Tryz.prog 121 [.one (lL 2 l Qaa.enc),.one (lI o)] [] (one (.bool rv)) []:=by
 refine QaN Tryz.func121 (by kernel_rfl) (by kernel_rfl) (fun Γ=>?_)
 unfold QhZ at h
 obtain ⟨r,h0,h⟩:=Qad h
 obtain rfl:=Option.some.inj h
 exact gr 4 [] [cC (QfB h0)]
theorem Qnv {v c} {rv:Bool} (h:QiL v c=some rv):AFn Tryz.prog 170 [.agg (Qaa.enc v),.one (.ip [lI c] 0)] [] (one (.bool rv)) []:=by
 refine QaN Tryz.func170 (by kernel_rfl) (by kernel_rfl) (fun Γ=>?_)
 unfold QiL at h
 obtain rfl:=Option.some.inj h
 exact gr 4 [] []
def Qdc (Γ:Gam) (rv:Int) (cf:Cf):Prop:=Go Tryz.prog Tryz.f166 [] Γ (one (lI rv)) [] cf
def QcL (Γ:Gam) (rv:Int) (s0:List Qaa) (c:Int) (v:Int):Prop:=Qdc Γ rv ⟨[.c 52,.l 52,.b 0,.c 7],⟨19,[vL 0 2 s0 Qaa.enc,(1,one (.fn (.func 170) [.ip [lI c] 0])),vI 7 (lenI s0),vI 8 v],[]⟩⟩
def QcI (Γ:Gam) (rv:Int) (s0:List Qaa) (c:Int):Prop:=Qdc Γ rv ⟨[.c 7],⟨19,[],[]⟩⟩
theorem Qe9 (Γ:Gam) (rv:Int) {s0 c} {s:Int} {e:(Unit)⊕(Int)} (h:loopF (fun s=>QaE s0 c s) s=some e) (hD:sel e (fun e=>QcI Γ rv s0 c) (fun e=>e=rv)):QcL Γ rv s0 c s:=by
 refine QaD (C:=fun (s:Int)=>QcL Γ rv s0 c s) (D:=fun (e:(Unit)⊕(Int))=>sel e (fun e=>QcI Γ rv s0 c) (fun e=>e=rv)) ?_ h hD
 clear h hD s e
 intro v z_ h hI hE
 replace h:QaE s0 c v=_:=h
 unfold QaE at h
 rcases Qai h with ⟨h0,h⟩|⟨h0,h⟩
 ·obtain ⟨x0,h1,h⟩:=Qad h
  obtain ⟨r,h2,h⟩:=Qad h
  rcases Qai h with ⟨h3,h⟩|⟨h3,h⟩
  ·obtain rfl:=(hE _ (oJ h):_=rv)
   exact gr 14 [] [bT h0,cE Qaa.enc h1,cC (Qnv h2),bT h3]
  ·exact gn 16 [0,1,7,8] [] [bT h0,cE Qaa.enc h1,cC (Qnv h2),bF h3] (hI _ (oJ h))
 ·exact gn 5 [] [] [bF h0] (hE _ (oJ h))
theorem QbM {s0 c} {rv:Int} (h:Qa9 s0 c=some rv):AFn Tryz.prog 166 [.one (lL 2 s0 Qaa.enc),.one (.fn (.func 170) [.ip [lI c] 0])] [] (one (lI rv)) []:=by
 refine QaN Tryz.func166 (by kernel_rfl) (by kernel_rfl) (fun Γ=>?_)
 unfold Qa9 at h
 obtain ⟨e0,h4,h⟩:=Qad h
 refine gn 7 [0,1,7,8] [] [nL Qaa.enc s0] (Qe9 Γ rv h4 ?_)
 rcases e0 with e0|e0
 ·replace h:(some (-1):Option Int)=some _:=h
  obtain rfl:=Option.some.inj h
  exact gr 2 [] []
 ·obtain ⟨r1,rfl⟩:∃ x,x=e0:=⟨_,rfl⟩
  replace h:(some r1:Option Int)=some _:=h
  exact Option.some.inj h
theorem Qpp {l a b} {rv:Bool} (h:QiB l a b=some rv):AFn Tryz.prog 122 [.one (lL 2 l Qaa.enc),.one (lI a),.one (lI b)] [] (one (.bool rv)) []:=by
 refine QaN Tryz.func122 (by kernel_rfl) (by kernel_rfl) (fun Γ=>?_)
 unfold QiB at h
 obtain ⟨r,h0,h⟩:=Qad h
 rcases Qai h with ⟨h1,h⟩|⟨h1,h⟩
 ·obtain rfl:=Option.some.inj h
  exact gr 10 [] [cC (QbM h0),bT h1]
 ·obtain ⟨r1,h2,h⟩:=Qad h
  rcases Qai h with ⟨h3,h⟩|⟨h3,h⟩
  ·obtain ⟨l1,h4,h⟩:=Qad h
   obtain ⟨r2,h5,h⟩:=Qad h
   obtain rfl:=Option.some.inj h
   exact gr 11 [] [cC (QbM h0),bF h1,cC (Qfb h2),rp 3 (bT h3),hH (.rows (l1.map Qaa.enc)),oO (sl1 h4),oO (sl2h Qaa.enc h4),rp 3 (oO (Int.le_refl ((l.map Qaa.enc).length:Int))),oO (sl6h Qaa.enc h4),bT h3,bT h3,cC (Qfb h5),bT h3,bT h3]
  ·obtain rfl:=Option.some.inj h
   exact gr 11 [] [cC (QbM h0),bF h1,cC (Qfb h2),rp 7 (bF h3)]
theorem Qol {v c} {rv:Bool} (h:QjH v c=some rv):AFn Tryz.prog 117 [.agg (Qaa.enc v),.one (.ip (Qac.enc c) 0)] [] (one (.bool rv)) []:=by
 refine QaN Tryz.func117 (by kernel_rfl) (by kernel_rfl) (fun Γ=>?_)
 unfold QjH at h
 obtain rfl:=Option.some.inj h
 exact gr 4 [] [rp 5 hP,rp 3 (oI ((ltI v.order 0)=false)),nL Qah.enc c.orders,hP,hP,rp 2 (oI ((ltI v.order 0)=false)),oR True ((ltI v.order 0)=false)]
def Qdl (Γ:Gam) (rv:Int) (cf:Cf):Prop:=Go Tryz.prog Tryz.f166 [] Γ (one (lI rv)) [] cf
def QcR (Γ:Gam) (rv:Int) (s0:List Qaa) (c:Qac) (v:Int):Prop:=Qdl Γ rv ⟨[.c 52,.l 52,.b 0,.c 7],⟨19,[vL 0 2 s0 Qaa.enc,(1,one (.fn (.func 117) [.ip (Qac.enc c) 0])),vI 7 (lenI s0),vI 8 v],[]⟩⟩
def QcJ (Γ:Gam) (rv:Int) (s0:List Qaa) (c:Qac):Prop:=Qdl Γ rv ⟨[.c 7],⟨19,[],[]⟩⟩
theorem Qfs (Γ:Gam) (rv:Int) {s0 c} {s:Int} {e:(Unit)⊕(Int)} (h:loopF (fun s=>QaG s0 c s) s=some e) (hD:sel e (fun e=>QcJ Γ rv s0 c) (fun e=>e=rv)):QcR Γ rv s0 c s:=by
 refine QaD (C:=fun (s:Int)=>QcR Γ rv s0 c s) (D:=fun (e:(Unit)⊕(Int))=>sel e (fun e=>QcJ Γ rv s0 c) (fun e=>e=rv)) ?_ h hD
 clear h hD s e
 intro v z_ h hI hE
 replace h:QaG s0 c v=_:=h
 unfold QaG at h
 rcases Qai h with ⟨h0,h⟩|⟨h0,h⟩
 ·obtain ⟨x0,h1,h⟩:=Qad h
  obtain ⟨r,h2,h⟩:=Qad h
  rcases Qai h with ⟨h3,h⟩|⟨h3,h⟩
  ·obtain rfl:=(hE _ (oJ h):_=rv)
   exact gr 14 [] [bT h0,cE Qaa.enc h1,cC (Qol h2),bT h3]
  ·exact gn 16 [0,1,7,8] [] [bT h0,cE Qaa.enc h1,cC (Qol h2),bF h3] (hI _ (oJ h))
 ·exact gn 5 [] [] [bF h0] (hE _ (oJ h))
theorem QfE {s0 c} {rv:Int} (h:Qbb s0 c=some rv):AFn Tryz.prog 166 [.one (lL 2 s0 Qaa.enc),.one (.fn (.func 117) [.ip (Qac.enc c) 0])] [] (one (lI rv)) []:=by
 refine QaN Tryz.func166 (by kernel_rfl) (by kernel_rfl) (fun Γ=>?_)
 unfold Qbb at h
 obtain ⟨e0,h4,h⟩:=Qad h
 refine gn 7 [0,1,7,8] [] [nL Qaa.enc s0] (Qfs Γ rv h4 ?_)
 rcases e0 with e0|e0
 ·replace h:(some (-1):Option Int)=some _:=h
  obtain rfl:=Option.some.inj h
  exact gr 2 [] []
 ·obtain ⟨r1,rfl⟩:∃ x,x=e0:=⟨_,rfl⟩
  replace h:(some r1:Option Int)=some _:=h
  exact Option.some.inj h
theorem Qa2 {s0 c} {rv:Bool} (h:Qa5 s0 c=some rv):AFn Tryz.prog 116 [.one (lL 2 s0 Qaa.enc),.one (.fn (.func 117) [.ip (Qac.enc c) 0])] [] (one (.bool rv)) []:=by
 refine QaN Tryz.func116 (by kernel_rfl) (by kernel_rfl) (fun Γ=>?_)
 unfold Qa5 at h
 obtain ⟨r,h0,h⟩:=Qad h
 obtain rfl:=Option.some.inj h
 exact gr 4 [] [cC (QfE h0)]
theorem Qom {v c} {rv:Bool} (h:QjI v c=some rv):AFn Tryz.prog 118 [.agg (Qaa.enc v),.one (.ip (Qac.enc c) 0)] [] (one (.bool rv)) []:=by
 refine QaN Tryz.func118 (by kernel_rfl) (by kernel_rfl) (fun Γ=>?_)
 unfold QjI at h
 obtain ⟨x0,h0,h⟩:=Qad h
 obtain rfl:=Option.some.inj h
 exact gr 4 [] [cE Qah.enc h0]
def Qdm (Γ:Gam) (rv:Int) (cf:Cf):Prop:=Go Tryz.prog Tryz.f166 [] Γ (one (lI rv)) [] cf
def QcS (Γ:Gam) (rv:Int) (s0:List Qaa) (c:Qac) (v:Int):Prop:=Qdm Γ rv ⟨[.c 52,.l 52,.b 0,.c 7],⟨19,[vL 0 2 s0 Qaa.enc,(1,one (.fn (.func 118) [.ip (Qac.enc c) 0])),vI 7 (lenI s0),vI 8 v],[]⟩⟩
def QcK (Γ:Gam) (rv:Int) (s0:List Qaa) (c:Qac):Prop:=Qdm Γ rv ⟨[.c 7],⟨19,[],[]⟩⟩
theorem Qft (Γ:Gam) (rv:Int) {s0 c} {s:Int} {e:(Unit)⊕(Int)} (h:loopF (fun s=>QaH s0 c s) s=some e) (hD:sel e (fun e=>QcK Γ rv s0 c) (fun e=>e=rv)):QcS Γ rv s0 c s:=by
 refine QaD (C:=fun (s:Int)=>QcS Γ rv s0 c s) (D:=fun (e:(Unit)⊕(Int))=>sel e (fun e=>QcK Γ rv s0 c) (fun e=>e=rv)) ?_ h hD
 clear h hD s e
 intro v z_ h hI hE
 replace h:QaH s0 c v=_:=h
 unfold QaH at h
 rcases Qai h with ⟨h0,h⟩|⟨h0,h⟩
 ·obtain ⟨x0,h1,h⟩:=Qad h
  obtain ⟨r,h2,h⟩:=Qad h
  rcases Qai h with ⟨h3,h⟩|⟨h3,h⟩
  ·obtain rfl:=(hE _ (oJ h):_=rv)
   exact gr 14 [] [bT h0,cE Qaa.enc h1,cC (Qom h2),bT h3]
  ·exact gn 16 [0,1,7,8] [] [bT h0,cE Qaa.enc h1,cC (Qom h2),bF h3] (hI _ (oJ h))
 ·exact gn 5 [] [] [bF h0] (hE _ (oJ h))
theorem QfF {s0 c} {rv:Int} (h:Qbc s0 c=some rv):AFn Tryz.prog 166 [.one (lL 2 s0 Qaa.enc),.one (.fn (.func 118) [.ip (Qac.enc c) 0])] [] (one (lI rv)) []:=by
 refine QaN Tryz.func166 (by kernel_rfl) (by kernel_rfl) (fun Γ=>?_)
 unfold Qbc at h
 obtain ⟨e0,h4,h⟩:=Qad h
 refine gn 7 [0,1,7,8] [] [nL Qaa.enc s0] (Qft Γ rv h4 ?_)
 rcases e0 with e0|e0
 ·replace h:(some (-1):Option Int)=some _:=h
  obtain rfl:=Option.some.inj h
  exact gr 2 [] []
 ·obtain ⟨r1,rfl⟩:∃ x,x=e0:=⟨_,rfl⟩
  replace h:(some r1:Option Int)=some _:=h
  exact Option.some.inj h
theorem Qbf {s0 c} {rv:Bool} (h:Qa6 s0 c=some rv):AFn Tryz.prog 116 [.one (lL 2 s0 Qaa.enc),.one (.fn (.func 118) [.ip (Qac.enc c) 0])] [] (one (.bool rv)) []:=by
 refine QaN Tryz.func116 (by kernel_rfl) (by kernel_rfl) (fun Γ=>?_)
 unfold Qa6 at h
 obtain ⟨r,h0,h⟩:=Qad h
 obtain rfl:=Option.some.inj h
 exact gr 4 [] [cC (QfF h0)]
def QjJ (Γ:Gam) (rv:Int) (cf:Cf):Prop:=Go Tryz.prog Tryz.f79 [] Γ (one (lI rv)) [] cf
def Qon (Γ:Gam) (rv:Int) (x0:Qac) (r:Qag) (v:Int):Prop:=QjJ Γ rv ⟨[.c 500,.l 500,.b 1,.c 63],⟨65,[vP 2 0 6,vL 5 2 r.visits Qaa.enc,vL 33 2 x0.apart QaC.enc,vI 34 (lenI x0.apart),vI 35 v],[oX 6 30 (Qac.enc x0)]⟩⟩
def Qns (Γ:Gam) (rv:Int) (x0:Qac) (r:Qag):Prop:=QjJ Γ rv ⟨[.c 63],⟨65,[vP 2 0 6,vL 5 2 r.visits Qaa.enc],[oX 6 30 (Qac.enc x0)]⟩⟩
def Qoo (Γ:Gam) (rv:Int) (x0:Qac) (r:Qag) (v1:Int):Prop:=QjJ Γ rv ⟨[.c 1012,.l 1012,.b 3,.c 127],⟨65,[vL 5 2 r.visits Qaa.enc,vL 51 2 x0.before QaC.enc,vI 52 (lenI x0.before),vI 53 v1],[]⟩⟩
def Qnt (Γ:Gam) (rv:Int) (x0:Qac) (r:Qag):Prop:=QjJ Γ rv ⟨[.c 127],⟨65,[],[]⟩⟩
theorem Qsz (Γ:Gam) (rv:Int) {x0 r} {s:Int} {e:(Unit)⊕(Int)} (h:loopF (fun s=>Qdr x0 r s) s=some e) (hD:sel e (fun e=>Qns Γ rv x0 r) (fun e=>e=rv)):Qon Γ rv x0 r s:=by
 refine QaD (C:=fun (s:Int)=>Qon Γ rv x0 r s) (D:=fun (e:(Unit)⊕(Int))=>sel e (fun e=>Qns Γ rv x0 r) (fun e=>e=rv)) ?_ h hD
 clear h hD s e
 intro v z_ h hI hE
 replace h:Qdr x0 r v=_:=h
 unfold Qdr at h
 rcases Qai h with ⟨h9,h⟩|⟨h9,h⟩
 ·obtain ⟨x1,h10,h⟩:=Qad h
  obtain ⟨r5,h11,h⟩:=Qad h
  rcases Qai h with ⟨h12,h⟩|⟨h12,h⟩
  ·obtain ⟨r6,h13,h⟩:=Qad h
   rcases Qai h with ⟨h14,h⟩|⟨h14,h⟩
   ·obtain rfl:=(hE _ (oJ h):_=rv)
    exact gr 14 [] [bT h9,cE QaC.enc h10,oO (zL 0),oO (lT 0 2),cC (Qfb h11),rp 2 (bT h12),oO (zL 1),oO (lT 1 2),rp 2 (bT h12),cC (Qfb h13),bT h12,bT h14]
   ·exact gn 16 [2,5,33,34,35] [0] [bT h9,cE QaC.enc h10,oO (zL 0),oO (lT 0 2),cC (Qfb h11),rp 2 (bT h12),oO (zL 1),oO (lT 1 2),rp 2 (bT h12),cC (Qfb h13),bT h12,bF h14] (hI _ (oJ h))
  ·exact gn 16 [2,5,33,34,35] [0] [bT h9,cE QaC.enc h10,oO (zL 0),oO (lT 0 2),cC (Qfb h11),rp 5 (bF h12),fF] (hI _ (oJ h))
 ·exact gn 5 [2,5] [0] [bF h9] (hE _ (oJ h))
theorem QsA (Γ:Gam) (rv:Int) {x0 r} {s:Int} {e:(Unit)⊕(Int)} (h:loopF (fun s=>QcY x0 r s) s=some e) (hD:sel e (fun e=>Qnt Γ rv x0 r) (fun e=>e=rv)):Qoo Γ rv x0 r s:=by
 refine QaD (C:=fun (s:Int)=>Qoo Γ rv x0 r s) (D:=fun (e:(Unit)⊕(Int))=>sel e (fun e=>Qnt Γ rv x0 r) (fun e=>e=rv)) ?_ h hD
 clear h hD s e
 intro v1 z_ h hI hE
 replace h:QcY x0 r v1=_:=h
 unfold QcY at h
 rcases Qai h with ⟨h16,h⟩|⟨h16,h⟩
 ·obtain ⟨x2,h17,h⟩:=Qad h
  obtain ⟨r7,h18,h⟩:=Qad h
  rcases Qai h with ⟨h19,h⟩|⟨h19,h⟩
  ·exact gn 16 [5,51,52,53] [] [bT h16,cE QaC.enc h17,oO (zL 0),oO (lT 0 2),oO (zL 1),oO (lT 1 2),cC (Qpp h18),nF h19] (hI _ (oJ h))
  ·obtain rfl:=(hE _ (oJ h):_=rv)
   exact gr 14 [] [bT h16,cE QaC.enc h17,oO (zL 0),oO (lT 0 2),oO (zL 1),oO (lT 1 2),cC (Qpp h18),nT h19]
 ·exact gn 5 [] [] [bF h16] (hE _ (oJ h))
theorem QdZ {x0 r} {rv:Int} (h:Qig x0 r=some rv):AFn Tryz.prog 79 [.agg (Qac.enc x0),.agg (Qag.enc r)] [] (one (lI rv)) []:=by
 refine QaN Tryz.func79 (by kernel_rfl) (by kernel_rfl) (fun Γ=>?_)
 unfold Qig at h
 rcases Qai h with ⟨h0,h⟩|⟨h0,h⟩
 ·obtain rfl:=Option.some.inj h
  exact gr 10 [] [nL Qaa.enc r.visits,rp 4 (bT h0),tT]
 ·obtain ⟨r1,h1,h⟩:=Qad h
  rcases Qai h with ⟨h2,h⟩|⟨h2,h⟩
  ·obtain rfl:=Option.some.inj h
   exact gr 10 [] [nL Qaa.enc r.visits,rp 3 (bF h0),cC (Qa2 h1),bF h0,bT h2]
  ·obtain ⟨r2,h3,h⟩:=Qad h
   rcases Qai h with ⟨h4,h⟩|⟨h4,h⟩
   ·obtain rfl:=Option.some.inj h
    exact gr 16 [] [nL Qaa.enc r.visits,rp 3 (bF h0),cC (Qa2 h1),bF h0,bF h2,cC (Qbf h3),bT h4]
   ·obtain ⟨r3,h5,h⟩:=Qad h
    rcases Qai h with ⟨h6,h⟩|⟨h6,h⟩
    ·obtain rfl:=Option.some.inj h
     exact gr 19 [] [nL Qaa.enc r.visits,rp 3 (bF h0),cC (Qa2 h1),bF h0,bF h2,cC (Qbf h3),bF h4,cC (QlM h5),bT h6]
    ·obtain ⟨r4,h7,h⟩:=Qad h
     rcases Qai h with ⟨h8,h⟩|⟨h8,h⟩
     ·obtain ⟨e0,h15,h⟩:=Qad h
      refine gn 27 [2,5,33,34,35] [0] [nL Qaa.enc r.visits,rp 3 (bF h0),cC (Qa2 h1),bF h0,bF h2,cC (Qbf h3),bF h4,cC (QlM h5),bF h6,cC (Qpq h7),nF h8,nL QaC.enc x0.apart] (Qsz Γ rv h15 ?_)
      rcases e0 with e0|e0
      ·replace h:(bnd (loopF (fun s=>QcY x0 r s) 0) (fun e=>sel e (fun (_:Unit)=>some 0) (fun r8=>some r8)):Option Int)=some _:=h
       obtain ⟨e1,h20,h⟩:=Qad h
       refine gn 5 [5,51,52,53] [] [nL QaC.enc x0.before] (QsA Γ rv h20 ?_)
       rcases e1 with e1|e1
       ·replace h:(some 0:Option Int)=some _:=h
        obtain rfl:=Option.some.inj h
        exact gr 2 [] []
       ·obtain ⟨r8,rfl⟩:∃ x,x=e1:=⟨_,rfl⟩
        replace h:(some r8:Option Int)=some _:=h
        exact Option.some.inj h
      ·obtain ⟨r9,rfl⟩:∃ x,x=e0:=⟨_,rfl⟩
       replace h:(some r9:Option Int)=some _:=h
       exact Option.some.inj h
     ·obtain rfl:=Option.some.inj h
      exact gr 22 [] [nL Qaa.enc r.visits,rp 3 (bF h0),cC (Qa2 h1),bF h0,bF h2,cC (Qbf h3),bF h4,cC (QlM h5),bF h6,cC (Qpq h7),nT h8]
theorem Que {t skills} {rv:Bool} (h:QmX t skills=some rv):AFn Tryz.prog 123 [.agg (Qak.enc t),.one (lI skills)] [] (one (.bool rv)) []:=by
 refine QaN Tryz.func123 (by kernel_rfl) (by kernel_rfl) (fun Γ=>?_)
 unfold QmX at h
 obtain rfl:=Option.some.inj h
 exact gr 4 [] [rp 9 hP,oI ((geI t.skills 0)=true),oR True ((geI t.skills 0)=true),rp 4 (oI (((geI t.skills 0)&&(geI skills 0))=true)),oR True (((geI t.skills 0)&&(geI skills 0))=true)]
def Qvk (Γ:Gam) (rv:Int) (cf:Cf):Prop:=Go Tryz.prog Tryz.f80 [] Γ (one (lI rv)) [] cf
def Qsb (Γ:Gam) (rv:Int) (x0:Qac) (r:Qag) (v:Int):Prop:=Qvk Γ rv ⟨[.c 52,.l 52,.b 0,.c 7],⟨30,[vP 2 0 6,vP 3 1 4,vL 8 2 r.visits Qaa.enc,vI 9 (lenI r.visits),vI 10 v],[oX 6 30 (Qac.enc x0),oX 4 37 (Qag.enc r)]⟩⟩
def Qrf (Γ:Gam) (rv:Int) (x0:Qac) (r:Qag):Prop:=Qvk Γ rv ⟨[.c 7],⟨30,[],[]⟩⟩
theorem Qvl (Γ:Gam) (rv:Int) {x0 r} {s:Int} {e:(Unit)⊕(Int)} (h:loopF (fun s=>Qf0 x0 r s) s=some e) (hD:sel e (fun e=>Qrf Γ rv x0 r) (fun e=>e=rv)):Qsb Γ rv x0 r s:=by
 refine QaD (C:=fun (s:Int)=>Qsb Γ rv x0 r s) (D:=fun (e:(Unit)⊕(Int))=>sel e (fun e=>Qrf Γ rv x0 r) (fun e=>e=rv)) ?_ h hD
 clear h hD s e
 intro v z_ h hI hE
 replace h:Qf0 x0 r v=_:=h
 unfold Qf0 at h
 rcases Qai h with ⟨h0,h⟩|⟨h0,h⟩
 ·obtain ⟨x1,h1,h⟩:=Qad h
  obtain ⟨x2,h2,h⟩:=Qad h
  obtain ⟨x3,h3,h⟩:=Qad h
  obtain ⟨r1,h4,h⟩:=Qad h
  rcases Qai h with ⟨h5,h⟩|⟨h5,h⟩
  ·exact gn 16 [2,3,8,9,10] [0,1] [bT h0,cE Qaa.enc h1,hH (.draw 15 []),cE Qak.enc h2,cE Qah.enc h3,cC (Que h4),nF h5] (hI _ (oJ h))
  ·obtain rfl:=(hE _ (oJ h):_=rv)
   exact gr 14 [] [bT h0,cE Qaa.enc h1,hH (.draw 15 []),cE Qak.enc h2,cE Qah.enc h3,cC (Que h4),nT h5]
 ·exact gn 5 [] [] [bF h0] (hE _ (oJ h))
theorem Qoc {x0 r} {rv:Int} (h:Qre x0 r=some rv):AFn Tryz.prog 80 [.agg (Qac.enc x0),.agg (Qag.enc r)] [] (one (lI rv)) []:=by
 refine QaN Tryz.func80 (by kernel_rfl) (by kernel_rfl) (fun Γ=>?_)
 unfold Qre at h
 obtain ⟨e0,h6,h⟩:=Qad h
 refine gn 7 [2,3,8,9,10] [0,1] [nL Qaa.enc r.visits] (Qvl Γ rv h6 ?_)
 rcases e0 with e0|e0
 ·replace h:(some 0:Option Int)=some _:=h
  obtain rfl:=Option.some.inj h
  exact gr 2 [] []
 ·obtain ⟨r2,rfl⟩:∃ x,x=e0:=⟨_,rfl⟩
  replace h:(some r2:Option Int)=some _:=h
  exact Option.some.inj h
theorem QeY {set_ i} {rv:Bool} (h:Qko set_ i=some rv):AFn Tryz.prog 87 [.one (lI set_),.one (lI i)] [] (one (.bool rv)) []:=by
 refine QaN Tryz.func87 (by kernel_rfl) (by kernel_rfl) (fun Γ=>?_)
 unfold Qko at h
 rcases Qai h with ⟨h0,h⟩|⟨h0,h⟩
 ·obtain ⟨h1,h⟩:=Qaw h
  obtain rfl:=Option.some.inj h
  exact gr 4 [] [hP,hP,hP,oI ((geI i 0)=true),oR True ((geI i 0)=true),rp 3 (bT h0),oO (h1),rp 3 (bT h0)]
 ·obtain rfl:=Option.some.inj h
  exact gr 4 [] [hP,hP,hP,oI ((geI i 0)=true),oR True ((geI i 0)=true),rp 6 (bF h0)]
def Qtm (Γ:Gam) (rv:List Int) (cf:Cf):Prop:=Go Tryz.prog Tryz.f54 [] Γ (one (lL 1 rv e_i64)) [] cf
def Qqc (Γ:Gam) (rv:List Int) (set_:Int) (l:List Int) (v:Int):Prop:=Qtm Γ rv ⟨[.c 116,.l 116,.b 0,.c 15],⟨17,[vI 0 set_,vO 3 0 1 l e_i64,vI 5 v],[oS 1 3 l e_i64]⟩⟩
def Qpr (Γ:Gam) (rv:List Int) (set_:Int) (l1:List Int):Prop:=Qtm Γ rv ⟨[.c 15],⟨17,[vO 3 0 1 l1 e_i64],[oS 1 3 l1 e_i64]⟩⟩
theorem QtU (Γ:Gam) (rv:List Int) {set_} {s:List Int×Int} {e:List Int} (h:loopF (fun s=>QdF set_ s.1 s.2) s=some e) (hD:Qpr Γ rv set_ e):Qqc Γ rv set_ s.1 s.2:=by
 refine QaD (C:=fun (s:List Int×Int)=>Qqc Γ rv set_ s.1 s.2) (D:=fun (e:List Int)=>Qpr Γ rv set_ e) ?_ h hD
 clear h hD s e
 rintro ⟨l,v⟩ z_ h hI hE
 replace h:QdF set_ l v=_:=h
 unfold QdF at h
 rcases Qai h with ⟨h0,h⟩|⟨h0,h⟩
 ·obtain ⟨r,h1,h⟩:=Qad h
  rcases Qai h with ⟨h2,h⟩|⟨h2,h⟩
  ·obtain ⟨h3,h⟩:=Qaw h
   exact gn 16 [0,3,5] [2] [bT h0,cC (QeY h1),bT h2,oO (Eq.refl ([v].map e_i64).length),aO e_i64 h3] (hI _ (oJ h))
  ·exact gn 16 [0,3,5] [0] [bT h0,cC (QeY h1),bF h2] (hI _ (oJ h))
 ·exact gn 5 [3] [0] [bF h0] (hE _ (oJ h))
theorem QoD {set_} {rv:List Int} (h:QiT set_=some rv):AFn Tryz.prog 54 [.one (lI set_)] [] (one (lL 1 rv e_i64)) []:=by
 refine QaN Tryz.func54 (by kernel_rfl) (by kernel_rfl) (fun Γ=>?_)
 unfold QiT at h
 obtain ⟨e0,h4,h⟩:=Qad h
 refine gn 9 [0,3,5] [0] [hW 12,hH (.adopt 3 1 3)] (QtU Γ rv h4 ?_)
 obtain ⟨l1,rfl⟩:∃ x,x=e0:=⟨_,rfl⟩
 replace h:(some l1:Option (List Int))=some _:=h
 obtain rfl:=Option.some.inj h
 exact gr 2 [] [hW 4,hH (.frz 0),rp 3 (eL l1 e_i64)]
theorem Qxi {a b} {rv:Int} (h:QsW a b=some rv):AFn Tryz.prog 194 [.one (lI a),.one (lI b)] [] (one (lI rv)) []:=by
 refine QaN Tryz.func194 (by kernel_rfl) (by kernel_rfl) (fun Γ=>?_)
 unfold QsW at h
 obtain rfl:=Option.some.inj h
 exact gr 4 [] []
def QmZ (Γ:Gam) (rv:List Int×Int) (cf:Cf):Prop:=Go Tryz.prog Tryz.f193 [] Γ (.tup [.one (lL 1 rv.1 e_i64),.one (lI rv.2)]) [] cf
def QjR (Γ:Gam) (rv:List Int×Int) (a:List Int) (b:List Int) (l:List Int) (l1:List Int) (v:Int):Prop:=QmZ Γ rv ⟨[.c 244,.l 244,.b 0,.c 31],⟨38,[vL 0 1 a e_i64,vL 1 1 b e_i64,(2,one (.fn (.func 194) [])),vO 8 0 1 l1 e_i64,vI 19 (lenI a),vI 20 v],[oS 1 3 l1 e_i64]⟩⟩
def Qjj (Γ:Gam) (rv:List Int×Int) (a:List Int) (b:List Int) (l:List Int) (l2:List Int):Prop:=QmZ Γ rv ⟨[.c 31],⟨38,[vO 8 0 1 l2 e_i64],[oS 1 3 l2 e_i64]⟩⟩
theorem QpD (Γ:Gam) (rv:List Int×Int) {a b l} {s:List Int×Int} {e:List Int} (h:loopF (fun s=>Qb6 a b l s.1 s.2) s=some e) (hD:Qjj Γ rv a b l e):QjR Γ rv a b l s.1 s.2:=by
 refine QaD (C:=fun (s:List Int×Int)=>QjR Γ rv a b l s.1 s.2) (D:=fun (e:List Int)=>Qjj Γ rv a b l e) ?_ h hD
 clear h hD s e
 rintro ⟨l1,v⟩ z_ h hI hE
 replace h:Qb6 a b l l1 v=_:=h
 unfold Qb6 at h
 rcases Qai h with ⟨h2,h⟩|⟨h2,h⟩
 ·obtain ⟨x0,h3,h⟩:=Qad h
  obtain ⟨x1,h4,h⟩:=Qad h
  obtain ⟨r,h5,h⟩:=Qad h
  obtain ⟨x2,h6,h⟩:=Qad h
  exact gn 13 [0,1,2,8,19,20] [0] [bT h2,hH (.draw 13 []),cE e_i64 h3,cE e_i64 h4,cC (Qxi h5),oO (getLo h6),oO (getHi e_i64 h6),rE e_i64 h6,hH (.rows ((setI l1 v r).map e_i64)),hH (.relen 0 ((setI l1 v r).map e_i64).length),oO (setM e_i64 l1 v r),rp 2 (oO (Qx4 e_i64 l1 v r))] (hI _ (oJ h))
 ·exact gn 5 [8] [0] [bF h2] (hE _ (oJ h))
theorem QrJ {a b} {rv:List Int×Int} (h:Qh4 a b=some rv):AFn Tryz.prog 193 [.one (lL 1 a e_i64),.one (lL 1 b e_i64),.one (.fn (.func 194) [])] [] (.tup [.one (lL 1 rv.1 e_i64),.one (lI rv.2)]) []:=by
 refine QaN Tryz.func193 (by kernel_rfl) (by kernel_rfl) (fun Γ=>?_)
 unfold Qh4 at h
 rcases Qai h with ⟨h0,h⟩|⟨h0,h⟩
 ·obtain rfl:=Option.some.inj h
  exact gr 8 [] [nL e_i64 a,nL e_i64 b,bT h0,hW 4,hH (.nilS 6 0 1)]
 ·obtain ⟨l,h1,h⟩:=Qad h
  obtain ⟨e0,h7,h⟩:=Qad h
  refine gn 14 [0,1,2,8,19,20] [0] [nL e_i64 a,nL e_i64 b,bF h0,nL e_i64 a,hH (.cells [lI 0]),hH (.rows (l.map e_i64)),oO (mk1 h1),oO (mk2 h1),oO (mk3 h1),oO (mk4 h1),oO (mk5 e_i64 h1),nL e_i64 a] (QpD Γ rv h7 ?_)
  obtain ⟨l2,rfl⟩:∃ x,x=e0:=⟨_,rfl⟩
  replace h:(some (l2,0):Option (List Int×Int))=some _:=h
  obtain rfl:=Option.some.inj h
  exact gr 2 [] [hW 5,hH (.frz 0),rp 3 (eL l2 e_i64)]
theorem Qsl {a b} {rv:List Int×Int} (h:Qru a b=some rv):AFn Tryz.prog 173 [.one (lL 1 a e_i64),.one (lL 1 b e_i64)] [] (.tup [.one (lL 1 rv.1 e_i64),.one (lI rv.2)]) []:=by
 refine QaN Tryz.func173 (by kernel_rfl) (by kernel_rfl) (fun Γ=>?_)
 unfold Qru at h
 obtain ⟨r,h0,h⟩:=Qad h
 obtain rfl:=Option.some.inj h
 exact gr 4 [] [cC (QrJ h0)]
def Qt9 (Γ:Gam) (rv:List Int) (cf:Cf):Prop:=Go Tryz.prog Tryz.f171 [] Γ (one (lL 1 rv e_i64)) [] cf
def Qqy (Γ:Gam) (rv:List Int) (x0:Qac) (l:List Int) (r:List Int) (sum:List Int) (v:Int):Prop:=Qt9 Γ rv ⟨[.c 116,.l 116,.b 0,.c 15],⟨40,[vP 3 0 6,vL 7 1 sum e_i64,vL 13 1 r e_i64,vI 14 (lenI r),vI 15 v],[oX 6 30 (Qac.enc x0)]⟩⟩
def QpP (Γ:Gam) (rv:List Int) (x0:Qac) (l:List Int) (r:List Int) (sum1:List Int):Prop:=Qt9 Γ rv ⟨[.c 15],⟨40,[vL 7 1 sum1 e_i64],[]⟩⟩
theorem Qum (Γ:Gam) (rv:List Int) {x0 l r} {s:List Int×Int} {e:List Int} (h:loopF (fun s=>Qen x0 l r s.1 s.2) s=some e) (hD:QpP Γ rv x0 l r e):Qqy Γ rv x0 l r s.1 s.2:=by
 refine QaD (C:=fun (s:List Int×Int)=>Qqy Γ rv x0 l r s.1 s.2) (D:=fun (e:List Int)=>QpP Γ rv x0 l r e) ?_ h hD
 clear h hD s e
 rintro ⟨sum,v⟩ z_ h hI hE
 replace h:Qen x0 l r sum v=_:=h
 unfold Qen at h
 rcases Qai h with ⟨h2,h⟩|⟨h2,h⟩
 ·obtain ⟨x1,h3,h⟩:=Qad h
  obtain ⟨x2,h4,h⟩:=Qad h
  rcases Qai h with ⟨h5,h⟩|⟨h5,h⟩
  ·obtain ⟨r1,h6,h⟩:=Qad h
   exact gn 16 [3,7,13,14,15] [0] [bT h2,cE e_i64 h3,cE Qah.enc h4,bT h5,cE Qah.enc h4,cC (Qsl h6)] (hI _ (oJ h))
  ·exact gn 16 [3,7,13,14,15] [0] [bT h2,cE e_i64 h3,cE Qah.enc h4,bF h5] (hI _ (oJ h))
 ·exact gn 5 [7] [] [bF h2] (hE _ (oJ h))
theorem Qwm {x0 set_ dims} {rv:List Int} (h:QoH x0 set_ dims=some rv):AFn Tryz.prog 171 [.agg (Qac.enc x0),.one (lI set_),.one (lI dims)] [] (one (lL 1 rv e_i64)) []:=by
 refine QaN Tryz.func171 (by kernel_rfl) (by kernel_rfl) (fun Γ=>?_)
 unfold QoH at h
 obtain ⟨l,h0,h⟩:=Qad h
 obtain ⟨r,h1,h⟩:=Qad h
 obtain ⟨e0,h7,h⟩:=Qad h
 refine gn 9 [3,7,13,14,15] [0] [hH (.cells [lI 0]),hH (.rows (l.map e_i64)),oO (mk1 h0),oO (mk2 h0),oO (mk3 h0),oO (mk4 h0),oO (mk5 e_i64 h0),cC (QoD h1),nL e_i64 r,hW 3,hH (.frz 1),rp 2 (eL l e_i64)] (Qum Γ rv h7 ?_)
 obtain ⟨sum1,rfl⟩:∃ x,x=e0:=⟨_,rfl⟩
 replace h:(some sum1:Option (List Int))=some _:=h
 obtain rfl:=Option.some.inj h
 exact gr 2 [] []
theorem Qxb {l} {rv:Int} (h:QqE l=some rv):AFn Tryz.prog 172 [.one (lL 14 l Qak.enc)] [] (one (lI rv)) []:=by
 refine QaN Tryz.func172 (by kernel_rfl) (by kernel_rfl) (fun Γ=>?_)
 unfold QqE at h
 rcases Qai h with ⟨h0,h⟩|⟨h0,h⟩
 ·obtain rfl:=Option.some.inj h
  exact gr 8 [] [nL Qak.enc l,bT h0]
 ·obtain ⟨x0,h1,h⟩:=Qad h
  obtain rfl:=Option.some.inj h
  exact gr 9 [] [nL Qak.enc l,bF h0,cE Qak.enc h1,nL e_i64 x0.cap]
theorem Qwx {a b} {rv:Int} (h:Qrv a b=some rv):AFn Tryz.prog 195 [.one (lI a),.one (lI b)] [] (one (lI rv)) []:=by
 refine QaN Tryz.func195 (by kernel_rfl) (by kernel_rfl) (fun Γ=>?_)
 unfold Qrv at h
 obtain rfl:=Option.some.inj h
 exact gr 4 [] []
def QlX (Γ:Gam) (rv:List Int×Int) (cf:Cf):Prop:=Go Tryz.prog Tryz.f193 [] Γ (.tup [.one (lL 1 rv.1 e_i64),.one (lI rv.2)]) [] cf
def Qji (Γ:Gam) (rv:List Int×Int) (a:List Int) (b:List Int) (l:List Int) (l1:List Int) (v:Int):Prop:=QlX Γ rv ⟨[.c 244,.l 244,.b 0,.c 31],⟨38,[vL 0 1 a e_i64,vL 1 1 b e_i64,(2,one (.fn (.func 195) [])),vO 8 0 1 l1 e_i64,vI 19 (lenI a),vI 20 v],[oS 1 3 l1 e_i64]⟩⟩
def QiZ (Γ:Gam) (rv:List Int×Int) (a:List Int) (b:List Int) (l:List Int) (l2:List Int):Prop:=QlX Γ rv ⟨[.c 31],⟨38,[vO 8 0 1 l2 e_i64],[oS 1 3 l2 e_i64]⟩⟩
theorem QoN (Γ:Gam) (rv:List Int×Int) {a b l} {s:List Int×Int} {e:List Int} (h:loopF (fun s=>QbR a b l s.1 s.2) s=some e) (hD:QiZ Γ rv a b l e):Qji Γ rv a b l s.1 s.2:=by
 refine QaD (C:=fun (s:List Int×Int)=>Qji Γ rv a b l s.1 s.2) (D:=fun (e:List Int)=>QiZ Γ rv a b l e) ?_ h hD
 clear h hD s e
 rintro ⟨l1,v⟩ z_ h hI hE
 replace h:QbR a b l l1 v=_:=h
 unfold QbR at h
 rcases Qai h with ⟨h2,h⟩|⟨h2,h⟩
 ·obtain ⟨x0,h3,h⟩:=Qad h
  obtain ⟨x1,h4,h⟩:=Qad h
  obtain ⟨r,h5,h⟩:=Qad h
  obtain ⟨x2,h6,h⟩:=Qad h
  exact gn 13 [0,1,2,8,19,20] [0] [bT h2,hH (.draw 13 []),cE e_i64 h3,cE e_i64 h4,cC (Qwx h5),oO (getLo h6),oO (getHi e_i64 h6),rE e_i64 h6,hH (.rows ((setI l1 v r).map e_i64)),hH (.relen 0 ((setI l1 v r).map e_i64).length),oO (setM e_i64 l1 v r),rp 2 (oO (Qx4 e_i64 l1 v r))] (hI _ (oJ h))
 ·exact gn 5 [8] [0] [bF h2] (hE _ (oJ h))
theorem QqJ {a b} {rv:List Int×Int} (h:Qhr a b=some rv):AFn Tryz.prog 193 [.one (lL 1 a e_i64),.one (lL 1 b e_i64),.one (.fn (.func 195) [])] [] (.tup [.one (lL 1 rv.1 e_i64),.one (lI rv.2)]) []:=by
 refine QaN Tryz.func193 (by kernel_rfl) (by kernel_rfl) (fun Γ=>?_)
 unfold Qhr at h
 rcases Qai h with ⟨h0,h⟩|⟨h0,h⟩
 ·obtain rfl:=Option.some.inj h
  exact gr 8 [] [nL e_i64 a,nL e_i64 b,bT h0,hW 4,hH (.nilS 6 0 1)]
 ·obtain ⟨l,h1,h⟩:=Qad h
  obtain ⟨e0,h7,h⟩:=Qad h
  refine gn 14 [0,1,2,8,19,20] [0] [nL e_i64 a,nL e_i64 b,bF h0,nL e_i64 a,hH (.cells [lI 0]),hH (.rows (l.map e_i64)),oO (mk1 h1),oO (mk2 h1),oO (mk3 h1),oO (mk4 h1),oO (mk5 e_i64 h1),nL e_i64 a] (QoN Γ rv h7 ?_)
  obtain ⟨l2,rfl⟩:∃ x,x=e0:=⟨_,rfl⟩
  replace h:(some (l2,0):Option (List Int×Int))=some _:=h
  obtain rfl:=Option.some.inj h
  exact gr 2 [] [hW 5,hH (.frz 0),rp 3 (eL l2 e_i64)]
theorem Qu5 {a b} {rv:List Int×Int} (h:QsV a b=some rv):AFn Tryz.prog 174 [.one (lL 1 a e_i64),.one (lL 1 b e_i64)] [] (.tup [.one (lL 1 rv.1 e_i64),.one (lI rv.2)]) []:=by
 refine QaN Tryz.func174 (by kernel_rfl) (by kernel_rfl) (fun Γ=>?_)
 unfold QsV at h
 obtain ⟨r,h0,h⟩:=Qad h
 obtain rfl:=Option.some.inj h
 exact gr 4 [] [cC (QqJ h0)]
def Qt8 (Γ:Gam) (rv:List (List Int)×Int) (cf:Cf):Prop:=Go Tryz.prog Tryz.f124 [] Γ (.tup [.one (lL 1 rv.1 Qbi),.one (lI rv.2)]) [] cf
def Qqx (Γ:Gam) (rv:List (List Int)×Int) (x0:Qac) (r:Qag) (l:List (List Int)) (now:List Int) (v:Int):Prop:=Qt8 Γ rv ⟨[.c 2036,.l 2036,.b 0,.c 255],⟨67,[vP 2 0 6,vL 9 1 now e_i64,vO 10 1 1 l Qbi,vL 37 2 r.visits Qaa.enc,vI 38 (lenI r.visits),vI 39 v],[oX 6 30 (Qac.enc x0),oS 1 90 l Qbi]⟩⟩
def QpO (Γ:Gam) (rv:List (List Int)×Int) (x0:Qac) (r:Qag) (l1:List (List Int)):Prop:=Qt8 Γ rv ⟨[.c 255],⟨67,[vO 10 0 1 l1 Qbi],[oS 1 90 l1 Qbi]⟩⟩
theorem Qul (Γ:Gam) (rv:List (List Int)×Int) {x0 r} {s:List (List Int)×List Int×Int} {e:(List (List Int))⊕(List (List Int)×Int)} (h:loopF (fun s=>Qem x0 r s.1 s.2.1 s.2.2) s=some e) (hD:sel e (fun e=>QpO Γ rv x0 r e) (fun e=>e=rv)):Qqx Γ rv x0 r s.1 s.2.1 s.2.2:=by
 refine QaD (C:=fun (s:List (List Int)×List Int×Int)=>Qqx Γ rv x0 r s.1 s.2.1 s.2.2) (D:=fun (e:(List (List Int))⊕(List (List Int)×Int))=>sel e (fun e=>QpO Γ rv x0 r e) (fun e=>e=rv)) ?_ h hD
 clear h hD s e
 rintro ⟨l,now,v⟩ z_ h hI hE
 replace h:Qem x0 r l now v=_:=h
 unfold Qem at h
 rcases Qai h with ⟨h6,h⟩|⟨h6,h⟩
 ·obtain ⟨x1,h7,h⟩:=Qad h
  rcases Qai h with ⟨h8,h⟩|⟨h8,h⟩
  ·obtain ⟨x2,h9,h⟩:=Qad h
   obtain ⟨r5,h10,h⟩:=Qad h
   rcases Qai h with ⟨h11,h⟩|⟨h11,h⟩
   ·obtain rfl:=(hE _ (oJ h):_=rv)
    exact gr 24 [] [bT h6,cE Qaa.enc h7,bT h8,cE Qah.enc h9,cC (Qu5 h10),bT h11,hW 5,hH (.nilS 4 0 1)]
   ·obtain ⟨h12,h⟩:=Qaw h
    exact gn 27 [2,9,10,37,38,39] [0,4] [bT h6,cE Qaa.enc h7,bT h8,cE Qah.enc h9,cC (Qu5 h10),bF h11,oO (Eq.refl ([r5.1].map Qbi).length),aO Qbi h12] (hI _ (oJ h))
  ·obtain ⟨x3,h13,h⟩:=Qad h
   obtain ⟨r6,h14,h⟩:=Qad h
   rcases Qai h with ⟨h15,h⟩|⟨h15,h⟩
   ·obtain rfl:=(hE _ (oJ h):_=rv)
    exact gr 24 [] [bT h6,cE Qaa.enc h7,bF h8,cE Qah.enc h13,cC (Qsl h14),bT h15,hW 5,hH (.nilS 4 0 1)]
   ·obtain ⟨h16,h⟩:=Qaw h
    exact gn 27 [2,9,10,37,38,39] [0,4] [bT h6,cE Qaa.enc h7,bF h8,cE Qah.enc h13,cC (Qsl h14),bF h15,oO (Eq.refl ([r6.1].map Qbi).length),aO Qbi h16] (hI _ (oJ h))
 ·exact gn 5 [10] [1] [bF h6] (hE _ (oJ h))
theorem Qpy {x0 r} {rv:List (List Int)×Int} (h:QoG x0 r=some rv):AFn Tryz.prog 124 [.agg (Qac.enc x0),.agg (Qag.enc r)] [] (.tup [.one (lL 1 rv.1 Qbi),.one (lI rv.2)]) []:=by
 refine QaN Tryz.func124 (by kernel_rfl) (by kernel_rfl) (fun Γ=>?_)
 unfold QoG at h
 obtain ⟨r1,h0,h⟩:=Qad h
 rcases Qai h with ⟨h1,h⟩|⟨h1,h⟩
 ·obtain rfl:=Option.some.inj h
  exact gr 10 [] [cC (QdZ h0),bT h1,hW 5,hH (.nilS 4 0 1)]
 ·obtain ⟨r2,h2,h⟩:=Qad h
  rcases Qai h with ⟨h3,h⟩|⟨h3,h⟩
  ·obtain rfl:=Option.some.inj h
   exact gr 17 [] [cC (QdZ h0),bF h1,cC (Qpo h2),bT h3,hW 5,hH (.nilS 4 0 1)]
  ·obtain ⟨r3,h4,h⟩:=Qad h
   obtain ⟨r4,h5,h⟩:=Qad h
   obtain ⟨e0,h17,h⟩:=Qad h
   refine gn 25 [2,9,10,37,38,39] [0,2] [cC (QdZ h0),bF h1,cC (Qpo h2),bF h3,hH (.draw 7 []),cC (Qxb h4),cC (Qwm h5),nL Qaa.enc r.visits] (Qul Γ rv h17 ?_)
   rcases e0 with e0|e0
   ·obtain ⟨l1,rfl⟩:∃ x,x=e0:=⟨_,rfl⟩
    replace h:(some (l1,0):Option (List (List Int)×Int))=some _:=h
    obtain rfl:=Option.some.inj h
    exact gr 2 [] [hW 5,hH (.frz 0),rp 3 (eL l1 Qbi)]
   ·obtain ⟨r7,rfl⟩:∃ x,x=e0:=⟨_,rfl⟩
    replace h:(some r7:Option (List (List Int)×Int))=some _:=h
    exact Option.some.inj h
def Qu3 (Γ:Gam) (rv:Bool) (cf:Cf):Prop:=Go Tryz.prog Tryz.f127 [] Γ (one (.bool rv)) [] cf
def Qr9 (Γ:Gam) (rv:Bool) (a:List Int) (capacity:List Int) (v:Int):Prop:=Qu3 Γ rv ⟨[.c 116,.l 116,.b 0,.c 15],⟨26,[vL 1 1 capacity e_i64,vL 12 1 a e_i64,vI 13 (lenI a),vI 14 v],[]⟩⟩
def QqI (Γ:Gam) (rv:Bool) (a:List Int) (capacity:List Int):Prop:=Qu3 Γ rv ⟨[.c 15],⟨26,[],[]⟩⟩
theorem Qu4 (Γ:Gam) (rv:Bool) {a capacity} {s:Int} {e:(Unit)⊕(Bool)} (h:loopF (fun s=>QfL a capacity s) s=some e) (hD:sel e (fun e=>QqI Γ rv a capacity) (fun e=>e=rv)):Qr9 Γ rv a capacity s:=by
 refine QaD (C:=fun (s:Int)=>Qr9 Γ rv a capacity s) (D:=fun (e:(Unit)⊕(Bool))=>sel e (fun e=>QqI Γ rv a capacity) (fun e=>e=rv)) ?_ h hD
 clear h hD s e
 intro v z_ h hI hE
 replace h:QfL a capacity v=_:=h
 unfold QfL at h
 rcases Qai h with ⟨h1,h⟩|⟨h1,h⟩
 ·obtain ⟨x0,h2,h⟩:=Qad h
  obtain ⟨x1,h3,h⟩:=Qad h
  rcases Qai h with ⟨h4,h⟩|⟨h4,h⟩
  ·obtain rfl:=(hE _ (oJ h):_=rv)
   exact gr 14 [] [bT h1,cE e_i64 h2,cE e_i64 h3,bT h4]
  ·exact gn 16 [1,12,13,14] [] [bT h1,cE e_i64 h2,cE e_i64 h3,bF h4] (hI _ (oJ h))
 ·exact gn 5 [] [] [bF h1] (hE _ (oJ h))
theorem Qxh {a capacity} {rv:Bool} (h:QqH a capacity=some rv):AFn Tryz.prog 127 [.one (lL 1 a e_i64),.one (lL 1 capacity e_i64)] [] (one (.bool rv)) []:=by
 refine QaN Tryz.func127 (by kernel_rfl) (by kernel_rfl) (fun Γ=>?_)
 unfold QqH at h
 rcases Qai h with ⟨h0,h⟩|⟨h0,h⟩
 ·obtain rfl:=Option.some.inj h
  exact gr 8 [] [nL e_i64 a,nL e_i64 capacity,bT h0]
 ·obtain ⟨e0,h5,h⟩:=Qad h
  refine gn 12 [1,12,13,14] [] [nL e_i64 a,nL e_i64 capacity,bF h0,nL e_i64 a] (Qu4 Γ rv h5 ?_)
  rcases e0 with e0|e0
  ·replace h:(some true:Option Bool)=some _:=h
   obtain rfl:=Option.some.inj h
   exact gr 2 [] []
  ·obtain ⟨r,rfl⟩:∃ x,x=e0:=⟨_,rfl⟩
   replace h:(some r:Option Bool)=some _:=h
   exact Option.some.inj h
theorem Qr5 {a c c1} {rv:Bool} (h:Qpx a c c1=some rv):AFn Tryz.prog 126 [.one (lL 1 a e_i64),.one (.ip (Qac.enc c) 0),.one (.ip (Qag.enc c1) 0)] [] (one (.bool rv)) []:=by
 refine QaN Tryz.func126 (by kernel_rfl) (by kernel_rfl) (fun Γ=>?_)
 unfold Qpx at h
 obtain ⟨x0,h0,h⟩:=Qad h
 obtain ⟨r,h1,h⟩:=Qad h
 obtain rfl:=Option.some.inj h
 exact gr 4 [] [cE Qak.enc h0,cC (Qxh h1)]
def QeC (Γ:Gam) (rv:Int) (cf:Cf):Prop:=Go Tryz.prog Tryz.f175 [] Γ (one (lI rv)) [] cf
def Qd1 (Γ:Gam) (rv:Int) (s0:List (List Int)) (c:Qac) (c1:Qag) (v:Int):Prop:=QeC Γ rv ⟨[.c 52,.l 52,.b 0,.c 7],⟨19,[vL 0 1 s0 Qbi,(1,one (.fn (.func 126) [.ip (Qac.enc c) 0,.ip (Qag.enc c1) 0])),vI 7 (lenI s0),vI 8 v],[]⟩⟩
def QdP (Γ:Gam) (rv:Int) (s0:List (List Int)) (c:Qac) (c1:Qag):Prop:=QeC Γ rv ⟨[.c 7],⟨19,[],[]⟩⟩
theorem QgX (Γ:Gam) (rv:Int) {s0 c c1} {s:Int} {e:(Unit)⊕(Int)} (h:loopF (fun s=>QaO s0 c c1 s) s=some e) (hD:sel e (fun e=>QdP Γ rv s0 c c1) (fun e=>e=rv)):Qd1 Γ rv s0 c c1 s:=by
 refine QaD (C:=fun (s:Int)=>Qd1 Γ rv s0 c c1 s) (D:=fun (e:(Unit)⊕(Int))=>sel e (fun e=>QdP Γ rv s0 c c1) (fun e=>e=rv)) ?_ h hD
 clear h hD s e
 intro v z_ h hI hE
 replace h:QaO s0 c c1 v=_:=h
 unfold QaO at h
 rcases Qai h with ⟨h0,h⟩|⟨h0,h⟩
 ·obtain ⟨x0,h1,h⟩:=Qad h
  obtain ⟨r,h2,h⟩:=Qad h
  rcases Qai h with ⟨h3,h⟩|⟨h3,h⟩
  ·obtain rfl:=(hE _ (oJ h):_=rv)
   exact gr 14 [] [bT h0,cE Qbi h1,cC (Qr5 h2),bT h3]
  ·exact gn 16 [0,1,7,8] [] [bT h0,cE Qbi h1,cC (Qr5 h2),bF h3] (hI _ (oJ h))
 ·exact gn 5 [] [] [bF h0] (hE _ (oJ h))
theorem QhE {s0 c c1} {rv:Int} (h:QbE s0 c c1=some rv):AFn Tryz.prog 175 [.one (lL 1 s0 Qbi),.one (.fn (.func 126) [.ip (Qac.enc c) 0,.ip (Qag.enc c1) 0])] [] (one (lI rv)) []:=by
 refine QaN Tryz.func175 (by kernel_rfl) (by kernel_rfl) (fun Γ=>?_)
 unfold QbE at h
 obtain ⟨e0,h4,h⟩:=Qad h
 refine gn 7 [0,1,7,8] [] [nL Qbi s0] (QgX Γ rv h4 ?_)
 rcases e0 with e0|e0
 ·replace h:(some (-1):Option Int)=some _:=h
  obtain rfl:=Option.some.inj h
  exact gr 2 [] []
 ·obtain ⟨r1,rfl⟩:∃ x,x=e0:=⟨_,rfl⟩
  replace h:(some r1:Option Int)=some _:=h
  exact Option.some.inj h
theorem QdO {s0 c c1} {rv:Bool} (h:QbO s0 c c1=some rv):AFn Tryz.prog 125 [.one (lL 1 s0 Qbi),.one (.fn (.func 126) [.ip (Qac.enc c) 0,.ip (Qag.enc c1) 0])] [] (one (.bool rv)) []:=by
 refine QaN Tryz.func125 (by kernel_rfl) (by kernel_rfl) (fun Γ=>?_)
 unfold QbO at h
 obtain ⟨r,h0,h⟩:=Qad h
 obtain rfl:=Option.some.inj h
 exact gr 4 [] [cC (QhE h0)]
theorem Qqw {x0 r} {rv:Int} (h:Qqv x0 r=some rv):AFn Tryz.prog 81 [.agg (Qac.enc x0),.agg (Qag.enc r)] [] (one (lI rv)) []:=by
 refine QaN Tryz.func81 (by kernel_rfl) (by kernel_rfl) (fun Γ=>?_)
 unfold Qqv at h
 rcases Qai h with ⟨h0,h⟩|⟨h0,h⟩
 ·obtain rfl:=Option.some.inj h
  exact gr 8 [] [rp 5 hP,rp 3 (oI ((ltI r.type_ 0)=false)),nL Qak.enc x0.types,hP,hP,rp 2 (oI ((ltI r.type_ 0)=false)),oR True ((ltI r.type_ 0)=false),bT h0]
 ·obtain ⟨r1,h1,h⟩:=Qad h
  rcases Qai h with ⟨h2,h⟩|⟨h2,h⟩
  ·obtain rfl:=Option.some.inj h
   exact gr 15 [] [rp 5 hP,rp 3 (oI ((ltI r.type_ 0)=false)),nL Qak.enc x0.types,hP,hP,rp 2 (oI ((ltI r.type_ 0)=false)),oR True ((ltI r.type_ 0)=false),bF h0,cC (Qpy h1),bT h2]
  ·obtain ⟨r2,h3,h⟩:=Qad h
   rcases Qai h with ⟨h4,h⟩|⟨h4,h⟩
   ·obtain rfl:=Option.some.inj h
    exact gr 20 [] [rp 5 hP,rp 3 (oI ((ltI r.type_ 0)=false)),nL Qak.enc x0.types,hP,hP,rp 2 (oI ((ltI r.type_ 0)=false)),oR True ((ltI r.type_ 0)=false),bF h0,cC (Qpy h1),bF h2,cC (QdO h3),bT h4]
   ·obtain rfl:=Option.some.inj h
    exact gr 21 [] [rp 5 hP,rp 3 (oI ((ltI r.type_ 0)=false)),nL Qak.enc x0.types,hP,hP,rp 2 (oI ((ltI r.type_ 0)=false)),oR True ((ltI r.type_ 0)=false),bF h0,cC (Qpy h1),bF h2,cC (QdO h3),bF h4]
def Qx8 (Γ:Gam) (rv:Qau×Int) (cf:Cf):Prop:=Go Tryz.prog Tryz.f91 [] Γ (.tup [.agg [lI rv.1.place,lI rv.1.open_,lI rv.1.close,lI rv.1.service],.one (lI rv.2)]) [] cf
theorem Qra (Γ:Gam) (rv:Qau×Int) {x1} (h:Qlu x1=some rv):Qx8 Γ rv ⟨[.c 31],⟨32,[vP 4 0 4,vP 6 1 4],[oX 4 122 [lI 0,lI 0,lI 0,lI 0],oX 4 122 (Qau.enc x1)]⟩⟩:=by
 unfold Qlu at h
 rcases Qai h with ⟨h4,h⟩|⟨h4,h⟩
 ·obtain rfl:=Option.some.inj h
  exact gr 6 [] [bT h4]
 ·obtain rfl:=Option.some.inj h
  exact gr 7 [] [bF h4]
theorem Qlv {l v} {rv:Qau×Int} (h:Qpb l v=some rv):AFn Tryz.prog 91 [.one (lL 16 l Qah.enc),.agg (Qaa.enc v)] [] (.tup [.agg [lI rv.1.place,lI rv.1.open_,lI rv.1.close,lI rv.1.service],.one (lI rv.2)]) []:=by
 refine QaN Tryz.func91 (by kernel_rfl) (by kernel_rfl) (fun Γ=>?_)
 unfold Qpb at h
 obtain ⟨r,h0,h⟩:=Qad h
 rcases Qai h with ⟨h1,h⟩|⟨h1,h⟩
 ·obtain ⟨x0,h2,h⟩:=Qad h
  rcases Qai h with ⟨h3,h⟩|⟨h3,h⟩
  ·exact gn 14 [4,6] [1,2] [cC (Qie h0),nF h1,cE Qah.enc h2,bT h3,cE Qah.enc h2] (Qra Γ rv h)
  ·exact gn 14 [4,6] [1,2] [cC (Qie h0),nF h1,cE Qah.enc h2,bF h3] (Qra Γ rv h)
 ·obtain rfl:=Option.some.inj h
  exact gr 8 [] [cC (Qie h0),nT h1]
def QuS (Γ:Gam) (rv:Qay×Bool) (cf:Cf):Prop:=Go Tryz.prog Tryz.f128 [] Γ (.tup [.agg [lL 1 rv.1.x.net.places e_str,lL 6 rv.1.x.net.arcs Qas.enc,lL 14 rv.1.x.types Qak.enc,lL 16 rv.1.x.orders Qah.enc,lL 2 rv.1.x.apart QaC.enc,lL 2 rv.1.x.before QaC.enc,.str rv.1.t.name,lI rv.1.t.count,lI rv.1.t.from_,lI rv.1.t.to_,lL 1 rv.1.t.cap e_i64,lI rv.1.t.skills,lI rv.1.t.profile,lI rv.1.t.open_,lI rv.1.t.close,lI rv.1.t.drive,lI rv.1.t.rest_,lI rv.1.t.fixed,lI rv.1.t.perMile,lI rv.1.t.perTick,lI rv.1.r.type_,lI rv.1.r.start,lL 1 rv.1.r.rests QaY,lL 2 rv.1.r.visits Qaa.enc,lL 4 rv.1.stops Qau.enc],.one (.bool rv.2)]) [] cf
def Qr8 (Γ:Gam) (rv:Qay×Bool) (x0:Qac) (r:Qag) (x1:Qak) (l:List Qau) (v:Int):Prop:=QuS Γ rv ⟨[.c 244,.l 244,.b 0,.c 31],⟨78,[vP 2 0 6,vP 4 1 25,vP 6 2 25,vL 49 2 r.visits Qaa.enc,vI 50 (lenI r.visits),vI 51 v],[oX 6 30 (Qac.enc x0),oX 25 173 [.nils,.nils,.nils,.nils,.nils,.nils,.str ByteArray.empty,lI 0,lI 0,lI 0,.nils,lI 0,lI 0,lI 0,lI 0,lI 0,lI 0,lI 0,lI 0,lI 0,lI 0,lI 0,.nils,.nils,.nils],oX 25 173 [lL 1 x0.net.places e_str,lL 6 x0.net.arcs Qas.enc,lL 14 x0.types Qak.enc,lL 16 x0.orders Qah.enc,lL 2 x0.apart QaC.enc,lL 2 x0.before QaC.enc,.str x1.name,lI x1.count,lI x1.from_,lI x1.to_,lL 1 x1.cap e_i64,lI x1.skills,lI x1.profile,lI x1.open_,lI x1.close,lI x1.drive,lI x1.rest_,lI x1.fixed,lI x1.perMile,lI x1.perTick,lI r.type_,lI r.start,lL 1 r.rests QaY,lL 2 r.visits Qaa.enc,lO 3 4 l Qau.enc],oS 4 122 l Qau.enc]⟩⟩
def QqC (Γ:Gam) (rv:Qay×Bool) (x0:Qac) (r:Qag) (x1:Qak) (l1:List Qau):Prop:=QuS Γ rv ⟨[.c 31],⟨78,[vP 4 0 25,vP 6 1 25],[oX 25 173 [.nils,.nils,.nils,.nils,.nils,.nils,.str ByteArray.empty,lI 0,lI 0,lI 0,.nils,lI 0,lI 0,lI 0,lI 0,lI 0,lI 0,lI 0,lI 0,lI 0,lI 0,lI 0,.nils,.nils,.nils],oX 25 173 [lL 1 x0.net.places e_str,lL 6 x0.net.arcs Qas.enc,lL 14 x0.types Qak.enc,lL 16 x0.orders Qah.enc,lL 2 x0.apart QaC.enc,lL 2 x0.before QaC.enc,.str x1.name,lI x1.count,lI x1.from_,lI x1.to_,lL 1 x1.cap e_i64,lI x1.skills,lI x1.profile,lI x1.open_,lI x1.close,lI x1.drive,lI x1.rest_,lI x1.fixed,lI x1.perMile,lI x1.perTick,lI r.type_,lI r.start,lL 1 r.rests QaY,lL 2 r.visits Qaa.enc,lO 2 4 l1 Qau.enc],oS 4 122 l1 Qau.enc]⟩⟩
theorem QuT (Γ:Gam) (rv:Qay×Bool) {x0 r x1} {s:List Qau×Int} {e:(List Qau)⊕(Qay×Bool)} (h:loopF (fun s=>QiX x0 r x1 s.1 s.2) s=some e) (hD:sel e (fun e=>QqC Γ rv x0 r x1 e) (fun e=>e=rv)):Qr8 Γ rv x0 r x1 s.1 s.2:=by
 refine QaD (C:=fun (s:List Qau×Int)=>Qr8 Γ rv x0 r x1 s.1 s.2) (D:=fun (e:(List Qau)⊕(Qay×Bool))=>sel e (fun e=>QqC Γ rv x0 r x1 e) (fun e=>e=rv)) ?_ h hD
 clear h hD s e
 rintro ⟨l,v⟩ z_ h hI hE
 replace h:QiX x0 r x1 l v=_:=h
 unfold QiX at h
 rcases Qai h with ⟨h2,h⟩|⟨h2,h⟩
 ·obtain ⟨x2,h3,h⟩:=Qad h
  obtain ⟨r1,h4,h⟩:=Qad h
  rcases Qai h with ⟨h5,h⟩|⟨h5,h⟩
  ·obtain rfl:=(hE _ (oJ h):_=rv)
   exact gr 17 [] [bT h2,cE Qaa.enc h3,cC (Qlv h4),rp 4 hP,rp 2 (oI ((neI r1.2 0)=false)),oR True ((neI r1.2 0)=false),bT h5,hW 5,hH (.nilB 1 0 1),hH (.nilB 1 1 6),hH (.nilB 1 2 14),hH (.nilB 1 3 16),hH (.nilB 1 4 2),hH (.nilB 1 5 2),hH (.nilB 1 10 1),hH (.nilB 1 22 1),hH (.nilB 1 23 2),hH (.nilB 1 24 4)]
  ·obtain ⟨h6,h⟩:=Qaw h
   exact gn 20 [2,4,6,49,50,51] [0,1,2,7] [bT h2,cE Qaa.enc h3,cC (Qlv h4),rp 4 hP,rp 2 (oI ((neI r1.2 0)=false)),oR True ((neI r1.2 0)=false),bF h5,oO (Eq.refl ([r1.1].map Qau.enc).length),aO Qau.enc h6] (hI _ (oJ h))
 ·exact gn 5 [4,6] [1,2,3] [bF h2] (hE _ (oJ h))
theorem Qud {x0 r} {rv:Qay×Bool} (h:QoL x0 r=some rv):AFn Tryz.prog 128 [.agg (Qac.enc x0),.agg (Qag.enc r)] [] (.tup [.agg [lL 1 rv.1.x.net.places e_str,lL 6 rv.1.x.net.arcs Qas.enc,lL 14 rv.1.x.types Qak.enc,lL 16 rv.1.x.orders Qah.enc,lL 2 rv.1.x.apart QaC.enc,lL 2 rv.1.x.before QaC.enc,.str rv.1.t.name,lI rv.1.t.count,lI rv.1.t.from_,lI rv.1.t.to_,lL 1 rv.1.t.cap e_i64,lI rv.1.t.skills,lI rv.1.t.profile,lI rv.1.t.open_,lI rv.1.t.close,lI rv.1.t.drive,lI rv.1.t.rest_,lI rv.1.t.fixed,lI rv.1.t.perMile,lI rv.1.t.perTick,lI rv.1.r.type_,lI rv.1.r.start,lL 1 rv.1.r.rests QaY,lL 2 rv.1.r.visits Qaa.enc,lL 4 rv.1.stops Qau.enc],.one (.bool rv.2)]) []:=by
 refine QaN Tryz.func128 (by kernel_rfl) (by kernel_rfl) (fun Γ=>?_)
 unfold QoL at h
 rcases Qai h with ⟨h0,h⟩|⟨h0,h⟩
 ·obtain rfl:=Option.some.inj h
  exact gr 8 [] [rp 5 hP,rp 3 (oI ((ltI r.type_ 0)=false)),nL Qak.enc x0.types,rp 13 hP,rp 2 (oI ((ltI r.type_ 0)=false)),oR True ((ltI r.type_ 0)=false),rp 2 (oI (((ltI r.type_ 0)||(geI r.type_ (lenI x0.types)))=false)),oR True (((ltI r.type_ 0)||(geI r.type_ (lenI x0.types)))=false),rp 2 (oI ((((ltI r.type_ 0)||(geI r.type_ (lenI x0.types)))||(ltI r.start 0))=false)),oR True ((((ltI r.type_ 0)||(geI r.type_ (lenI x0.types)))||(ltI r.start 0))=false),rp 2 (oI (((((ltI r.type_ 0)||(geI r.type_ (lenI x0.types)))||(ltI r.start 0))||(gtI r.start 4096))=false)),nL Qaa.enc r.visits,hP,hP,oI (((((ltI r.type_ 0)||(geI r.type_ (lenI x0.types)))||(ltI r.start 0))||(gtI r.start 4096))=false),oR True (((((ltI r.type_ 0)||(geI r.type_ (lenI x0.types)))||(ltI r.start 0))||(gtI r.start 4096))=false),bT h0,hW 5,hH (.nilB 2 0 1),hH (.nilB 2 1 6),hH (.nilB 2 2 14),hH (.nilB 2 3 16),hH (.nilB 2 4 2),hH (.nilB 2 5 2),hH (.nilB 2 10 1),hH (.nilB 2 22 1),hH (.nilB 2 23 2),hH (.nilB 2 24 4)]
 ·obtain ⟨x1,h1,h⟩:=Qad h
  obtain ⟨e0,h7,h⟩:=Qad h
  refine gn 14 [2,4,6,49,50,51] [0,2,3,4] [rp 5 hP,rp 3 (oI ((ltI r.type_ 0)=false)),nL Qak.enc x0.types,rp 13 hP,rp 2 (oI ((ltI r.type_ 0)=false)),oR True ((ltI r.type_ 0)=false),rp 2 (oI (((ltI r.type_ 0)||(geI r.type_ (lenI x0.types)))=false)),oR True (((ltI r.type_ 0)||(geI r.type_ (lenI x0.types)))=false),rp 2 (oI ((((ltI r.type_ 0)||(geI r.type_ (lenI x0.types)))||(ltI r.start 0))=false)),oR True ((((ltI r.type_ 0)||(geI r.type_ (lenI x0.types)))||(ltI r.start 0))=false),rp 2 (oI (((((ltI r.type_ 0)||(geI r.type_ (lenI x0.types)))||(ltI r.start 0))||(gtI r.start 4096))=false)),nL Qaa.enc r.visits,hP,hP,oI (((((ltI r.type_ 0)||(geI r.type_ (lenI x0.types)))||(ltI r.start 0))||(gtI r.start 4096))=false),oR True (((((ltI r.type_ 0)||(geI r.type_ (lenI x0.types)))||(ltI r.start 0))||(gtI r.start 4096))=false),bF h0,hH (.draw 10 []),cE Qak.enc h1,nL Qaa.enc r.visits,hW 3,hH (.adoptB 3 24 4 122)] (QuT Γ rv h7 ?_)
  rcases e0 with e0|e0
  ·obtain ⟨l1,rfl⟩:∃ x,x=e0:=⟨_,rfl⟩
   replace h:(some ((Qay.mk x0 x1 r l1),true):Option (Qay×Bool))=some _:=h
   obtain rfl:=Option.some.inj h
   exact gr 2 [] [hW 5,hH (.frz 2),rp 3 (eL l1 Qau.enc)]
  ·obtain ⟨r2,rfl⟩:∃ x,x=e0:=⟨_,rfl⟩
   replace h:(some r2:Option (Qay×Bool))=some _:=h
   exact Option.some.inj h
theorem QnO {p} {rv:Qaf} (h:Qdn p=some rv):AFn Tryz.prog 129 [.agg (Qay.enc p)] [] (gG [lI rv.ready,lI rv.since,.bool rv.sheet.rest_,lI rv.sheet.depart,lL 4 rv.sheet.times Qar.enc,lI rv.sheet.end_,lI rv.sheet.miles]) []:=by
 refine QaN Tryz.func129 (by kernel_rfl) (by kernel_rfl) (fun Γ=>?_)
 unfold Qdn at h
 obtain rfl:=Option.some.inj h
 exact gr 4 [] [hW 15,hH (.nilB 1 4 4)]
theorem QdM {n i} {rv:Bool} (h:Qje n i=some rv):AFn Tryz.prog 180 [.agg (Qam.enc n),.one (lI i)] [] (one (.bool rv)) []:=by
 refine QaN Tryz.func180 (by kernel_rfl) (by kernel_rfl) (fun Γ=>?_)
 unfold Qje at h
 obtain rfl:=Option.some.inj h
 exact gr 4 [] [rp 4 hP,rp 2 (oI ((geI i 0)=true)),nL e_str n.places,hP,hP,rp 2 (oI ((geI i 0)=true)),oR True ((geI i 0)=true)]
theorem Qq8 {a} {rv:QiV} (h:Qob a=some rv):AFn Tryz.prog 199 [.agg (Qas.enc a)] [] (gG [lI rv.from_,lI rv.to_,lI rv.profile]) []:=by
 refine QaN Tryz.func199 (by kernel_rfl) (by kernel_rfl) (fun Γ=>?_)
 unfold Qob at h
 obtain rfl:=Option.some.inj h
 exact gr 4 [] []
end Go.Proofs.YtoedkepcaigkeaaGreatDoor
