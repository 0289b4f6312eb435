/- Part MU of the proof: texts L0. -/
import Derived.Test.YtfjiafgldchinaaGreatDoorMT
import Derived.Test.YtfjiafgldchinaaGreatDoorMC
import Derived.Test.YtfjiafgldchinaaGreatDoorProg
namespace Go.Proofs.YtfjiafgldchinaaGreatDoor
set_option linter.unusedVariables false
set_option linter.unusedSectionVars false
set_option linter.unusedSimpArgs false
set_option maxHeartbeats 4000000
set_option maxRecDepth 100000
def QiC (Γ:Gam) (rv:List Qab) (cf:Cf):Prop:=Go Tryz.prog Tryz.f65 [] Γ (one (lL 2 rv Qab.enc)) [] cf
def QgR (Γ:Gam) (rv:List Qab) (word:ByteArray) (l:List Qab) (l1:List Qab) (i:Int):Prop:=QiC Γ rv ⟨[.c 116,.l 116,.b 0,.c 15],⟨40,[vS 0 word,vL 1 2 l Qab.enc,vO 5 0 2 l1 Qab.enc,vI 6 i],[oS 2 164 l1 Qab.enc]⟩⟩
def Qgm (Γ:Gam) (rv:List Qab) (word:ByteArray) (l:List Qab) (l2:List Qab):Prop:=QiC Γ rv ⟨[.c 15],⟨40,[vO 5 0 2 l2 Qab.enc],[oS 2 164 l2 Qab.enc]⟩⟩
theorem Qjj (Γ:Gam) (rv:List Qab) {word l l1 i at_} {x:(List Qab×Int)⊕(List Qab)} (h:QeI word l l1 i at_=some x) (hI:∀ s:List Qab×Int,x=.inl s→QgR Γ rv word l s.1 s.2) (hE:∀ e:List Qab,x=.inr e→Qgm Γ rv word l e):QiC Γ rv ⟨[.c 3731,.b 1,.c 467,.l 116,.b 0,.c 15],⟨40,[vS 0 word,vL 1 2 l Qab.enc,vO 5 0 2 l1 Qab.enc,vI 6 i,vS 7 at_],[oS 2 164 l1 Qab.enc]⟩⟩:=by
 unfold QeI at h
 obtain ⟨x1,h5,h⟩:=Qaf h
 obtain ⟨h6,h⟩:=Qar h
 exact gn 4 [0,1,5,6] [2] [cE Qab.enc h5,oO (Eq.refl ([(Qab.mk x1.err at_)].map Qab.enc).length),aO Qab.enc h6] (hI _ (oJ h))
theorem Qor (Γ:Gam) (rv:List Qab) {word l} {s:List Qab×Int} {e:List Qab} (h:loopF (fun s=>QdQ word l s.1 s.2) s=some e) (hD:Qgm Γ rv word l e):QgR Γ rv word l s.1 s.2:=by
 refine Qau (C:=fun (s:List Qab×Int)=>QgR Γ rv word l s.1 s.2) (D:=fun (e:List Qab)=>Qgm Γ rv word l e) ?_ h hD
 clear h hD s e
 rintro ⟨l1,i⟩ z_ h hI hE
 replace h:QdQ word l l1 i=_:=h
 unfold QdQ at h
 rcases Qah h with ⟨h0,h⟩|⟨h0,h⟩
 ·obtain ⟨x0,h1,h⟩:=Qaf h
  rcases Qah h with ⟨h2,h⟩|⟨h2,h⟩
  ·exact gn 14 [0,1,5,6,7] [0] [nL Qab.enc l,bT h0,cE Qab.enc h1,nF h2] (Qjj Γ rv h hI hE)
  ·obtain ⟨h3,h⟩:=Qar h
   obtain ⟨h4,h⟩:=Qar h
   exact gn 14 [0,1,5,6,7] [0] [nL Qab.enc l,bT h0,cE Qab.enc h1,nT h2,oO (h3),cE Qab.enc h1,oO (h4)] (Qjj Γ rv h hI hE)
 ·exact gn 5 [5] [0] [nL Qab.enc l,bF h0] (hE _ (oJ h))
theorem QhV {word l} {rv:List Qab} (h:Qe6 word l=some rv):AFn Tryz.prog 65 [.one (.str word),.one (lL 2 l Qab.enc)] [] (one (lL 2 rv Qab.enc)) []:=by
 refine QaK Tryz.func65 (by kernel_rfl) (by kernel_rfl) (fun Γ=>?_)
 unfold Qe6 at h
 obtain ⟨e0,h7,h⟩:=Qaf h
 refine gn 9 [0,1,5,6] [0] [hW 12,hH (.adopt 5 2 164)] (Qor Γ rv h7 ?_)
 obtain ⟨l2,rfl⟩:∃ x,x=e0:=⟨_,rfl⟩
 replace h:(some l2:Option (List Qab))=some _:=h
 obtain rfl:=Option.some.inj h
 exact gr 2 [] [hW 4,hH (.frz 0),rp 3 (eL l2 Qab.enc)]
def Qhd (Γ:Gam) (rv:ByteArray) (cf:Cf):Prop:=Go Tryz.prog Tryz.f110 [] Γ (one (.str rv)) [] cf
def QfW (Γ:Gam) (rv:ByteArray) (n:Int) (s0:ByteArray) (left:Int) (again:Bool):Prop:=Qhd Γ rv ⟨[.c 244,.l 244,.b 0,.c 31],⟨31,[vI 0 n,vS 3 s0,vI 4 left,vB 5 again],[]⟩⟩
def Qfr (Γ:Gam) (rv:ByteArray) (n:Int) (s1:ByteArray):Prop:=Qhd Γ rv ⟨[.c 31],⟨31,[vI 0 n,vS 3 s1],[]⟩⟩
theorem QhK (Γ:Gam) (rv:ByteArray) {n s0 left d} {x:(ByteArray×Int×Bool)⊕(ByteArray)} (h:Qc5 n s0 left d=some x) (hI:∀ s:ByteArray×Int×Bool,x=.inl s→QfW Γ rv n s.1 s.2.1 s.2.2) (hE:∀ e:ByteArray,x=.inr e→Qfr Γ rv n e):Qhd Γ rv ⟨[.c 7827,.b 1,.c 979,.l 244,.b 0,.c 31],⟨31,[vI 0 n,vS 3 s0,vI 4 left,vI 6 d],[]⟩⟩:=by
 unfold Qc5 at h
 obtain ⟨h2,h⟩:=Qar h
 exact gn 6 [0,3,4,5] [] [hH (.ints [(cvK .u8 (addK .i64 48 d))]),oO (Eq.refl ([(cvK .u8 (addK .i64 48 d))].map e_u8).length),oO (Eq.refl (([(cvK .u8 (addK .i64 48 d))].map e_u8):List (List Lf))),oO (h2),oO (oA (n:=10))] (hI _ (oJ h))
theorem Qm9 (Γ:Gam) (rv:ByteArray) {n} {s:ByteArray×Int×Bool} {e:ByteArray} (h:loopF (fun s=>QeV n s.1 s.2.1 s.2.2) s=some e) (hD:Qfr Γ rv n e):QfW Γ rv n s.1 s.2.1 s.2.2:=by
 refine Qau (C:=fun (s:ByteArray×Int×Bool)=>QfW Γ rv n s.1 s.2.1 s.2.2) (D:=fun (e:ByteArray)=>Qfr Γ rv n e) ?_ h hD
 clear h hD s e
 rintro ⟨s0,left,again⟩ z_ h hI hE
 replace h:QeV n s0 left again=_:=h
 unfold QeV at h
 rcases Qah h with ⟨h0,h⟩|⟨h0,h⟩
 ·rcases Qah h with ⟨h1,h⟩|⟨h1,h⟩
  ·exact gn 14 [0,3,4,6] [] [bT h0,oO (oA (n:=10)),bT h1] (QhK Γ rv h hI hE)
  ·exact gn 14 [0,3,4,6] [] [bT h0,oO (oA (n:=10)),bF h1] (QhK Γ rv h hI hE)
 ·exact gn 5 [0,3] [] [bF h0] (hE _ (oJ h))
theorem Qbv {n} {rv:ByteArray} (h:Qby n=some rv):AFn Tryz.prog 110 [.one (lI n)] [] (one (.str rv)) []:=by
 refine QaK Tryz.func110 (by kernel_rfl) (by kernel_rfl) (fun Γ=>?_)
 unfold Qby at h
 obtain ⟨e0,h3,h⟩:=Qaf h
 refine gn 11 [0,3,4,5] [] [] (Qm9 Γ rv h3 ?_)
 obtain ⟨s1,rfl⟩:∃ x,x=e0:=⟨_,rfl⟩
 replace h:(br (ltI n 0) (chk (QtN.size+s1.size≤9223372036854775807) (some (catS QtN s1))) (some s1):Option ByteArray)=some _:=h
 rcases Qah h with ⟨h4,h⟩|⟨h4,h⟩
 ·obtain ⟨h5,h⟩:=Qar h
  obtain rfl:=Option.some.inj h
  exact gr 6 [] [bT h4,oO (h5)]
 ·obtain rfl:=Option.some.inj h
  exact gr 7 [] [bF h4]
theorem Qf0 {c} {rv:Bool} (h:QhL c=some rv):AFn Tryz.prog 149 [.one (.int .u8 c)] [] (one (.bool rv)) []:=by
 refine QaK Tryz.func149 (by kernel_rfl) (by kernel_rfl) (fun Γ=>?_)
 unfold QhL at h
 obtain rfl:=Option.some.inj h
 exact gr 4 [] [hP,hP,hP,oI ((geI c 48)=true),oR True ((geI c 48)=true)]
theorem Qhe {c} {rv:Bool} (h:QjC c=some rv):AFn Tryz.prog 150 [.one (.int .u8 c)] [] (one (.bool rv)) []:=by
 refine QaK Tryz.func150 (by kernel_rfl) (by kernel_rfl) (fun Γ=>?_)
 unfold QjC at h
 obtain rfl:=Option.some.inj h
 exact gr 4 [] [rp 14 hP,oI ((geI c 97)=true),oR True ((geI c 97)=true),rp 2 (oI (((geI c 97)&&(leI c 122))=false)),oI ((((geI c 97)&&(leI c 122))=false)∧(geI c 65)=true),oI (((geI c 97)&&(leI c 122))=false),oI ((((geI c 97)&&(leI c 122))=false)∧(geI c 65)=true),oR True (((geI c 97)&&(leI c 122))=false),oI ((((geI c 97)&&(leI c 122))||((geI c 65)&&(leI c 90)))=false),oR True ((((geI c 97)&&(leI c 122))||((geI c 65)&&(leI c 90)))=false)]
def Qnu (Γ:Gam) (rv:Bool) (cf:Cf):Prop:=Go Tryz.prog Tryz.f131 [] Γ (one (.bool rv)) [] cf
def QkN (Γ:Gam) (rv:Bool) (s0:ByteArray) (b:UInt8) (i:Int):Prop:=Qnu Γ rv ⟨[.c 116,.l 116,.b 0,.c 15],⟨35,[vS 0 s0,vI 3 i],[]⟩⟩
def QjP (Γ:Gam) (rv:Bool) (s0:ByteArray) (b:UInt8):Prop:=Qnu Γ rv ⟨[.c 15],⟨35,[],[]⟩⟩
theorem Qo4 (Γ:Gam) (rv:Bool) {s0 b} {s:Int} {e:(Unit)⊕(Bool)} (h:loopF (fun s=>Qec s0 b s) s=some e) (hD:sel e (fun e=>QjP Γ rv s0 b) (fun e=>e=rv)):QkN Γ rv s0 b s:=by
 refine Qau (C:=fun (s:Int)=>QkN Γ rv s0 b s) (D:=fun (e:(Unit)⊕(Bool))=>sel e (fun e=>QjP Γ rv s0 b) (fun e=>e=rv)) ?_ h hD
 clear h hD s e
 intro i z_ h hI hE
 replace h:Qec s0 b i=_:=h
 unfold Qec at h
 rcases Qah h with ⟨h4,h⟩|⟨h4,h⟩
 ·obtain ⟨b1,h5,h⟩:=Qaf h
  obtain ⟨r1,h6,h⟩:=Qaf h
  rcases Qah h with ⟨h7,h⟩|⟨h7,h⟩
  ·exact gn 14 [0,3] [] [bT h4,yE h5,cC (Qhe h6),rp 6 (nF h7),fF] (hI _ (oJ h))
  ·obtain ⟨r2,h8,h⟩:=Qaf h
   rcases Qah h with ⟨h9,h⟩|⟨h9,h⟩
   ·exact gn 14 [0,3] [] [bT h4,yE h5,cC (Qhe h6),rp 3 (nT h7),yE h5,nT h7,cC (Qf0 h8),nT h7,nT h7,nF h9] (hI _ (oJ h))
   ·obtain rfl:=(hE _ (oJ h):_=rv)
    exact gr 12 [] [bT h4,yE h5,cC (Qhe h6),rp 3 (nT h7),yE h5,nT h7,cC (Qf0 h8),nT h7,nT h7,nT h9]
 ·exact gn 5 [] [] [bF h4] (hE _ (oJ h))
theorem Qed {s0} {rv:Bool} (h:QeQ s0=some rv):AFn Tryz.prog 131 [.one (.str s0)] [] (one (.bool rv)) []:=by
 refine QaK Tryz.func131 (by kernel_rfl) (by kernel_rfl) (fun Γ=>?_)
 unfold QeQ at h
 rcases Qah h with ⟨h0,h⟩|⟨h0,h⟩
 ·obtain rfl:=Option.some.inj h
  exact gr 8 [] [rp 4 hP,rp 2 (oI ((ltI (sizeS s0) 1)=false)),oR True ((ltI (sizeS s0) 1)=false),rp 4 (bT h0),tT]
 ·obtain ⟨b,h1,h⟩:=Qaf h
  obtain ⟨r,h2,h⟩:=Qaf h
  rcases Qah h with ⟨h3,h⟩|⟨h3,h⟩
  ·obtain rfl:=Option.some.inj h
   exact gr 8 [] [rp 4 hP,rp 2 (oI ((ltI (sizeS s0) 1)=false)),oR True ((ltI (sizeS s0) 1)=false),bF h0,bF h0,yE h1,bF h0,cC (Qf0 h2),bF h0,bT h3]
  ·obtain ⟨e0,h10,h⟩:=Qaf h
   refine gn 12 [0,3] [] [rp 4 hP,rp 2 (oI ((ltI (sizeS s0) 1)=false)),oR True ((ltI (sizeS s0) 1)=false),bF h0,bF h0,yE h1,bF h0,cC (Qf0 h2),bF h0,bF h3] (Qo4 Γ rv h10 ?_)
   rcases e0 with e0|e0
   ·replace h:(some true:Option Bool)=some _:=h
    obtain rfl:=Option.some.inj h
    exact gr 2 [] []
   ·obtain ⟨r3,rfl⟩:∃ x,x=e0:=⟨_,rfl⟩
    replace h:(some r3:Option Bool)=some _:=h
    exact Option.some.inj h
def QgD (Γ:Gam) (rv:List Qab) (cf:Cf):Prop:=Go Tryz.prog Tryz.f132 [] Γ (one (lL 2 rv Qab.enc)) [] cf
def QgP (Γ:Gam) (rv:List Qab) (l:List Qak) (l2:List Qab) (i:Int):Prop:=QgD Γ rv ⟨[.c 244,.l 244,.b 0,.c 31],⟨88,[vL 0 2 l Qak.enc,vO 3 0 2 l2 Qab.enc,vI 4 i],[oS 2 164 l2 Qab.enc]⟩⟩
def Qgd (Γ:Gam) (rv:List Qab) (l:List Qak) (l4:List Qab):Prop:=QgD Γ rv ⟨[.c 31],⟨88,[vO 3 0 2 l4 Qab.enc],[oS 2 164 l4 Qab.enc]⟩⟩
theorem QiN (Γ:Gam) (rv:List Qab) {l i x0 l3} {x:(List Qab×Int)⊕(List Qab)} (h:QdB l i x0 l3=some x) (hI:∀ s:List Qab×Int,x=.inl s→QgP Γ rv l s.1 s.2) (hE:∀ e:List Qab,x=.inr e→Qgd Γ rv l e):QgD Γ rv ⟨[.c 7827,.b 1,.c 979,.l 244,.b 0,.c 31],⟨88,[vL 0 2 l Qak.enc,vO 3 0 2 l3 Qab.enc,vI 4 i,vP 5 1 2],[oS 2 164 l3 Qab.enc,oX 2 74 (Qak.enc x0)]⟩⟩:=by
 unfold QdB at h
 rcases Qah h with ⟨h7,h⟩|⟨h7,h⟩
 ·obtain ⟨x1,h8,h⟩:=Qaf h
  rcases Qah h with ⟨h9,h⟩|⟨h9,h⟩
  ·obtain ⟨r1,h10,h⟩:=Qaf h
   obtain ⟨h11,h⟩:=Qar h
   exact gn 7 [0,3,4] [3] [hH (.draw 24 []),rp 6 (bT h7),cE Qak.enc h8,rp 4 (bT h7),rp 9 (bT h9),bT h7,bT h9,bT h7,tT,cC (Qbv h10),oO (Eq.refl ([(Qab.mk 13 r1)].map Qab.enc).length),aO Qab.enc h11] (hI _ (oJ h))
  ·rcases Qah h with ⟨h12,h⟩|⟨h12,h⟩
   ·obtain ⟨r2,h13,h⟩:=Qaf h
    obtain ⟨h14,h⟩:=Qar h
    exact gn 7 [0,3,4] [3] [hH (.draw 24 []),rp 6 (bT h7),cE Qak.enc h8,rp 4 (bT h7),rp 6 (bF h9),cE Qak.enc h8,rp 3 (bF h9),bT h7,bF h9,bT h7,bT h12,cC (Qbv h13),oO (Eq.refl ([(Qab.mk 13 r2)].map Qab.enc).length),aO Qab.enc h14] (hI _ (oJ h))
   ·exact gn 7 [0,3,4] [0] [hH (.draw 24 []),rp 6 (bT h7),cE Qak.enc h8,rp 4 (bT h7),rp 6 (bF h9),cE Qak.enc h8,rp 3 (bF h9),bT h7,bF h9,bT h7,bF h12] (hI _ (oJ h))
 ·exact gn 7 [0,3,4] [0] [hH (.draw 24 []),rp 10 (bF h7),rp 9 kF,bF h7,bF h7,fF] (hI _ (oJ h))
theorem Qoi (Γ:Gam) (rv:List Qab) {l} {s:List Qab×Int} {e:List Qab} (h:loopF (fun s=>Qc0 l s.1 s.2) s=some e) (hD:Qgd Γ rv l e):QgP Γ rv l s.1 s.2:=by
 refine Qau (C:=fun (s:List Qab×Int)=>QgP Γ rv l s.1 s.2) (D:=fun (e:List Qab)=>Qgd Γ rv l e) ?_ h hD
 clear h hD s e
 rintro ⟨l2,i⟩ z_ h hI hE
 replace h:Qc0 l l2 i=_:=h
 unfold Qc0 at h
 rcases Qah h with ⟨h2,h⟩|⟨h2,h⟩
 ·obtain ⟨x0,h3,h⟩:=Qaf h
  rcases Qah h with ⟨h4,h⟩|⟨h4,h⟩
  ·obtain ⟨r,h5,h⟩:=Qaf h
   obtain ⟨h6,h⟩:=Qar h
   exact gn 14 [0,3,4,5] [3,1] [nL Qak.enc l,bT h2,cE Qak.enc h3,rp 17 hP,rp 2 (oI ((ltI x0.t 0)=false)),oR True ((ltI x0.t 0)=false),rp 4 (oI (((ltI x0.t 0)||(gtI x0.t 4096))=false)),oR True (((ltI x0.t 0)||(gtI x0.t 4096))=false),rp 5 (oI ((((ltI x0.t 0)||(gtI x0.t 4096))||(ltI x0.a x0.t))=false)),oR True ((((ltI x0.t 0)||(gtI x0.t 4096))||(ltI x0.a x0.t))=false),bT h4,cC (Qbv h5),oO (Eq.refl ([(Qab.mk 2 r)].map Qab.enc).length),aO Qab.enc h6] (QiN Γ rv h hI hE)
  ·exact gn 14 [0,3,4,5] [0,1] [nL Qak.enc l,bT h2,cE Qak.enc h3,rp 17 hP,rp 2 (oI ((ltI x0.t 0)=false)),oR True ((ltI x0.t 0)=false),rp 4 (oI (((ltI x0.t 0)||(gtI x0.t 4096))=false)),oR True (((ltI x0.t 0)||(gtI x0.t 4096))=false),rp 5 (oI ((((ltI x0.t 0)||(gtI x0.t 4096))||(ltI x0.a x0.t))=false)),oR True ((((ltI x0.t 0)||(gtI x0.t 4096))||(ltI x0.a x0.t))=false),bF h4] (QiN Γ rv h hI hE)
 ·exact gn 5 [3] [0] [nL Qak.enc l,bF h2] (hE _ (oJ h))
theorem QiM (Γ:Gam) (rv:List Qab) {l l1} (h:QeB l l1=some rv):QgD Γ rv ⟨[.c 15],⟨88,[vL 0 2 l Qak.enc,vO 3 0 2 l1 Qab.enc],[oS 2 164 l1 Qab.enc]⟩⟩:=by
 unfold QeB at h
 obtain ⟨e0,h15,h⟩:=Qaf h
 refine gn 5 [0,3,4] [0] [] (Qoi Γ rv h15 ?_)
 obtain ⟨l4,rfl⟩:∃ x,x=e0:=⟨_,rfl⟩
 replace h:(some l4:Option (List Qab))=some _:=h
 obtain rfl:=Option.some.inj h
 exact gr 2 [] [hW 4,hH (.frz 0),rp 3 (eL l4 Qab.enc)]
theorem QhO {l} {rv:List Qab} (h:Qen l=some rv):AFn Tryz.prog 132 [.one (lL 2 l Qak.enc)] [] (one (lL 2 rv Qab.enc)) []:=by
 refine QaK Tryz.func132 (by kernel_rfl) (by kernel_rfl) (fun Γ=>?_)
 unfold Qen at h
 rcases Qah h with ⟨h0,h⟩|⟨h0,h⟩
 ·obtain ⟨h1,h⟩:=Qar h
  exact gn 9 [0,3] [1] [nL Qak.enc l,hP,hP,oI ((ltI (lenI l) 1)=false),nL Qak.enc l,hP,hP,oI ((ltI (lenI l) 1)=false),oR True ((ltI (lenI l) 1)=false),bT h0,oO (Eq.refl ([(Qab.mk 4 ByteArray.empty)].map Qab.enc).length),aN (l:=([(Qab.mk 4 ByteArray.empty)]:List Qab)) Qab.enc h1] (QiM Γ rv h)
 ·exact gn 9 [0,3] [0] [nL Qak.enc l,hP,hP,oI ((ltI (lenI l) 1)=false),nL Qak.enc l,hP,hP,oI ((ltI (lenI l) 1)=false),oR True ((ltI (lenI l) 1)=false),bF h0,hW 1,hH (.adopt 3 2 164)] (QiM Γ rv h)
theorem Qcr {t} {rv:Bool} (h:QfQ t=some rv):AFn Tryz.prog 133 [.one (lI t)] [] (one (.bool rv)) []:=by
 refine QaK Tryz.func133 (by kernel_rfl) (by kernel_rfl) (fun Γ=>?_)
 unfold QfQ at h
 obtain rfl:=Option.some.inj h
 exact gr 4 [] [hP,hP,hP,oI ((geI t 0)=true),oR True ((geI t 0)=true)]
def Qbe (Γ:Gam) (rv:List Qab) (cf:Cf):Prop:=Go Tryz.prog Tryz.f107 [] Γ (one (lL 2 rv Qab.enc)) [] cf
def QhQ (Γ:Gam) (rv:List Qab) (n:Qal) (i:Int) (r:ByteArray) (x0:Qao) (l:List Qab) (l1:List Qab) (twice:Bool) (k:Int):Prop:=Qbe Γ rv ⟨[.c 4084,.l 4084,.b 0,.c 511],⟨192,[vI 1 i,vP 2 0 2,vO 5 1 2 l1 Qab.enc,vS 6 (catS QaD r),vP 7 2 6,vB 8 twice,vI 9 k],[oX 2 25 (Qal.enc n),oS 2 164 l1 Qab.enc,oX 6 77 (Qao.enc x0)]⟩⟩
def Qhq (Γ:Gam) (rv:List Qab) (n:Qal) (i:Int) (r:ByteArray) (x0:Qao) (l:List Qab) (l1:List Qab) (twice1:Bool):Prop:=Qbe Γ rv ⟨[.c 511],⟨192,[vO 5 0 2 l1 Qab.enc,vS 6 (catS QaD r),vP 7 1 6,vB 8 twice1],[oS 2 164 l1 Qab.enc,oX 6 77 (Qao.enc x0)]⟩⟩
def QhR (Γ:Gam) (rv:List Qab) (r:ByteArray) (x0:Qao) (l:List Qab) (r1:List Qab) (l3:List Qab) (k1:Int):Prop:=Qbe Γ rv ⟨[.c 32756,.l 32756,.b 2,.c 4095],⟨192,[vO 5 0 2 l3 Qab.enc,vS 6 (catS QaD r),vP 7 1 6,vL 11 2 r1 Qab.enc,vI 12 k1],[oS 2 164 l3 Qab.enc,oX 6 77 (Qao.enc x0)]⟩⟩
def Qhr (Γ:Gam) (rv:List Qab) (r:ByteArray) (x0:Qao) (l:List Qab) (r1:List Qab) (l4:List Qab):Prop:=Qbe Γ rv ⟨[.c 4095],⟨192,[vO 5 0 2 l4 Qab.enc,vS 6 (catS QaD r),vP 7 1 6],[oS 2 164 l4 Qab.enc,oX 6 77 (Qao.enc x0)]⟩⟩
def QhS (Γ:Gam) (rv:List Qab) (r:ByteArray) (x0:Qao) (l:List Qab) (l6:List Qab) (k2:Int):Prop:=Qbe Γ rv ⟨[.c 131060,.l 131060,.b 4,.c 16383],⟨192,[vO 5 0 2 l6 Qab.enc,vS 6 (catS QaD r),vP 7 1 6,vI 13 k2],[oS 2 164 l6 Qab.enc,oX 6 77 (Qao.enc x0)]⟩⟩
def Qhs (Γ:Gam) (rv:List Qab) (r:ByteArray) (x0:Qao) (l:List Qab) (l7:List Qab):Prop:=Qbe Γ rv ⟨[.c 16383],⟨192,[vO 5 0 2 l7 Qab.enc],[oS 2 164 l7 Qab.enc]⟩⟩
theorem Qmv (Γ:Gam) (rv:List Qab) {n i r x0 l l1} {s:Bool×Int} {e:Bool} (h:loopF (fun s=>QbI n i r x0 l l1 s.1 s.2) s=some e) (hD:Qhq Γ rv n i r x0 l l1 e):QhQ Γ rv n i r x0 l l1 s.1 s.2:=by
 refine Qau (C:=fun (s:Bool×Int)=>QhQ Γ rv n i r x0 l l1 s.1 s.2) (D:=fun (e:Bool)=>Qhq Γ rv n i r x0 l l1 e) ?_ h hD
 clear h hD s e
 rintro ⟨twice,k⟩ z_ h hI hE
 replace h:QbI n i r x0 l l1 twice k=_:=h
 unfold QbI at h
 rcases Qah h with ⟨h7,h⟩|⟨h7,h⟩
 ·obtain ⟨x1,h8,h⟩:=Qaf h
  exact gn 13 [1,2,5,6,7,8,9] [0,1,2] [bT h7,cE Qao.enc h8,rp 22 hP,rp 5 (oI (twice=false)),rp 4 (oI ((twice=false)∧(eqI x0.from_ x1.from_)=true)),oI (twice=false),oI ((twice=false)∧(eqI x0.from_ x1.from_)=true),oI (twice=false),rp 4 (oI ((twice=false)∧((eqI x0.from_ x1.from_)&&(eqI x0.to_ x1.to_))=true)),oI (twice=false),oI ((twice=false)∧((eqI x0.from_ x1.from_)&&(eqI x0.to_ x1.to_))=true),oR True (twice=false)] (hI _ (oJ h))
 ·exact gn 5 [5,6,7,8] [1,2] [bF h7] (hE _ (oJ h))
theorem Qmw (Γ:Gam) (rv:List Qab) {r x0 l r1} {s:List Qab×Int} {e:List Qab} (h:loopF (fun s=>QbJ r x0 l r1 s.1 s.2) s=some e) (hD:Qhr Γ rv r x0 l r1 e):QhR Γ rv r x0 l r1 s.1 s.2:=by
 refine Qau (C:=fun (s:List Qab×Int)=>QhR Γ rv r x0 l r1 s.1 s.2) (D:=fun (e:List Qab)=>Qhr Γ rv r x0 l r1 e) ?_ h hD
 clear h hD s e
 rintro ⟨l3,k1⟩ z_ h hI hE
 replace h:QbJ r x0 l r1 l3 k1=_:=h
 unfold QbJ at h
 rcases Qah h with ⟨h13,h⟩|⟨h13,h⟩
 ·obtain ⟨x2,h14,h⟩:=Qaf h
  obtain ⟨h15,h⟩:=Qar h
  exact gn 11 [5,6,7,11,12] [3,1] [nL Qab.enc r1,bT h13,cE Qab.enc h14,oO (Eq.refl ([(Qab.mk x2.err (catS QaD r))].map Qab.enc).length),aO Qab.enc h15] (hI _ (oJ h))
 ·exact gn 5 [5,6,7] [0,1] [nL Qab.enc r1,bF h13] (hE _ (oJ h))
theorem Qmx (Γ:Gam) (rv:List Qab) {r x0 l} {s:List Qab×Int} {e:List Qab} (h:loopF (fun s=>QbK r x0 l s.1 s.2) s=some e) (hD:Qhs Γ rv r x0 l e):QhS Γ rv r x0 l s.1 s.2:=by
 refine Qau (C:=fun (s:List Qab×Int)=>QhS Γ rv r x0 l s.1 s.2) (D:=fun (e:List Qab)=>Qhs Γ rv r x0 l e) ?_ h hD
 clear h hD s e
 rintro ⟨l6,k2⟩ z_ h hI hE
 replace h:QbK r x0 l l6 k2=_:=h
 unfold QbK at h
 rcases Qah h with ⟨h19,h⟩|⟨h19,h⟩
 ·obtain ⟨x3,h20,h⟩:=Qaf h
  obtain ⟨r2,h21,h⟩:=Qaf h
  rcases Qah h with ⟨h22,h⟩|⟨h22,h⟩
  ·obtain ⟨r3,h23,h⟩:=Qaf h
   rcases Qah h with ⟨h24,h⟩|⟨h24,h⟩
   ·rcases Qah h with ⟨h25,h⟩|⟨h25,h⟩
    ·obtain ⟨x4,h26,h⟩:=Qaf h
     rcases Qah h with ⟨h27,h⟩|⟨h27,h⟩
     ·obtain ⟨h28,h⟩:=Qar h
      exact gn 16 [5,6,7,13] [4,1] [nL Qak.enc x0.slow,bT h19,cE Qak.enc h20,hH (.draw 26 []),cC (Qcr h21),rp 3 (nF h22),cC (Qcr h23),rp 2 (nF h22),rp 3 (nF h24),rp 7 (bT h25),cE Qak.enc h26,rp 3 (bT h25),nF h24,bT h25,nF h24,bT h27,oO (Eq.refl ([(Qab.mk 2 (catS QaD r))].map Qab.enc).length),aO Qab.enc h28] (hI _ (oJ h))
     ·exact gn 16 [5,6,7,13] [0,1] [nL Qak.enc x0.slow,bT h19,cE Qak.enc h20,hH (.draw 26 []),cC (Qcr h21),rp 3 (nF h22),cC (Qcr h23),rp 2 (nF h22),rp 3 (nF h24),rp 7 (bT h25),cE Qak.enc h26,rp 3 (bT h25),nF h24,bT h25,nF h24,bF h27] (hI _ (oJ h))
    ·exact gn 16 [5,6,7,13] [0,1] [nL Qak.enc x0.slow,bT h19,cE Qak.enc h20,hH (.draw 26 []),cC (Qcr h21),rp 3 (nF h22),cC (Qcr h23),rp 2 (nF h22),rp 3 (nF h24),rp 10 (bF h25),nF h24,bF h25,nF h24,fF] (hI _ (oJ h))
   ·obtain ⟨h29,h⟩:=Qar h
    exact gn 16 [5,6,7,13] [4,1] [nL Qak.enc x0.slow,bT h19,cE Qak.enc h20,hH (.draw 26 []),cC (Qcr h21),rp 3 (nF h22),cC (Qcr h23),rp 2 (nF h22),rp 3 (nT h24),rp 10 kF,rp 2 (nT h24),tT,oO (Eq.refl ([(Qab.mk 2 (catS QaD r))].map Qab.enc).length),aO Qab.enc h29] (hI _ (oJ h))
  ·obtain ⟨h30,h⟩:=Qar h
   exact gn 16 [5,6,7,13] [4,1] [nL Qak.enc x0.slow,bT h19,cE Qak.enc h20,hH (.draw 26 []),cC (Qcr h21),rp 5 (nT h22),tT,tT,tT,rp 10 kF,tT,tT,tT,oO (Eq.refl ([(Qab.mk 2 (catS QaD r))].map Qab.enc).length),aO Qab.enc h30] (hI _ (oJ h))
 ·exact gn 5 [5] [0] [nL Qak.enc x0.slow,bF h19] (hE _ (oJ h))
theorem Qhp (Γ:Gam) (rv:List Qab) {r x0 l l5} (h:Qbn r x0 l l5=some rv):Qbe Γ rv ⟨[.c 8191],⟨192,[vO 5 0 2 l5 Qab.enc,vS 6 (catS QaD r),vP 7 1 6],[oS 2 164 l5 Qab.enc,oX 6 77 (Qao.enc x0)]⟩⟩:=by
 unfold Qbn at h
 obtain ⟨e2,h31,h⟩:=Qaf h
 refine gn 5 [5,6,7,13] [0,1] [] (Qmx Γ rv h31 ?_)
 obtain ⟨l7,rfl⟩:∃ x,x=e2:=⟨_,rfl⟩
 replace h:(some l7:Option (List Qab))=some _:=h
 obtain rfl:=Option.some.inj h
 exact gr 2 [] [hW 4,hH (.frz 0),rp 3 (eL l7 Qab.enc)]
theorem Qho (Γ:Gam) (rv:List Qab) {r x0 l l2} (h:QbH r x0 l l2=some rv):Qbe Γ rv ⟨[.c 1023],⟨192,[vO 5 0 2 l2 Qab.enc,vS 6 (catS QaD r),vP 7 1 6],[oS 2 164 l2 Qab.enc,oX 6 77 (Qao.enc x0)]⟩⟩:=by
 unfold QbH at h
 obtain ⟨r1,h12,h⟩:=Qaf h
 obtain ⟨e1,h16,h⟩:=Qaf h
 refine gn 7 [5,6,7,11,12] [0,1] [cC (QhO h12)] (Qmw Γ rv h16 ?_)
 obtain ⟨l4,rfl⟩:∃ x,x=e1:=⟨_,rfl⟩
 replace h:(br (gtI (lenI x0.slow) 16) (chk (okN (l4++[(Qab.mk 4 (catS QaD r))]).length 24) (Qbn r x0 l (l4++[(Qab.mk 4 (catS QaD r))]))) (Qbn r x0 l l4):Option (List Qab))=some _:=h
 rcases Qah h with ⟨h17,h⟩|⟨h17,h⟩
 ·obtain ⟨h18,h⟩:=Qar h
  exact gn 5 [5,6,7] [3,1] [nL Qak.enc x0.slow,bT h17,oO (Eq.refl ([(Qab.mk 4 (catS QaD r))].map Qab.enc).length),aO Qab.enc h18] (Qhp Γ rv h)
 ·exact gn 5 [5,6,7] [0,1] [nL Qak.enc x0.slow,bF h17] (Qhp Γ rv h)
theorem Qhn (Γ:Gam) (rv:List Qab) {n i r x0 l l1} (h:QcL n i r x0 l l1=some rv):Qbe Γ rv ⟨[.c 127],⟨192,[vI 1 i,vP 2 0 2,vO 5 1 2 l1 Qab.enc,vS 6 (catS QaD r),vP 7 2 6],[oX 2 25 (Qal.enc n),oS 2 164 l1 Qab.enc,oX 6 77 (Qao.enc x0)]⟩⟩:=by
 unfold QcL at h
 obtain ⟨e0,h9,h⟩:=Qaf h
 refine gn 7 [1,2,5,6,7,8,9] [0,1,2] [] (Qmv Γ rv h9 ?_)
 obtain ⟨twice1,rfl⟩:∃ x,x=e0:=⟨_,rfl⟩
 replace h:(br twice1 (chk (okN (l1++[(Qab.mk 6 (catS QaD r))]).length 24) (QbH r x0 l (l1++[(Qab.mk 6 (catS QaD r))]))) (QbH r x0 l l1):Option (List Qab))=some _:=h
 rcases Qah h with ⟨h10,h⟩|⟨h10,h⟩
 ·obtain ⟨h11,h⟩:=Qar h
  exact gn 5 [5,6,7] [3,1] [bT h10,oO (Eq.refl ([(Qab.mk 6 (catS QaD r))].map Qab.enc).length),aO Qab.enc h11] (Qho Γ rv h)
 ·exact gn 5 [5,6,7] [0,1] [bF h10] (Qho Γ rv h)
theorem Qhm (Γ:Gam) (rv:List Qab) {n i r x0 l} (h:QcK n i r x0 l=some rv):Qbe Γ rv ⟨[.c 63],⟨192,[vI 1 i,vP 2 0 2,vO 5 1 2 l Qab.enc,vS 6 (catS QaD r),vP 7 2 6],[oX 2 25 (Qal.enc n),oS 2 164 l Qab.enc,oX 6 77 (Qao.enc x0)]⟩⟩:=by
 unfold QcK at h
 rcases Qah h with ⟨h5,h⟩|⟨h5,h⟩
 ·obtain ⟨h6,h⟩:=Qar h
  exact gn 5 [1,2,5,6,7] [0,4,2] [rp 18 hP,rp 2 (oI ((ltI x0.profile 0)=false)),oR True ((ltI x0.profile 0)=false),rp 2 (oI (((ltI x0.profile 0)||(gtI x0.profile 7))=false)),oR True (((ltI x0.profile 0)||(gtI x0.profile 7))=false),rp 2 (oI ((((ltI x0.profile 0)||(gtI x0.profile 7))||(ltI x0.miles 0))=false)),oR True ((((ltI x0.profile 0)||(gtI x0.profile 7))||(ltI x0.miles 0))=false),rp 4 (oI (((((ltI x0.profile 0)||(gtI x0.profile 7))||(ltI x0.miles 0))||(gtI x0.miles 10000))=false)),oR True (((((ltI x0.profile 0)||(gtI x0.profile 7))||(ltI x0.miles 0))||(gtI x0.miles 10000))=false),bT h5,oO (Eq.refl ([(Qab.mk 2 (catS QaD r))].map Qab.enc).length),aO Qab.enc h6] (Qhn Γ rv h)
 ·exact gn 5 [1,2,5,6,7] [0,1,2] [rp 18 hP,rp 2 (oI ((ltI x0.profile 0)=false)),oR True ((ltI x0.profile 0)=false),rp 2 (oI (((ltI x0.profile 0)||(gtI x0.profile 7))=false)),oR True (((ltI x0.profile 0)||(gtI x0.profile 7))=false),rp 2 (oI ((((ltI x0.profile 0)||(gtI x0.profile 7))||(ltI x0.miles 0))=false)),oR True ((((ltI x0.profile 0)||(gtI x0.profile 7))||(ltI x0.miles 0))=false),rp 4 (oI (((((ltI x0.profile 0)||(gtI x0.profile 7))||(ltI x0.miles 0))||(gtI x0.miles 10000))=false)),oR True (((((ltI x0.profile 0)||(gtI x0.profile 7))||(ltI x0.miles 0))||(gtI x0.miles 10000))=false),bF h5] (Qhn Γ rv h)
theorem Qok {n i} {rv:List Qab} (h:QeD n i=some rv):AFn Tryz.prog 107 [.agg (Qal.enc n),.one (lI i)] [] (one (lL 2 rv Qab.enc)) []:=by
 refine QaK Tryz.func107 (by kernel_rfl) (by kernel_rfl) (fun Γ=>?_)
 unfold QeD at h
 obtain ⟨r,h0,h⟩:=Qaf h
 obtain ⟨h1,h⟩:=Qar h
 obtain ⟨x0,h2,h⟩:=Qaf h
 rcases Qah h with ⟨h3,h⟩|⟨h3,h⟩
 ·obtain ⟨h4,h⟩:=Qar h
  exact gn 13 [1,2,5,6,7] [0,3,1] [cC (Qbv h0),oO (h1),cE Qao.enc h2,rp 5 hP,rp 3 (oI ((ltI x0.from_ 0)=false)),nL e_str n.places,rp 11 hP,rp 2 (oI ((ltI x0.from_ 0)=false)),oR True ((ltI x0.from_ 0)=false),rp 2 (oI (((ltI x0.from_ 0)||(geI x0.from_ (lenI n.places)))=false)),oR True (((ltI x0.from_ 0)||(geI x0.from_ (lenI n.places)))=false),rp 3 (oI ((((ltI x0.from_ 0)||(geI x0.from_ (lenI n.places)))||(ltI x0.to_ 0))=false)),nL e_str n.places,hP,hP,rp 2 (oI ((((ltI x0.from_ 0)||(geI x0.from_ (lenI n.places)))||(ltI x0.to_ 0))=false)),oR True ((((ltI x0.from_ 0)||(geI x0.from_ (lenI n.places)))||(ltI x0.to_ 0))=false),bT h3,oO (Eq.refl ([(Qab.mk 11 (catS QaD r))].map Qab.enc).length),aN (l:=([(Qab.mk 11 (catS QaD r))]:List Qab)) Qab.enc h4] (Qhm Γ rv h)
 ·exact gn 13 [1,2,5,6,7] [0,2,1] [cC (Qbv h0),oO (h1),cE Qao.enc h2,rp 5 hP,rp 3 (oI ((ltI x0.from_ 0)=false)),nL e_str n.places,rp 11 hP,rp 2 (oI ((ltI x0.from_ 0)=false)),oR True ((ltI x0.from_ 0)=false),rp 2 (oI (((ltI x0.from_ 0)||(geI x0.from_ (lenI n.places)))=false)),oR True (((ltI x0.from_ 0)||(geI x0.from_ (lenI n.places)))=false),rp 3 (oI ((((ltI x0.from_ 0)||(geI x0.from_ (lenI n.places)))||(ltI x0.to_ 0))=false)),nL e_str n.places,hP,hP,rp 2 (oI ((((ltI x0.from_ 0)||(geI x0.from_ (lenI n.places)))||(ltI x0.to_ 0))=false)),oR True ((((ltI x0.from_ 0)||(geI x0.from_ (lenI n.places)))||(ltI x0.to_ 0))=false),bF h3,hW 1,hH (.adopt 5 2 164)] (Qhm Γ rv h)
def Qb7 (Γ:Gam) (rv:List Qab) (cf:Cf):Prop:=Go Tryz.prog Tryz.f106 [] Γ (one (lO 0 2 rv Qab.enc)) [oS 2 164 rv Qab.enc] cf
def Qfl (Γ:Gam) (rv:List Qab) (n:Qal) (l:List Qab) (l1:List Qab) (i:Int) (r:ByteArray) (twice:Bool) (k:Int):Prop:=Qb7 Γ rv ⟨[.c 250484,.l 250484,.b 2,.c 31311,.b 1,.c 979,.l 244,.b 0,.c 31],⟨64,[vP 1 0 2,vO 3 1 2 l1 Qab.enc,vI 4 i,vS 5 (catS Qdc r),vB 6 twice,vI 7 k],[oX 2 25 (Qal.enc n),oS 2 164 l1 Qab.enc]⟩⟩
def Qe2 (Γ:Gam) (rv:List Qab) (n:Qal) (l:List Qab) (l1:List Qab) (i:Int) (r:ByteArray) (twice1:Bool):Prop:=Qb7 Γ rv ⟨[.c 31311,.b 1,.c 979,.l 244,.b 0,.c 31],⟨64,[vP 1 0 2,vO 3 1 2 l1 Qab.enc,vI 4 i,vS 5 (catS Qdc r),vB 6 twice1],[oX 2 25 (Qal.enc n),oS 2 164 l1 Qab.enc]⟩⟩
def Qfk (Γ:Gam) (rv:List Qab) (n:Qal) (l:List Qab) (l1:List Qab) (i:Int):Prop:=Qb7 Γ rv ⟨[.c 244,.l 244,.b 0,.c 31],⟨64,[vP 1 0 2,vO 3 1 2 l1 Qab.enc,vI 4 i],[oX 2 25 (Qal.enc n),oS 2 164 l1 Qab.enc]⟩⟩
def Qe1 (Γ:Gam) (rv:List Qab) (n:Qal) (l:List Qab) (l2:List Qab):Prop:=Qb7 Γ rv ⟨[.c 31],⟨64,[vO 3 0 2 l2 Qab.enc],[oS 2 164 l2 Qab.enc]⟩⟩
theorem QiA (Γ:Gam) (rv:List Qab) {n l l1 i r} {s:Bool×Int} {e:Bool} (h:loopF (fun s=>QaZ n l l1 i r s.1 s.2) s=some e) (hD:Qe2 Γ rv n l l1 i r e):Qfl Γ rv n l l1 i r s.1 s.2:=by
 refine Qau (C:=fun (s:Bool×Int)=>Qfl Γ rv n l l1 i r s.1 s.2) (D:=fun (e:Bool)=>Qe2 Γ rv n l l1 i r e) ?_ h hD
 clear h hD s e
 rintro ⟨twice,k⟩ z_ h hI hE
 replace h:QaZ n l l1 i r twice k=_:=h
 unfold QaZ at h
 rcases Qah h with ⟨h8,h⟩|⟨h8,h⟩
 ·rcases Qah h with ⟨h9,h⟩|⟨h9,h⟩
  ·exact gn 11 [1,3,4,5,6,7] [0,1] [bT h8,hH (.draw 14 []),rp 12 (bT h9)] (hI _ (oJ h))
  ·obtain ⟨x1,h10,h⟩:=Qaf h
   obtain ⟨x2,h11,h⟩:=Qaf h
   exact gn 11 [1,3,4,5,6,7] [0,1] [bT h8,hH (.draw 14 []),rp 4 (bF h9),cE e_str h10,rp 5 (bF h9),cE e_str h11,rp 3 (bF h9)] (hI _ (oJ h))
 ·exact gn 5 [1,3,4,5,6] [0,1] [bF h8] (hE _ (oJ h))
theorem Qiz (Γ:Gam) (rv:List Qab) {n l} {s:List Qab×Int} {e:List Qab} (h:loopF (fun s=>QaY n l s.1 s.2) s=some e) (hD:Qe1 Γ rv n l e):Qfk Γ rv n l s.1 s.2:=by
 refine Qau (C:=fun (s:List Qab×Int)=>Qfk Γ rv n l s.1 s.2) (D:=fun (e:List Qab)=>Qe1 Γ rv n l e) ?_ h hD
 clear h hD s e
 rintro ⟨l1,i⟩ z_ h hI hE
 replace h:QaY n l l1 i=_:=h
 unfold QaY at h
 rcases Qah h with ⟨h2,h⟩|⟨h2,h⟩
 ·obtain ⟨r,h3,h⟩:=Qaf h
  obtain ⟨h4,h⟩:=Qar h
  obtain ⟨x0,h5,h⟩:=Qaf h
  obtain ⟨r1,h6,h⟩:=Qaf h
  rcases Qah h with ⟨h7,h⟩|⟨h7,h⟩
  ·obtain ⟨e0,h12,h⟩:=Qaf h
   refine gn 21 [1,3,4,5,6,7] [0,1] [nL e_str n.places,bT h2,cC (Qbv h3),oO (h4),cE e_str h5,cC (Qed h6),nF h7] (QiA Γ rv h12 ?_)
   obtain ⟨twice1,rfl⟩:∃ x,x=e0:=⟨_,rfl⟩
   replace h:(br twice1 (chk (okN (l1++[(Qab.mk 6 (catS Qdc r))]).length 24) (some (.inl ((l1++[(Qab.mk 6 (catS Qdc r))]),(addK .i64 i 1))))) (some (.inl (l1,(addK .i64 i 1)))):Option ((List Qab×Int)⊕(List Qab)))=some _:=h
   rcases Qah h with ⟨h13,h⟩|⟨h13,h⟩
   ·obtain ⟨h14,h⟩:=Qar h
    exact gn 7 [1,3,4] [0,3] [bT h13,oO (Eq.refl ([(Qab.mk 6 (catS Qdc r))].map Qab.enc).length),aO Qab.enc h14] (hI _ (oJ h))
   ·exact gn 7 [1,3,4] [0,1] [bF h13] (hI _ (oJ h))
  ·obtain ⟨h15,h⟩:=Qar h
   exact gn 18 [1,3,4] [0,3] [nL e_str n.places,bT h2,cC (Qbv h3),oO (h4),cE e_str h5,cC (Qed h6),nT h7,oO (Eq.refl ([(Qab.mk 5 (catS Qdc r))].map Qab.enc).length),aO Qab.enc h15] (hI _ (oJ h))
 ·exact gn 5 [3] [1] [nL e_str n.places,bF h2] (hE _ (oJ h))
theorem Qe0 (Γ:Gam) (rv:List Qab) {n l} (h:QbZ n l=some rv):Qb7 Γ rv ⟨[.c 15],⟨64,[vP 1 0 2,vO 3 1 2 l Qab.enc],[oX 2 25 (Qal.enc n),oS 2 164 l Qab.enc]⟩⟩:=by
 unfold QbZ at h
 obtain ⟨e1,h16,h⟩:=Qaf h
 refine gn 5 [1,3,4] [0,1] [] (Qiz Γ rv h16 ?_)
 obtain ⟨l2,rfl⟩:∃ x,x=e1:=⟨_,rfl⟩
 replace h:(some l2:Option (List Qab))=some _:=h
 obtain rfl:=Option.some.inj h
 exact gr 2 [0] []
theorem Qf1 {n} {rv:List Qab} (h:QcD n=some rv):AFn Tryz.prog 106 [.agg (Qal.enc n)] [] (one (lO 0 2 rv Qab.enc)) [oS 2 164 rv Qab.enc]:=by
 refine QaK Tryz.func106 (by kernel_rfl) (by kernel_rfl) (fun Γ=>?_)
 unfold QcD at h
 rcases Qah h with ⟨h0,h⟩|⟨h0,h⟩
 ·obtain ⟨h1,h⟩:=Qar h
  exact gn 9 [1,3] [0,2] [nL e_str n.places,bT h0,oO (Eq.refl ([(Qab.mk 4 Qjx)].map Qab.enc).length),aN (l:=([(Qab.mk 4 Qjx)]:List Qab)) Qab.enc h1] (Qe0 Γ rv h)
 ·exact gn 9 [1,3] [0,1] [nL e_str n.places,bF h0,hW 1,hH (.adopt 3 2 164)] (Qe0 Γ rv h)
def Qiy (Γ:Gam) (rv:List Qab) (cf:Cf):Prop:=Go Tryz.prog Tryz.f66 [] Γ (one (lL 2 rv Qab.enc)) [] cf
def QjU (Γ:Gam) (rv:List Qab) (n:Qal) (l:List Qab) (l1:List Qab) (i:Int):Prop:=Qiy Γ rv ⟨[.c 244,.l 244,.b 0,.c 31],⟨28,[vP 1 0 2,vO 3 1 2 l1 Qab.enc,vI 4 i],[oX 2 25 (Qal.enc n),oS 2 164 l1 Qab.enc]⟩⟩
def QiQ (Γ:Gam) (rv:List Qab) (n:Qal) (l:List Qab) (l2:List Qab):Prop:=Qiy Γ rv ⟨[.c 31],⟨28,[vO 3 0 2 l2 Qab.enc],[oS 2 164 l2 Qab.enc]⟩⟩
theorem Qoj (Γ:Gam) (rv:List Qab) {n l} {s:List Qab×Int} {e:List Qab} (h:loopF (fun s=>Qcz n l s.1 s.2) s=some e) (hD:QiQ Γ rv n l e):QjU Γ rv n l s.1 s.2:=by
 refine Qau (C:=fun (s:List Qab×Int)=>QjU Γ rv n l s.1 s.2) (D:=fun (e:List Qab)=>QiQ Γ rv n l e) ?_ h hD
 clear h hD s e
 rintro ⟨l1,i⟩ z_ h hI hE
 replace h:Qcz n l l1 i=_:=h
 unfold Qcz at h
 rcases Qah h with ⟨h3,h⟩|⟨h3,h⟩
 ·obtain ⟨r1,h4,h⟩:=Qaf h
  obtain ⟨h5,h⟩:=Qar h
  exact gn 11 [1,3,4] [0,2] [nL Qao.enc n.arcs,bT h3,cC (Qok h4),aO Qab.enc h5] (hI _ (oJ h))
 ·exact gn 5 [3] [1] [nL Qao.enc n.arcs,bF h3] (hE _ (oJ h))
theorem QiP (Γ:Gam) (rv:List Qab) {n l} (h:QeC n l=some rv):Qiy Γ rv ⟨[.c 15],⟨28,[vP 1 0 2,vO 3 1 2 l Qab.enc],[oX 2 25 (Qal.enc n),oS 2 164 l Qab.enc]⟩⟩:=by
 unfold QeC at h
 obtain ⟨e0,h6,h⟩:=Qaf h
 refine gn 5 [1,3,4] [0,1] [] (Qoj Γ rv h6 ?_)
 obtain ⟨l2,rfl⟩:∃ x,x=e0:=⟨_,rfl⟩
 replace h:(some l2:Option (List Qab))=some _:=h
 obtain rfl:=Option.some.inj h
 exact gr 2 [] [hW 4,hH (.frz 0),rp 3 (eL l2 Qab.enc)]
theorem Qqh {n} {rv:List Qab} (h:Qge n=some rv):AFn Tryz.prog 66 [.agg (Qal.enc n)] [] (one (lL 2 rv Qab.enc)) []:=by
 refine QaK Tryz.func66 (by kernel_rfl) (by kernel_rfl) (fun Γ=>?_)
 unfold Qge at h
 obtain ⟨r,h0,h⟩:=Qaf h
 rcases Qah h with ⟨h1,h⟩|⟨h1,h⟩
 ·obtain ⟨h2,h⟩:=Qar h
  exact gn 9 [1,3] [0,3] [cC (Qf1 h0),nL Qao.enc n.arcs,bT h1,oO (Eq.refl ([(Qab.mk 4 Qo0)].map Qab.enc).length),aO Qab.enc h2] (QiP Γ rv h)
 ·exact gn 9 [1,3] [0,1] [cC (Qf1 h0),nL Qao.enc n.arcs,bF h1] (QiP Γ rv h)
theorem Qam {n lo hi} {rv:Bool} (h:QaA n lo hi=some rv):AFn Tryz.prog 108 [.one (lI n),.one (lI lo),.one (lI hi)] [] (one (.bool rv)) []:=by
 refine QaK Tryz.func108 (by kernel_rfl) (by kernel_rfl) (fun Γ=>?_)
 unfold QaA at h
 obtain rfl:=Option.some.inj h
 exact gr 4 [] [rp 4 hP,rp 2 (oI ((geI n lo)=true)),oR True ((geI n lo)=true)]
theorem Qe4 {l} {rv:Int} (h:QeR l=some rv):AFn Tryz.prog 69 [.one (lL 14 l Qai.enc)] [] (one (lI rv)) []:=by
 refine QaK Tryz.func69 (by kernel_rfl) (by kernel_rfl) (fun Γ=>?_)
 unfold QeR at h
 rcases Qah h with ⟨h0,h⟩|⟨h0,h⟩
 ·obtain rfl:=Option.some.inj h
  exact gr 8 [] [nL Qai.enc l,bT h0]
 ·obtain ⟨x0,h1,h⟩:=Qaf h
  obtain rfl:=Option.some.inj h
  exact gr 9 [] [nL Qai.enc l,bF h0,cE Qai.enc h1,nL e_i64 x0.cap]
def Qmz (Γ:Gam) (rv:Bool) (cf:Cf):Prop:=Go Tryz.prog Tryz.f134 [] Γ (one (.bool rv)) [] cf
def Qj0 (Γ:Gam) (rv:Bool) (l:List Qai) (at_:Int) (name:ByteArray) (i:Int):Prop:=Qmz Γ rv ⟨[.c 52,.l 52,.b 0,.c 7],⟨20,[vL 0 14 l Qai.enc,vI 1 at_,vS 2 name,vI 7 i],[]⟩⟩
def QiU (Γ:Gam) (rv:Bool) (l:List Qai) (at_:Int) (name:ByteArray):Prop:=Qmz Γ rv ⟨[.c 7],⟨20,[],[]⟩⟩
theorem Qon (Γ:Gam) (rv:Bool) {l at_ name} {s:Int} {e:(Unit)⊕(Bool)} (h:loopF (fun s=>Qb0 l at_ name s) s=some e) (hD:sel e (fun e=>QiU Γ rv l at_ name) (fun e=>e=rv)):Qj0 Γ rv l at_ name s:=by
 refine Qau (C:=fun (s:Int)=>Qj0 Γ rv l at_ name s) (D:=fun (e:(Unit)⊕(Bool))=>sel e (fun e=>QiU Γ rv l at_ name) (fun e=>e=rv)) ?_ h hD
 clear h hD s e
 intro i z_ h hI hE
 replace h:Qb0 l at_ name i=_:=h
 unfold Qb0 at h
 rcases Qah h with ⟨h0,h⟩|⟨h0,h⟩
 ·obtain ⟨x0,h1,h⟩:=Qaf h
  rcases Qah h with ⟨h2,h⟩|⟨h2,h⟩
  ·obtain rfl:=(hE _ (oJ h):_=rv)
   exact gr 12 [] [bT h0,cE Qai.enc h1,bT h2]
  ·exact gn 14 [0,1,2,7] [] [bT h0,cE Qai.enc h1,bF h2] (hI _ (oJ h))
 ·exact gn 5 [] [] [bF h0] (hE _ (oJ h))
theorem QlL {l at_ name} {rv:Bool} (h:Qgg l at_ name=some rv):AFn Tryz.prog 134 [.one (lL 14 l Qai.enc),.one (lI at_),.one (.str name)] [] (one (.bool rv)) []:=by
 refine QaK Tryz.func134 (by kernel_rfl) (by kernel_rfl) (fun Γ=>?_)
 unfold Qgg at h
 obtain ⟨e0,h3,h⟩:=Qaf h
 refine gn 7 [0,1,2,7] [] [] (Qon Γ rv h3 ?_)
 rcases e0 with e0|e0
 ·replace h:(some false:Option Bool)=some _:=h
  obtain rfl:=Option.some.inj h
  exact gr 2 [] []
 ·obtain ⟨r,rfl⟩:∃ x,x=e0:=⟨_,rfl⟩
  replace h:(some r:Option Bool)=some _:=h
  exact Option.some.inj h
def QjZ (Γ:Gam) (rv:Bool) (cf:Cf):Prop:=Go Tryz.prog Tryz.f135 [] Γ (one (.bool rv)) [] cf
def QhT (Γ:Gam) (rv:Bool) (l:List Int) (i:Int):Prop:=QjZ Γ rv ⟨[.c 116,.l 116,.b 0,.c 15],⟨28,[vL 0 1 l e_i64,vI 5 i],[]⟩⟩
def Qht (Γ:Gam) (rv:Bool) (l:List Int):Prop:=QjZ Γ rv ⟨[.c 15],⟨28,[],[]⟩⟩
theorem Qmy (Γ:Gam) (rv:Bool) {l} {s:Int} {e:(Unit)⊕(Bool)} (h:loopF (fun s=>Qbo l s) s=some e) (hD:sel e (fun e=>Qht Γ rv l) (fun e=>e=rv)):QhT Γ rv l s:=by
 refine Qau (C:=fun (s:Int)=>QhT Γ rv l s) (D:=fun (e:(Unit)⊕(Bool))=>sel e (fun e=>Qht Γ rv l) (fun e=>e=rv)) ?_ h hD
 clear h hD s e
 intro i z_ h hI hE
 replace h:Qbo l i=_:=h
 unfold Qbo at h
 rcases Qah h with ⟨h2,h⟩|⟨h2,h⟩
 ·obtain ⟨x0,h3,h⟩:=Qaf h
  obtain ⟨r1,h4,h⟩:=Qaf h
  rcases Qah h with ⟨h5,h⟩|⟨h5,h⟩
  ·exact gn 14 [0,5] [] [nL e_i64 l,bT h2,cE e_i64 h3,cC (Qam h4),nF h5] (hI _ (oJ h))
  ·obtain rfl:=(hE _ (oJ h):_=rv)
   exact gr 12 [] [nL e_i64 l,bT h2,cE e_i64 h3,cC (Qam h4),nT h5]
 ·exact gn 5 [] [] [nL e_i64 l,bF h2] (hE _ (oJ h))
theorem QeF {l dims} {rv:Bool} (h:QdC l dims=some rv):AFn Tryz.prog 135 [.one (lL 1 l e_i64),.one (lI dims)] [] (one (.bool rv)) []:=by
 refine QaK Tryz.func135 (by kernel_rfl) (by kernel_rfl) (fun Γ=>?_)
 unfold QdC at h
 obtain ⟨r,h0,h⟩:=Qaf h
 rcases Qah h with ⟨h1,h⟩|⟨h1,h⟩
 ·obtain rfl:=Option.some.inj h
  exact gr 8 [] [nL e_i64 l,cC (Qam h0),hP,hP,oI ((!r)=false),nL e_i64 l,hP,hP,hP,rp 2 (oI ((!r)=false)),oR True ((!r)=false),bT h1]
 ·obtain ⟨e0,h6,h⟩:=Qaf h
  refine gn 12 [0,5] [] [nL e_i64 l,cC (Qam h0),hP,hP,oI ((!r)=false),nL e_i64 l,hP,hP,hP,rp 2 (oI ((!r)=false)),oR True ((!r)=false),bF h1] (Qmy Γ rv h6 ?_)
  rcases e0 with e0|e0
  ·replace h:(some true:Option Bool)=some _:=h
   obtain rfl:=Option.some.inj h
   exact gr 2 [] []
  ·obtain ⟨r2,rfl⟩:∃ x,x=e0:=⟨_,rfl⟩
   replace h:(some r2:Option Bool)=some _:=h
   exact Option.some.inj h
def Qbj (Γ:Gam) (rv:List Int) (cf:Cf):Prop:=Go Tryz.prog Tryz.f109 [] Γ (one (lL 1 rv e_i64)) [] cf
theorem Qi2 (Γ:Gam) (rv:List Int) {x0 l8} (h:QdK x0 l8=some rv):Qbj Γ rv ⟨[.c 4095],⟨125,[vP 7 0 14,vO 8 1 1 l8 e_i64],[oX 14 79 (Qai.enc x0),oS 1 59 l8 e_i64]⟩⟩:=by
 unfold QdK at h
 obtain ⟨r11,h30,h⟩:=Qaf h
 rcases Qah h with ⟨h31,h⟩|⟨h31,h⟩
 ·obtain ⟨r12,h32,h⟩:=Qaf h
  rcases Qah h with ⟨h33,h⟩|⟨h33,h⟩
  ·obtain ⟨r13,h34,h⟩:=Qaf h
   rcases Qah h with ⟨h35,h⟩|⟨h35,h⟩
   ·obtain ⟨r14,h36,h⟩:=Qaf h
    rcases Qah h with ⟨h37,h⟩|⟨h37,h⟩
    ·obtain rfl:=Option.some.inj h
     exact gr 7 [] [cC (Qam h30),rp 3 (nF h31),cC (Qam h32),rp 2 (nF h31),rp 3 (nF h33),cC (Qam h34),rp 2 (nF h33),rp 3 (nF h35),cC (Qam h36),rp 2 (nF h35),nF h37,hW 5,hH (.frz 1),rp 3 (eL l8 e_i64)]
    ·obtain ⟨h38,h⟩:=Qar h
     obtain rfl:=Option.some.inj h
     exact gr 7 [] [cC (Qam h30),rp 3 (nF h31),cC (Qam h32),rp 2 (nF h31),rp 3 (nF h33),cC (Qam h34),rp 2 (nF h33),rp 3 (nF h35),cC (Qam h36),rp 2 (nF h35),nT h37,oO (Eq.refl ([2].map e_i64).length),aO e_i64 h38,hW 5,hH (.frz 3),rp 4 (oO (Eq.refl ((l8++[2]).map e_i64).length))]
   ·obtain ⟨h39,h⟩:=Qar h
    obtain rfl:=Option.some.inj h
    exact gr 7 [] [cC (Qam h30),rp 3 (nF h31),cC (Qam h32),rp 2 (nF h31),rp 3 (nF h33),cC (Qam h34),rp 2 (nF h33),rp 5 (nT h35),tT,oO (Eq.refl ([2].map e_i64).length),aO e_i64 h39,hW 5,hH (.frz 3),rp 4 (oO (Eq.refl ((l8++[2]).map e_i64).length))]
  ·obtain ⟨h40,h⟩:=Qar h
   obtain rfl:=Option.some.inj h
   exact gr 7 [] [cC (Qam h30),rp 3 (nF h31),cC (Qam h32),rp 2 (nF h31),rp 5 (nT h33),rp 6 tT,oO (Eq.refl ([2].map e_i64).length),aO e_i64 h40,hW 5,hH (.frz 3),rp 4 (oO (Eq.refl ((l8++[2]).map e_i64).length))]
 ·obtain ⟨h41,h⟩:=Qar h
  obtain rfl:=Option.some.inj h
  exact gr 7 [] [cC (Qam h30),rp 5 (nT h31),rp 11 tT,oO (Eq.refl ([2].map e_i64).length),aO e_i64 h41,hW 5,hH (.frz 3),rp 4 (oO (Eq.refl ((l8++[2]).map e_i64).length))]
theorem Qi1 (Γ:Gam) (rv:List Int) {x0 l7} (h:QdJ x0 l7=some rv):Qbj Γ rv ⟨[.c 2047],⟨125,[vP 7 0 14,vO 8 1 1 l7 e_i64],[oX 14 79 (Qai.enc x0),oS 1 59 l7 e_i64]⟩⟩:=by
 unfold QdJ at h
 obtain ⟨r9,h25,h⟩:=Qaf h
 rcases Qah h with ⟨h26,h⟩|⟨h26,h⟩
 ·obtain ⟨r10,h27,h⟩:=Qaf h
  rcases Qah h with ⟨h28,h⟩|⟨h28,h⟩
  ·exact gn 5 [7,8] [0,1] [cC (Qam h25),rp 3 (nF h26),cC (Qam h27),rp 2 (nF h26),nF h28] (Qi2 Γ rv h)
  ·obtain ⟨h29,h⟩:=Qar h
   exact gn 5 [7,8] [0,3] [cC (Qam h25),rp 3 (nF h26),cC (Qam h27),rp 2 (nF h26),nT h28,oO (Eq.refl ([16].map e_i64).length),aO e_i64 h29] (Qi2 Γ rv h)
 ·obtain ⟨h42,h⟩:=Qar h
  obtain ⟨r15,h43,h⟩:=Qaf h
  rcases Qah h with ⟨h44,h⟩|⟨h44,h⟩
  ·obtain ⟨r16,h45,h⟩:=Qaf h
   rcases Qah h with ⟨h46,h⟩|⟨h46,h⟩
   ·obtain ⟨r17,h47,h⟩:=Qaf h
    rcases Qah h with ⟨h48,h⟩|⟨h48,h⟩
    ·obtain ⟨r18,h49,h⟩:=Qaf h
     rcases Qah h with ⟨h50,h⟩|⟨h50,h⟩
     ·obtain rfl:=Option.some.inj h
      exact gr 12 [] [cC (Qam h25),rp 5 (nT h26),tT,oO (Eq.refl ([16].map e_i64).length),aO e_i64 h42,cC (Qam h43),rp 3 (nF h44),cC (Qam h45),rp 2 (nF h44),rp 3 (nF h46),cC (Qam h47),rp 2 (nF h46),rp 3 (nF h48),cC (Qam h49),rp 2 (nF h48),nF h50,hW 5,hH (.frz 3),rp 4 (oO (Eq.refl ((l7++[16]).map e_i64).length))]
     ·obtain ⟨h51,h⟩:=Qar h
      obtain rfl:=Option.some.inj h
      exact gr 12 [] [cC (Qam h25),rp 5 (nT h26),tT,oO (Eq.refl ([16].map e_i64).length),aO e_i64 h42,cC (Qam h43),rp 3 (nF h44),cC (Qam h45),rp 2 (nF h44),rp 3 (nF h46),cC (Qam h47),rp 2 (nF h46),rp 3 (nF h48),cC (Qam h49),rp 2 (nF h48),nT h50,oO (Eq.refl ([2].map e_i64).length),aO e_i64 h51,hW 5,hH (.frz 5),rp 4 (oO (Eq.refl (((l7++[16])++[2]).map e_i64).length))]
    ·obtain ⟨h52,h⟩:=Qar h
     obtain rfl:=Option.some.inj h
     exact gr 12 [] [cC (Qam h25),rp 5 (nT h26),tT,oO (Eq.refl ([16].map e_i64).length),aO e_i64 h42,cC (Qam h43),rp 3 (nF h44),cC (Qam h45),rp 2 (nF h44),rp 3 (nF h46),cC (Qam h47),rp 2 (nF h46),rp 5 (nT h48),tT,oO (Eq.refl ([2].map e_i64).length),aO e_i64 h52,hW 5,hH (.frz 5),rp 4 (oO (Eq.refl (((l7++[16])++[2]).map e_i64).length))]
   ·obtain ⟨h53,h⟩:=Qar h
    obtain rfl:=Option.some.inj h
    exact gr 12 [] [cC (Qam h25),rp 5 (nT h26),tT,oO (Eq.refl ([16].map e_i64).length),aO e_i64 h42,cC (Qam h43),rp 3 (nF h44),cC (Qam h45),rp 2 (nF h44),rp 5 (nT h46),rp 6 tT,oO (Eq.refl ([2].map e_i64).length),aO e_i64 h53,hW 5,hH (.frz 5),rp 4 (oO (Eq.refl (((l7++[16])++[2]).map e_i64).length))]
  ·obtain ⟨h54,h⟩:=Qar h
   obtain rfl:=Option.some.inj h
   exact gr 12 [] [cC (Qam h25),rp 5 (nT h26),tT,oO (Eq.refl ([16].map e_i64).length),aO e_i64 h42,cC (Qam h43),rp 5 (nT h44),rp 11 tT,oO (Eq.refl ([2].map e_i64).length),aO e_i64 h54,hW 5,hH (.frz 5),rp 4 (oO (Eq.refl (((l7++[16])++[2]).map e_i64).length))]
theorem Qi0 (Γ:Gam) (rv:List Int) {x0 l6} (h:QdI x0 l6=some rv):Qbj Γ rv ⟨[.c 1023],⟨125,[vP 7 0 14,vO 8 1 1 l6 e_i64],[oX 14 79 (Qai.enc x0),oS 1 59 l6 e_i64]⟩⟩:=by
 unfold QdI at h
 obtain ⟨r8,h22,h⟩:=Qaf h
 rcases Qah h with ⟨h23,h⟩|⟨h23,h⟩
 ·obtain ⟨h24,h⟩:=Qar h
  exact gn 5 [7,8] [0,3] [cC (Qam h22),rp 4 hP,rp 2 (oI ((!r8)=false)),oR True ((!r8)=false),bT h23,oO (Eq.refl ([15].map e_i64).length),aO e_i64 h24] (Qi1 Γ rv h)
 ·exact gn 5 [7,8] [0,1] [cC (Qam h22),rp 4 hP,rp 2 (oI ((!r8)=false)),oR True ((!r8)=false),bF h23] (Qi1 Γ rv h)
theorem QiZ (Γ:Gam) (rv:List Int) {x0 l5} (h:QdH x0 l5=some rv):Qbj Γ rv ⟨[.c 511],⟨125,[vP 7 0 14,vO 8 1 1 l5 e_i64],[oX 14 79 (Qai.enc x0),oS 1 59 l5 e_i64]⟩⟩:=by
 unfold QdH at h
 obtain ⟨r7,h19,h⟩:=Qaf h
 rcases Qah h with ⟨h20,h⟩|⟨h20,h⟩
 ·exact gn 5 [7,8] [0,1] [cC (Qam h19),nF h20] (Qi0 Γ rv h)
 ·obtain ⟨h21,h⟩:=Qar h
  exact gn 5 [7,8] [0,3] [cC (Qam h19),nT h20,oO (Eq.refl ([18].map e_i64).length),aO e_i64 h21] (Qi0 Γ rv h)
theorem QiY (Γ:Gam) (rv:List Int) {l x0 l4} (h:QdG l x0 l4=some rv):Qbj Γ rv ⟨[.c 255],⟨125,[vL 1 14 l Qai.enc,vP 7 0 14,vO 8 1 1 l4 e_i64],[oX 14 79 (Qai.enc x0),oS 1 59 l4 e_i64]⟩⟩:=by
 unfold QdG at h
 obtain ⟨r5,h15,h⟩:=Qaf h
 obtain ⟨r6,h16,h⟩:=Qaf h
 rcases Qah h with ⟨h17,h⟩|⟨h17,h⟩
 ·exact gn 5 [7,8] [0,1] [hH (.draw 6 []),cC (Qe4 h15),cC (QeF h16),nF h17] (QiZ Γ rv h)
 ·obtain ⟨h18,h⟩:=Qar h
  exact gn 5 [7,8] [0,3] [hH (.draw 6 []),cC (Qe4 h15),cC (QeF h16),nT h17,oO (Eq.refl ([17].map e_i64).length),aO e_i64 h18] (QiZ Γ rv h)
theorem Qih (Γ:Gam) (rv:List Int) {x0 l12} (h:Qfw x0 l12=some rv):Qbj Γ rv ⟨[.c 4095],⟨125,[vP 7 0 14,vO 8 1 1 l12 e_i64],[oX 14 79 (Qai.enc x0),oS 1 59 l12 e_i64]⟩⟩:=by
 unfold Qfw at h
 obtain ⟨r25,h71,h⟩:=Qaf h
 rcases Qah h with ⟨h72,h⟩|⟨h72,h⟩
 ·obtain ⟨r26,h73,h⟩:=Qaf h
  rcases Qah h with ⟨h74,h⟩|⟨h74,h⟩
  ·obtain ⟨r27,h75,h⟩:=Qaf h
   rcases Qah h with ⟨h76,h⟩|⟨h76,h⟩
   ·obtain ⟨r28,h77,h⟩:=Qaf h
    rcases Qah h with ⟨h78,h⟩|⟨h78,h⟩
    ·obtain rfl:=Option.some.inj h
     exact gr 7 [] [cC (Qam h71),rp 3 (nF h72),cC (Qam h73),rp 2 (nF h72),rp 3 (nF h74),cC (Qam h75),rp 2 (nF h74),rp 3 (nF h76),cC (Qam h77),rp 2 (nF h76),nF h78,hW 5,hH (.frz 1),rp 3 (eL l12 e_i64)]
    ·obtain ⟨h79,h⟩:=Qar h
     obtain rfl:=Option.some.inj h
     exact gr 7 [] [cC (Qam h71),rp 3 (nF h72),cC (Qam h73),rp 2 (nF h72),rp 3 (nF h74),cC (Qam h75),rp 2 (nF h74),rp 3 (nF h76),cC (Qam h77),rp 2 (nF h76),nT h78,oO (Eq.refl ([2].map e_i64).length),aO e_i64 h79,hW 5,hH (.frz 3),rp 4 (oO (Eq.refl ((l12++[2]).map e_i64).length))]
   ·obtain ⟨h80,h⟩:=Qar h
    obtain rfl:=Option.some.inj h
    exact gr 7 [] [cC (Qam h71),rp 3 (nF h72),cC (Qam h73),rp 2 (nF h72),rp 3 (nF h74),cC (Qam h75),rp 2 (nF h74),rp 5 (nT h76),tT,oO (Eq.refl ([2].map e_i64).length),aO e_i64 h80,hW 5,hH (.frz 3),rp 4 (oO (Eq.refl ((l12++[2]).map e_i64).length))]
  ·obtain ⟨h81,h⟩:=Qar h
   obtain rfl:=Option.some.inj h
   exact gr 7 [] [cC (Qam h71),rp 3 (nF h72),cC (Qam h73),rp 2 (nF h72),rp 5 (nT h74),rp 6 tT,oO (Eq.refl ([2].map e_i64).length),aO e_i64 h81,hW 5,hH (.frz 3),rp 4 (oO (Eq.refl ((l12++[2]).map e_i64).length))]
 ·obtain ⟨h82,h⟩:=Qar h
  obtain rfl:=Option.some.inj h
  exact gr 7 [] [cC (Qam h71),rp 5 (nT h72),rp 11 tT,oO (Eq.refl ([2].map e_i64).length),aO e_i64 h82,hW 5,hH (.frz 3),rp 4 (oO (Eq.refl ((l12++[2]).map e_i64).length))]
theorem Qig (Γ:Gam) (rv:List Int) {x0 l11} (h:Qfv x0 l11=some rv):Qbj Γ rv ⟨[.c 2047],⟨125,[vP 7 0 14,vO 8 1 1 l11 e_i64],[oX 14 79 (Qai.enc x0),oS 1 59 l11 e_i64]⟩⟩:=by
 unfold Qfv at h
 obtain ⟨r23,h66,h⟩:=Qaf h
 rcases Qah h with ⟨h67,h⟩|⟨h67,h⟩
 ·obtain ⟨r24,h68,h⟩:=Qaf h
  rcases Qah h with ⟨h69,h⟩|⟨h69,h⟩
  ·exact gn 5 [7,8] [0,1] [cC (Qam h66),rp 3 (nF h67),cC (Qam h68),rp 2 (nF h67),nF h69] (Qih Γ rv h)
  ·obtain ⟨h70,h⟩:=Qar h
   exact gn 5 [7,8] [0,3] [cC (Qam h66),rp 3 (nF h67),cC (Qam h68),rp 2 (nF h67),nT h69,oO (Eq.refl ([16].map e_i64).length),aO e_i64 h70] (Qih Γ rv h)
 ·obtain ⟨h83,h⟩:=Qar h
  obtain ⟨r29,h84,h⟩:=Qaf h
  rcases Qah h with ⟨h85,h⟩|⟨h85,h⟩
  ·obtain ⟨r30,h86,h⟩:=Qaf h
   rcases Qah h with ⟨h87,h⟩|⟨h87,h⟩
   ·obtain ⟨r31,h88,h⟩:=Qaf h
    rcases Qah h with ⟨h89,h⟩|⟨h89,h⟩
    ·obtain ⟨r32,h90,h⟩:=Qaf h
     rcases Qah h with ⟨h91,h⟩|⟨h91,h⟩
     ·obtain rfl:=Option.some.inj h
      exact gr 12 [] [cC (Qam h66),rp 5 (nT h67),tT,oO (Eq.refl ([16].map e_i64).length),aO e_i64 h83,cC (Qam h84),rp 3 (nF h85),cC (Qam h86),rp 2 (nF h85),rp 3 (nF h87),cC (Qam h88),rp 2 (nF h87),rp 3 (nF h89),cC (Qam h90),rp 2 (nF h89),nF h91,hW 5,hH (.frz 3),rp 4 (oO (Eq.refl ((l11++[16]).map e_i64).length))]
     ·obtain ⟨h92,h⟩:=Qar h
      obtain rfl:=Option.some.inj h
      exact gr 12 [] [cC (Qam h66),rp 5 (nT h67),tT,oO (Eq.refl ([16].map e_i64).length),aO e_i64 h83,cC (Qam h84),rp 3 (nF h85),cC (Qam h86),rp 2 (nF h85),rp 3 (nF h87),cC (Qam h88),rp 2 (nF h87),rp 3 (nF h89),cC (Qam h90),rp 2 (nF h89),nT h91,oO (Eq.refl ([2].map e_i64).length),aO e_i64 h92,hW 5,hH (.frz 5),rp 4 (oO (Eq.refl (((l11++[16])++[2]).map e_i64).length))]
    ·obtain ⟨h93,h⟩:=Qar h
     obtain rfl:=Option.some.inj h
     exact gr 12 [] [cC (Qam h66),rp 5 (nT h67),tT,oO (Eq.refl ([16].map e_i64).length),aO e_i64 h83,cC (Qam h84),rp 3 (nF h85),cC (Qam h86),rp 2 (nF h85),rp 3 (nF h87),cC (Qam h88),rp 2 (nF h87),rp 5 (nT h89),tT,oO (Eq.refl ([2].map e_i64).length),aO e_i64 h93,hW 5,hH (.frz 5),rp 4 (oO (Eq.refl (((l11++[16])++[2]).map e_i64).length))]
   ·obtain ⟨h94,h⟩:=Qar h
    obtain rfl:=Option.some.inj h
    exact gr 12 [] [cC (Qam h66),rp 5 (nT h67),tT,oO (Eq.refl ([16].map e_i64).length),aO e_i64 h83,cC (Qam h84),rp 3 (nF h85),cC (Qam h86),rp 2 (nF h85),rp 5 (nT h87),rp 6 tT,oO (Eq.refl ([2].map e_i64).length),aO e_i64 h94,hW 5,hH (.frz 5),rp 4 (oO (Eq.refl (((l11++[16])++[2]).map e_i64).length))]
  ·obtain ⟨h95,h⟩:=Qar h
   obtain rfl:=Option.some.inj h
   exact gr 12 [] [cC (Qam h66),rp 5 (nT h67),tT,oO (Eq.refl ([16].map e_i64).length),aO e_i64 h83,cC (Qam h84),rp 5 (nT h85),rp 11 tT,oO (Eq.refl ([2].map e_i64).length),aO e_i64 h95,hW 5,hH (.frz 5),rp 4 (oO (Eq.refl (((l11++[16])++[2]).map e_i64).length))]
theorem Qif (Γ:Gam) (rv:List Int) {x0 l10} (h:Qfu x0 l10=some rv):Qbj Γ rv ⟨[.c 1023],⟨125,[vP 7 0 14,vO 8 1 1 l10 e_i64],[oX 14 79 (Qai.enc x0),oS 1 59 l10 e_i64]⟩⟩:=by
 unfold Qfu at h
 obtain ⟨r22,h63,h⟩:=Qaf h
 rcases Qah h with ⟨h64,h⟩|⟨h64,h⟩
 ·obtain ⟨h65,h⟩:=Qar h
  exact gn 5 [7,8] [0,3] [cC (Qam h63),rp 4 hP,rp 2 (oI ((!r22)=false)),oR True ((!r22)=false),bT h64,oO (Eq.refl ([15].map e_i64).length),aO e_i64 h65] (Qig Γ rv h)
 ·exact gn 5 [7,8] [0,1] [cC (Qam h63),rp 4 hP,rp 2 (oI ((!r22)=false)),oR True ((!r22)=false),bF h64] (Qig Γ rv h)
theorem Qi3 (Γ:Gam) (rv:List Int) {x0 l9} (h:Qf3 x0 l9=some rv):Qbj Γ rv ⟨[.c 511],⟨125,[vP 7 0 14,vO 8 1 1 l9 e_i64],[oX 14 79 (Qai.enc x0),oS 1 59 l9 e_i64]⟩⟩:=by
 unfold Qf3 at h
 obtain ⟨r21,h60,h⟩:=Qaf h
 rcases Qah h with ⟨h61,h⟩|⟨h61,h⟩
 ·exact gn 5 [7,8] [0,1] [cC (Qam h60),nF h61] (Qif Γ rv h)
 ·obtain ⟨h62,h⟩:=Qar h
  exact gn 5 [7,8] [0,3] [cC (Qam h60),nT h61,oO (Eq.refl ([18].map e_i64).length),aO e_i64 h62] (Qif Γ rv h)
theorem QiX (Γ:Gam) (rv:List Int) {n l x0 l3} (h:QdF n l x0 l3=some rv):Qbj Γ rv ⟨[.c 127],⟨125,[vL 1 14 l Qai.enc,vP 3 0 2,vP 7 1 14,vO 8 2 1 l3 e_i64],[oX 2 25 (Qal.enc n),oX 14 79 (Qai.enc x0),oS 1 59 l3 e_i64]⟩⟩:=by
 unfold QdF at h
 obtain ⟨r3,h10,h⟩:=Qaf h
 rcases Qah h with ⟨h11,h⟩|⟨h11,h⟩
 ·obtain ⟨r4,h12,h⟩:=Qaf h
  rcases Qah h with ⟨h13,h⟩|⟨h13,h⟩
  ·exact gn 5 [1,7,8] [1,2] [nL e_str n.places,cC (Qam h10),rp 5 (nF h11),nL e_str n.places,rp 2 (nF h11),cC (Qam h12),rp 2 (nF h11),nF h13] (QiY Γ rv h)
  ·obtain ⟨h14,h⟩:=Qar h
   exact gn 5 [1,7,8] [1,4] [nL e_str n.places,cC (Qam h10),rp 5 (nF h11),nL e_str n.places,rp 2 (nF h11),cC (Qam h12),rp 2 (nF h11),nT h13,oO (Eq.refl ([11].map e_i64).length),aO e_i64 h14] (QiY Γ rv h)
 ·obtain ⟨h55,h⟩:=Qar h
  obtain ⟨r19,h56,h⟩:=Qaf h
  obtain ⟨r20,h57,h⟩:=Qaf h
  rcases Qah h with ⟨h58,h⟩|⟨h58,h⟩
  ·exact gn 10 [7,8] [1,4] [nL e_str n.places,cC (Qam h10),rp 9 (nT h11),tT,oO (Eq.refl ([11].map e_i64).length),aO e_i64 h55,hH (.draw 6 []),cC (Qe4 h56),cC (QeF h57),nF h58] (Qi3 Γ rv h)
  ·obtain ⟨h59,h⟩:=Qar h
   exact gn 10 [7,8] [1,6] [nL e_str n.places,cC (Qam h10),rp 9 (nT h11),tT,oO (Eq.refl ([11].map e_i64).length),aO e_i64 h55,hH (.draw 6 []),cC (Qe4 h56),cC (QeF h57),nT h58,oO (Eq.refl ([17].map e_i64).length),aO e_i64 h59] (Qi3 Γ rv h)
theorem QiW (Γ:Gam) (rv:List Int) {n l x0 l2} (h:QdE n l x0 l2=some rv):Qbj Γ rv ⟨[.c 63],⟨125,[vL 1 14 l Qai.enc,vP 3 0 2,vP 7 1 14,vO 8 2 1 l2 e_i64],[oX 2 25 (Qal.enc n),oX 14 79 (Qai.enc x0),oS 1 59 l2 e_i64]⟩⟩:=by
 unfold QdE at h
 obtain ⟨r2,h7,h⟩:=Qaf h
 rcases Qah h with ⟨h8,h⟩|⟨h8,h⟩
 ·exact gn 5 [1,3,7,8] [0,1,2] [cC (Qam h7),nF h8] (QiX Γ rv h)
 ·obtain ⟨h9,h⟩:=Qar h
  exact gn 5 [1,3,7,8] [0,1,4] [cC (Qam h7),nT h8,oO (Eq.refl ([22].map e_i64).length),aO e_i64 h9] (QiX Γ rv h)
theorem QiV (Γ:Gam) (rv:List Int) {n l at_ x0 l1} (h:QdD n l at_ x0 l1=some rv):Qbj Γ rv ⟨[.c 31],⟨125,[vL 1 14 l Qai.enc,vI 2 at_,vP 3 0 2,vP 7 1 14,vO 8 2 1 l1 e_i64],[oX 2 25 (Qal.enc n),oX 14 79 (Qai.enc x0),oS 1 59 l1 e_i64]⟩⟩:=by
 unfold QdD at h
 obtain ⟨r1,h4,h⟩:=Qaf h
 rcases Qah h with ⟨h5,h⟩|⟨h5,h⟩
 ·obtain ⟨h6,h⟩:=Qar h
  exact gn 5 [1,3,7,8] [0,1,4] [cC (QlL h4),bT h5,oO (Eq.refl ([6].map e_i64).length),aO e_i64 h6] (QiW Γ rv h)
 ·exact gn 5 [1,3,7,8] [0,1,2] [cC (QlL h4),bF h5] (QiW Γ rv h)
theorem Qqj {n l at_} {rv:List Int} (h:Qgh n l at_=some rv):AFn Tryz.prog 109 [.agg (Qal.enc n),.one (lL 14 l Qai.enc),.one (lI at_)] [] (one (lL 1 rv e_i64)) []:=by
 refine QaK Tryz.func109 (by kernel_rfl) (by kernel_rfl) (fun Γ=>?_)
 unfold Qgh at h
 obtain ⟨x0,h0,h⟩:=Qaf h
 obtain ⟨r,h1,h⟩:=Qaf h
 rcases Qah h with ⟨h2,h⟩|⟨h2,h⟩
 ·exact gn 11 [1,2,3,7,8] [0,1,2] [cE Qai.enc h0,cC (Qed h1),nF h2,hW 1,hH (.adopt 8 1 59)] (QiV Γ rv h)
 ·obtain ⟨h3,h⟩:=Qar h
  exact gn 11 [1,2,3,7,8] [0,1,3] [cE Qai.enc h0,cC (Qed h1),nT h2,oO (Eq.refl ([5].map e_i64).length),aN (l:=([5]:List Int)) e_i64 h3] (QiV Γ rv h)
def Qe3 (Γ:Gam) (rv:List Qab) (cf:Cf):Prop:=Go Tryz.prog Tryz.f67 [] Γ (one (lL 2 rv Qab.enc)) [] cf
def QjY (Γ:Gam) (rv:List Qab) (n:Qal) (l:List Qai) (i:Int) (r1:List Int) (l3:List Qab) (k:Int):Prop:=Qe3 Γ rv ⟨[.c 31308,.l 31308,.b 2,.b 1,.c 979,.l 244,.b 0,.c 31],⟨44,[vL 1 14 l Qai.enc,vP 2 0 2,vO 5 1 2 l3 Qab.enc,vI 6 i,vL 7 1 r1 e_i64,vI 8 k],[oX 2 25 (Qal.enc n),oS 2 164 l3 Qab.enc]⟩⟩
def QiT (Γ:Gam) (rv:List Qab) (n:Qal) (l:List Qai) (i:Int) (r1:List Int) (l4:List Qab):Prop:=Qe3 Γ rv ⟨[.b 1,.c 979,.l 244,.b 0,.c 31],⟨44,[vL 1 14 l Qai.enc,vP 2 0 2,vO 5 1 2 l4 Qab.enc,vI 6 i],[oX 2 25 (Qal.enc n),oS 2 164 l4 Qab.enc]⟩⟩
def QjX (Γ:Gam) (rv:List Qab) (n:Qal) (l:List Qai) (l2:List Qab) (i:Int):Prop:=Qe3 Γ rv ⟨[.c 244,.l 244,.b 0,.c 31],⟨44,[vL 1 14 l Qai.enc,vP 2 0 2,vO 5 1 2 l2 Qab.enc,vI 6 i],[oX 2 25 (Qal.enc n),oS 2 164 l2 Qab.enc]⟩⟩
def QiS (Γ:Gam) (rv:List Qab) (n:Qal) (l:List Qai) (l5:List Qab):Prop:=Qe3 Γ rv ⟨[.c 31],⟨44,[vO 5 0 2 l5 Qab.enc],[oS 2 164 l5 Qab.enc]⟩⟩
theorem Qom (Γ:Gam) (rv:List Qab) {n l i r1} {s:List Qab×Int} {e:List Qab} (h:loopF (fun s=>Qf2 n l i r1 s.1 s.2) s=some e) (hD:QiT Γ rv n l i r1 e):QjY Γ rv n l i r1 s.1 s.2:=by
 refine Qau (C:=fun (s:List Qab×Int)=>QjY Γ rv n l i r1 s.1 s.2) (D:=fun (e:List Qab)=>QiT Γ rv n l i r1 e) ?_ h hD
 clear h hD s e
 rintro ⟨l3,k⟩ z_ h hI hE
 replace h:Qf2 n l i r1 l3 k=_:=h
 unfold Qf2 at h
 rcases Qah h with ⟨h5,h⟩|⟨h5,h⟩
 ·obtain ⟨x0,h6,h⟩:=Qaf h
  obtain ⟨r2,h7,h⟩:=Qaf h
  obtain ⟨h8,h⟩:=Qar h
  exact gn 11 [1,2,5,6,7,8] [0,3] [nL e_i64 r1,bT h5,hH (.draw 9 []),cE e_i64 h6,cC (Qbv h7),oO (Eq.refl ([(Qab.mk x0 r2)].map Qab.enc).length),aO Qab.enc h8] (hI _ (oJ h))
 ·exact gn 5 [1,2,5,6] [0,1] [nL e_i64 r1,bF h5] (hE _ (oJ h))
theorem Qol (Γ:Gam) (rv:List Qab) {n l} {s:List Qab×Int} {e:List Qab} (h:loopF (fun s=>QcA n l s.1 s.2) s=some e) (hD:QiS Γ rv n l e):QjX Γ rv n l s.1 s.2:=by
 refine Qau (C:=fun (s:List Qab×Int)=>QjX Γ rv n l s.1 s.2) (D:=fun (e:List Qab)=>QiS Γ rv n l e) ?_ h hD
 clear h hD s e
 rintro ⟨l2,i⟩ z_ h hI hE
 replace h:QcA n l l2 i=_:=h
 unfold QcA at h
 rcases Qah h with ⟨h3,h⟩|⟨h3,h⟩
 ·obtain ⟨r1,h4,h⟩:=Qaf h
  obtain ⟨e0,h9,h⟩:=Qaf h
  refine gn 13 [1,2,5,6,7,8] [0,1] [nL Qai.enc l,bT h3,cC (Qqj h4)] (Qom Γ rv h9 ?_)
  obtain ⟨l4,rfl⟩:∃ x,x=e0:=⟨_,rfl⟩
  replace h:(some (.inl (l4,(addK .i64 i 1))):Option ((List Qab×Int)⊕(List Qab)))=some _:=h
  exact gn 3 [1,2,5,6] [0,1] [] (hI _ (oJ h))
 ·exact gn 5 [5] [1] [nL Qai.enc l,bF h3] (hE _ (oJ h))
theorem QiR (Γ:Gam) (rv:List Qab) {n l l1} (h:QeE n l l1=some rv):Qe3 Γ rv ⟨[.c 15],⟨44,[vL 1 14 l Qai.enc,vP 2 0 2,vO 5 1 2 l1 Qab.enc],[oX 2 25 (Qal.enc n),oS 2 164 l1 Qab.enc]⟩⟩:=by
 unfold QeE at h
 obtain ⟨e1,h10,h⟩:=Qaf h
 refine gn 5 [1,2,5,6] [0,1] [] (Qol Γ rv h10 ?_)
 obtain ⟨l5,rfl⟩:∃ x,x=e1:=⟨_,rfl⟩
 replace h:(some l5:Option (List Qab))=some _:=h
 obtain rfl:=Option.some.inj h
 exact gr 2 [] [hW 4,hH (.frz 0),rp 3 (eL l5 Qab.enc)]
theorem Qqi {n l} {rv:List Qab} (h:Qgf n l=some rv):AFn Tryz.prog 67 [.agg (Qal.enc n),.one (lL 14 l Qai.enc)] [] (one (lL 2 rv Qab.enc)) []:=by
 refine QaK Tryz.func67 (by kernel_rfl) (by kernel_rfl) (fun Γ=>?_)
 unfold Qgf at h
 obtain ⟨r,h0,h⟩:=Qaf h
 rcases Qah h with ⟨h1,h⟩|⟨h1,h⟩
 ·exact gn 9 [1,2,5] [0,1] [nL Qai.enc l,cC (Qam h0),nF h1,hW 1,hH (.adopt 5 2 164)] (QiR Γ rv h)
 ·obtain ⟨h2,h⟩:=Qar h
  exact gn 9 [1,2,5] [0,2] [nL Qai.enc l,cC (Qam h0),nT h1,oO (Eq.refl ([(Qab.mk 4 ByteArray.empty)].map Qab.enc).length),aN (l:=([(Qab.mk 4 ByteArray.empty)]:List Qab)) Qab.enc h2] (QiR Γ rv h)
theorem Qat {n low high} {rv:Bool} (h:Qa6 n low high=some rv):AFn Tryz.prog 76 [.one (lI n),.one (lI low),.one (lI high)] [] (one (.bool rv)) []:=by
 refine QaK Tryz.func76 (by kernel_rfl) (by kernel_rfl) (fun Γ=>?_)
 unfold Qa6 at h
 obtain rfl:=Option.some.inj h
 exact gr 4 [] [rp 4 hP,rp 2 (oI ((geI n low)=true)),oR True ((geI n low)=true)]
def Qms (Γ:Gam) (rv:Bool) (cf:Cf):Prop:=Go Tryz.prog Tryz.f136 [] Γ (one (.bool rv)) [] cf
def QjS (Γ:Gam) (rv:Bool) (a:List Int) (i:Int):Prop:=Qms Γ rv ⟨[.c 116,.l 116,.b 0,.c 15],⟨28,[vL 0 1 a e_i64,vI 5 i],[]⟩⟩
def QiK (Γ:Gam) (rv:Bool) (a:List Int):Prop:=Qms Γ rv ⟨[.c 15],⟨28,[],[]⟩⟩
theorem Qog (Γ:Gam) (rv:Bool) {a} {s:Int} {e:(Unit)⊕(Bool)} (h:loopF (fun s=>QbX a s) s=some e) (hD:sel e (fun e=>QiK Γ rv a) (fun e=>e=rv)):QjS Γ rv a s:=by
 refine Qau (C:=fun (s:Int)=>QjS Γ rv a s) (D:=fun (e:(Unit)⊕(Bool))=>sel e (fun e=>QiK Γ rv a) (fun e=>e=rv)) ?_ h hD
 clear h hD s e
 intro i z_ h hI hE
 replace h:QbX a i=_:=h
 unfold QbX at h
 rcases Qah h with ⟨h1,h⟩|⟨h1,h⟩
 ·obtain ⟨x0,h2,h⟩:=Qaf h
  rcases Qah h with ⟨h3,h⟩|⟨h3,h⟩
  ·obtain rfl:=(hE _ (oJ h):_=rv)
   exact gr 12 [] [nL e_i64 a,bT h1,cE e_i64 h2,rp 6 (bT h3),tT]
  ·rcases Qah h with ⟨h4,h⟩|⟨h4,h⟩
   ·obtain rfl:=(hE _ (oJ h):_=rv)
    exact gr 12 [] [nL e_i64 a,bT h1,cE e_i64 h2,rp 3 (bF h3),cE e_i64 h2,rp 3 (bF h3),bT h4]
   ·exact gn 14 [0,5] [] [nL e_i64 a,bT h1,cE e_i64 h2,rp 3 (bF h3),cE e_i64 h2,rp 3 (bF h3),bF h4] (hI _ (oJ h))
 ·exact gn 5 [] [] [nL e_i64 a,bF h1] (hE _ (oJ h))
theorem QlE {a dims} {rv:Bool} (h:Qem a dims=some rv):AFn Tryz.prog 136 [.one (lL 1 a e_i64),.one (lI dims)] [] (one (.bool rv)) []:=by
 refine QaK Tryz.func136 (by kernel_rfl) (by kernel_rfl) (fun Γ=>?_)
 unfold Qem at h
 rcases Qah h with ⟨h0,h⟩|⟨h0,h⟩
 ·obtain rfl:=Option.some.inj h
  exact gr 8 [] [nL e_i64 a,bT h0]
 ·obtain ⟨e0,h5,h⟩:=Qaf h
  refine gn 12 [0,5] [] [nL e_i64 a,bF h0] (Qog Γ rv h5 ?_)
  rcases e0 with e0|e0
  ·replace h:(some true:Option Bool)=some _:=h
   obtain rfl:=Option.some.inj h
   exact gr 2 [] []
  ·obtain ⟨r,rfl⟩:∃ x,x=e0:=⟨_,rfl⟩
   replace h:(some r:Option Bool)=some _:=h
   exact Option.some.inj h
theorem Qa9 {s0} {rv:Int} (h:Qdx s0=some rv):AFn Tryz.prog 137 [.agg (Qas.enc s0)] [] (one (lI rv)) []:=by
 refine QaK Tryz.func137 (by kernel_rfl) (by kernel_rfl) (fun Γ=>?_)
 unfold Qdx at h
 rcases Qah h with ⟨h0,h⟩|⟨h0,h⟩
 ·obtain rfl:=Option.some.inj h
  exact gr 8 [] [rp 12 hP,rp 2 (oI ((eqI s0.place (-1))=true)),oR True ((eqI s0.place (-1))=true),rp 2 (oI (((eqI s0.place (-1))&&(eqI s0.open_ 0))=true)),oR True (((eqI s0.place (-1))&&(eqI s0.open_ 0))=true),rp 2 (oI ((((eqI s0.place (-1))&&(eqI s0.open_ 0))&&(eqI s0.close 0))=true)),oR True ((((eqI s0.place (-1))&&(eqI s0.open_ 0))&&(eqI s0.close 0))=true),bT h0]
 ·rcases Qah h with ⟨h1,h⟩|⟨h1,h⟩
  ·obtain rfl:=Option.some.inj h
   exact gr 13 [] [rp 12 hP,rp 2 (oI ((eqI s0.place (-1))=true)),oR True ((eqI s0.place (-1))=true),rp 2 (oI (((eqI s0.place (-1))&&(eqI s0.open_ 0))=true)),oR True (((eqI s0.place (-1))&&(eqI s0.open_ 0))=true),rp 2 (oI ((((eqI s0.place (-1))&&(eqI s0.open_ 0))&&(eqI s0.close 0))=true)),oR True ((((eqI s0.place (-1))&&(eqI s0.open_ 0))&&(eqI s0.close 0))=true),bF h0,rp 22 hP,rp 2 (oI ((ltI s0.place 0)=false)),oR True ((ltI s0.place 0)=false),rp 4 (oI (((ltI s0.place 0)||(ltI s0.open_ 0))=false)),oR True (((ltI s0.place 0)||(ltI s0.open_ 0))=false),rp 2 (oI ((((ltI s0.place 0)||(ltI s0.open_ 0))||(gtI s0.open_ s0.close))=false)),oR True ((((ltI s0.place 0)||(ltI s0.open_ 0))||(gtI s0.open_ s0.close))=false),rp 2 (oI (((((ltI s0.place 0)||(ltI s0.open_ 0))||(gtI s0.open_ s0.close))||(gtI s0.close 4096))=false)),oR True (((((ltI s0.place 0)||(ltI s0.open_ 0))||(gtI s0.open_ s0.close))||(gtI s0.close 4096))=false),rp 2 (oI ((((((ltI s0.place 0)||(ltI s0.open_ 0))||(gtI s0.open_ s0.close))||(gtI s0.close 4096))||(ltI s0.service 0))=false)),oR True ((((((ltI s0.place 0)||(ltI s0.open_ 0))||(gtI s0.open_ s0.close))||(gtI s0.close 4096))||(ltI s0.service 0))=false),bT h1]
  ·obtain rfl:=Option.some.inj h
   exact gr 14 [] [rp 12 hP,rp 2 (oI ((eqI s0.place (-1))=true)),oR True ((eqI s0.place (-1))=true),rp 2 (oI (((eqI s0.place (-1))&&(eqI s0.open_ 0))=true)),oR True (((eqI s0.place (-1))&&(eqI s0.open_ 0))=true),rp 2 (oI ((((eqI s0.place (-1))&&(eqI s0.open_ 0))&&(eqI s0.close 0))=true)),oR True ((((eqI s0.place (-1))&&(eqI s0.open_ 0))&&(eqI s0.close 0))=true),bF h0,rp 22 hP,rp 2 (oI ((ltI s0.place 0)=false)),oR True ((ltI s0.place 0)=false),rp 4 (oI (((ltI s0.place 0)||(ltI s0.open_ 0))=false)),oR True (((ltI s0.place 0)||(ltI s0.open_ 0))=false),rp 2 (oI ((((ltI s0.place 0)||(ltI s0.open_ 0))||(gtI s0.open_ s0.close))=false)),oR True ((((ltI s0.place 0)||(ltI s0.open_ 0))||(gtI s0.open_ s0.close))=false),rp 2 (oI (((((ltI s0.place 0)||(ltI s0.open_ 0))||(gtI s0.open_ s0.close))||(gtI s0.close 4096))=false)),oR True (((((ltI s0.place 0)||(ltI s0.open_ 0))||(gtI s0.open_ s0.close))||(gtI s0.close 4096))=false),rp 2 (oI ((((((ltI s0.place 0)||(ltI s0.open_ 0))||(gtI s0.open_ s0.close))||(gtI s0.close 4096))||(ltI s0.service 0))=false)),oR True ((((((ltI s0.place 0)||(ltI s0.open_ 0))||(gtI s0.open_ s0.close))||(gtI s0.close 4096))||(ltI s0.service 0))=false),bF h1]
def Qa8 (Γ:Gam) (rv:List Int) (cf:Cf):Prop:=Go Tryz.prog Tryz.f111 [] Γ (one (lL 1 rv e_i64)) [] cf
def Qj5 (Γ:Gam) (rv:List Int) (places:Int) (dims:Int) (types:Int) (l:List Qag) (at_:Int) (x0:Qag) (l1:List Int) (i:Int):Prop:=Qa8 Γ rv ⟨[.c 500,.l 500,.b 0,.c 63],⟨156,[vI 0 places,vI 1 dims,vI 2 types,vL 3 16 l Qag.enc,vI 4 at_,vO 11 0 1 l1 e_i64,vP 12 1 16,vI 13 i],[oS 1 59 l1 e_i64,oX 16 83 (Qag.enc x0)]⟩⟩
def Qjg (Γ:Gam) (rv:List Int) (places:Int) (dims:Int) (types:Int) (l:List Qag) (at_:Int) (x0:Qag) (l1:List Int) (l2:List Int):Prop:=Qa8 Γ rv ⟨[.c 63],⟨156,[vI 0 places,vI 1 dims,vI 2 types,vO 11 0 1 l2 e_i64,vP 12 1 16],[oS 1 59 l2 e_i64,oX 16 83 (Qag.enc x0)]⟩⟩
theorem Qoq (Γ:Gam) (rv:List Int) {places dims types l at_ x0 l1} {s:Int} {e:List Int} (h:loopF (fun s=>Qb1 places dims types l at_ x0 l1 s) s=some e) (hD:Qjg Γ rv places dims types l at_ x0 l1 e):Qj5 Γ rv places dims types l at_ x0 l1 s:=by
 refine Qau (C:=fun (s:Int)=>Qj5 Γ rv places dims types l at_ x0 l1 s) (D:=fun (e:List Int)=>Qjg Γ rv places dims types l at_ x0 l1 e) ?_ h hD
 clear h hD s e
 intro i z_ h hI hE
 replace h:Qb1 places dims types l at_ x0 l1 i=_:=h
 unfold Qb1 at h
 rcases Qah h with ⟨h4,h⟩|⟨h4,h⟩
 ·obtain ⟨x1,h5,h⟩:=Qaf h
  rcases Qah h with ⟨h6,h⟩|⟨h6,h⟩
  ·obtain ⟨h7,h⟩:=Qar h
   exact gn 13 [0,1,2,11,12] [3,1] [bT h4,hH (.draw 8 []),cE Qag.enc h5,bT h6,oO (Eq.refl ([6].map e_i64).length),aO e_i64 h7] (hE _ (oJ h))
  ·exact gn 14 [0,1,2,3,4,11,12,13] [0,1] [bT h4,hH (.draw 8 []),cE Qag.enc h5,bF h6] (hI _ (oJ h))
 ·exact gn 5 [0,1,2,11,12] [0,1] [bF h4] (hE _ (oJ h))
theorem Qjb (Γ:Gam) (rv:List Int) {types x0 l6} (h:QdO types x0 l6=some rv):Qa8 Γ rv ⟨[.c 2047],⟨156,[vI 2 types,vO 11 0 1 l6 e_i64,vP 12 1 16],[oS 1 59 l6 e_i64,oX 16 83 (Qag.enc x0)]⟩⟩:=by
 unfold QdO at h
 obtain ⟨r6,h25,h⟩:=Qaf h
 rcases Qah h with ⟨h26,h⟩|⟨h26,h⟩
 ·obtain ⟨r7,h27,h⟩:=Qaf h
  rcases Qah h with ⟨h28,h⟩|⟨h28,h⟩
  ·obtain ⟨h29,h⟩:=Qar h
   obtain rfl:=Option.some.inj h
   exact gr 9 [] [rp 5 hP,rp 3 (oI ((neI x0.pick.place (-1))=true)),oR True ((neI x0.pick.place (-1))=true),cC (Qat h25),rp 3 (nF h26),cC (Qat h27),rp 2 (nF h26),rp 26 hP,rp 4 (oI ((!r7)=false)),oI (((!r7)=false)∧(gtI x0.split 1)=true),oR True ((!r7)=false),rp 2 (oI (((!r7)||((gtI x0.split 1)&&((neI x0.pick.place (-1))&&(neI x0.drop.place (-1)))))=false)),oR True (((!r7)||((gtI x0.split 1)&&((neI x0.pick.place (-1))&&(neI x0.drop.place (-1)))))=false),rp 3 (oI ((((!r7)||((gtI x0.split 1)&&((neI x0.pick.place (-1))&&(neI x0.drop.place (-1)))))||(ltI x0.last_ (-1)))=false)),oR True ((((!r7)||((gtI x0.split 1)&&((neI x0.pick.place (-1))&&(neI x0.drop.place (-1)))))||(ltI x0.last_ (-1)))=false),rp 2 (oI (((((!r7)||((gtI x0.split 1)&&((neI x0.pick.place (-1))&&(neI x0.drop.place (-1)))))||(ltI x0.last_ (-1)))||(geI x0.last_ types))=false)),oR True (((((!r7)||((gtI x0.split 1)&&((neI x0.pick.place (-1))&&(neI x0.drop.place (-1)))))||(ltI x0.last_ (-1)))||(geI x0.last_ types))=false),rp 3 (oI ((((((!r7)||((gtI x0.split 1)&&((neI x0.pick.place (-1))&&(neI x0.drop.place (-1)))))||(ltI x0.last_ (-1)))||(geI x0.last_ types))||(ltI x0.now (-1)))=false)),oR True ((((((!r7)||((gtI x0.split 1)&&((neI x0.pick.place (-1))&&(neI x0.drop.place (-1)))))||(ltI x0.last_ (-1)))||(geI x0.last_ types))||(ltI x0.now (-1)))=false),bT h28,oO (Eq.refl ([2].map e_i64).length),aO e_i64 h29,hW 5,hH (.frz 3),rp 4 (oO (Eq.refl ((l6++[2]).map e_i64).length))]
  ·obtain rfl:=Option.some.inj h
   exact gr 9 [] [rp 5 hP,rp 3 (oI ((neI x0.pick.place (-1))=true)),oR True ((neI x0.pick.place (-1))=true),cC (Qat h25),rp 3 (nF h26),cC (Qat h27),rp 2 (nF h26),rp 26 hP,rp 4 (oI ((!r7)=false)),oI (((!r7)=false)∧(gtI x0.split 1)=true),oR True ((!r7)=false),rp 2 (oI (((!r7)||((gtI x0.split 1)&&((neI x0.pick.place (-1))&&(neI x0.drop.place (-1)))))=false)),oR True (((!r7)||((gtI x0.split 1)&&((neI x0.pick.place (-1))&&(neI x0.drop.place (-1)))))=false),rp 3 (oI ((((!r7)||((gtI x0.split 1)&&((neI x0.pick.place (-1))&&(neI x0.drop.place (-1)))))||(ltI x0.last_ (-1)))=false)),oR True ((((!r7)||((gtI x0.split 1)&&((neI x0.pick.place (-1))&&(neI x0.drop.place (-1)))))||(ltI x0.last_ (-1)))=false),rp 2 (oI (((((!r7)||((gtI x0.split 1)&&((neI x0.pick.place (-1))&&(neI x0.drop.place (-1)))))||(ltI x0.last_ (-1)))||(geI x0.last_ types))=false)),oR True (((((!r7)||((gtI x0.split 1)&&((neI x0.pick.place (-1))&&(neI x0.drop.place (-1)))))||(ltI x0.last_ (-1)))||(geI x0.last_ types))=false),rp 3 (oI ((((((!r7)||((gtI x0.split 1)&&((neI x0.pick.place (-1))&&(neI x0.drop.place (-1)))))||(ltI x0.last_ (-1)))||(geI x0.last_ types))||(ltI x0.now (-1)))=false)),oR True ((((((!r7)||((gtI x0.split 1)&&((neI x0.pick.place (-1))&&(neI x0.drop.place (-1)))))||(ltI x0.last_ (-1)))||(geI x0.last_ types))||(ltI x0.now (-1)))=false),bF h28,hW 5,hH (.frz 0),rp 3 (eL l6 e_i64)]
 ·obtain ⟨h30,h⟩:=Qar h
  obtain rfl:=Option.some.inj h
  exact gr 9 [] [rp 5 hP,rp 3 (oI ((neI x0.pick.place (-1))=true)),oR True ((neI x0.pick.place (-1))=true),cC (Qat h25),rp 5 (nT h26),rp 4 tT,kF,rp 21 tT,oO (Eq.refl ([2].map e_i64).length),aO e_i64 h30,hW 5,hH (.frz 3),rp 4 (oO (Eq.refl ((l6++[2]).map e_i64).length))]
theorem Qjd (Γ:Gam) (rv:List Int) {types x0 l8} (h:Qf5 types x0 l8=some rv):Qa8 Γ rv ⟨[.c 2047],⟨156,[vI 2 types,vO 11 0 1 l8 e_i64,vP 12 1 16],[oS 1 59 l8 e_i64,oX 16 83 (Qag.enc x0)]⟩⟩:=by
 unfold Qf5 at h
 obtain ⟨r10,h37,h⟩:=Qaf h
 rcases Qah h with ⟨h38,h⟩|⟨h38,h⟩
 ·obtain ⟨r11,h39,h⟩:=Qaf h
  rcases Qah h with ⟨h40,h⟩|⟨h40,h⟩
  ·obtain ⟨h41,h⟩:=Qar h
   obtain rfl:=Option.some.inj h
   exact gr 9 [] [rp 5 hP,rp 3 (oI ((neI x0.pick.place (-1))=true)),oR True ((neI x0.pick.place (-1))=true),cC (Qat h37),rp 3 (nF h38),cC (Qat h39),rp 2 (nF h38),rp 26 hP,rp 4 (oI ((!r11)=false)),oI (((!r11)=false)∧(gtI x0.split 1)=true),oR True ((!r11)=false),rp 2 (oI (((!r11)||((gtI x0.split 1)&&((neI x0.pick.place (-1))&&(neI x0.drop.place (-1)))))=false)),oR True (((!r11)||((gtI x0.split 1)&&((neI x0.pick.place (-1))&&(neI x0.drop.place (-1)))))=false),rp 3 (oI ((((!r11)||((gtI x0.split 1)&&((neI x0.pick.place (-1))&&(neI x0.drop.place (-1)))))||(ltI x0.last_ (-1)))=false)),oR True ((((!r11)||((gtI x0.split 1)&&((neI x0.pick.place (-1))&&(neI x0.drop.place (-1)))))||(ltI x0.last_ (-1)))=false),rp 2 (oI (((((!r11)||((gtI x0.split 1)&&((neI x0.pick.place (-1))&&(neI x0.drop.place (-1)))))||(ltI x0.last_ (-1)))||(geI x0.last_ types))=false)),oR True (((((!r11)||((gtI x0.split 1)&&((neI x0.pick.place (-1))&&(neI x0.drop.place (-1)))))||(ltI x0.last_ (-1)))||(geI x0.last_ types))=false),rp 3 (oI ((((((!r11)||((gtI x0.split 1)&&((neI x0.pick.place (-1))&&(neI x0.drop.place (-1)))))||(ltI x0.last_ (-1)))||(geI x0.last_ types))||(ltI x0.now (-1)))=false)),oR True ((((((!r11)||((gtI x0.split 1)&&((neI x0.pick.place (-1))&&(neI x0.drop.place (-1)))))||(ltI x0.last_ (-1)))||(geI x0.last_ types))||(ltI x0.now (-1)))=false),bT h40,oO (Eq.refl ([2].map e_i64).length),aO e_i64 h41,hW 5,hH (.frz 3),rp 4 (oO (Eq.refl ((l8++[2]).map e_i64).length))]
  ·obtain rfl:=Option.some.inj h
   exact gr 9 [] [rp 5 hP,rp 3 (oI ((neI x0.pick.place (-1))=true)),oR True ((neI x0.pick.place (-1))=true),cC (Qat h37),rp 3 (nF h38),cC (Qat h39),rp 2 (nF h38),rp 26 hP,rp 4 (oI ((!r11)=false)),oI (((!r11)=false)∧(gtI x0.split 1)=true),oR True ((!r11)=false),rp 2 (oI (((!r11)||((gtI x0.split 1)&&((neI x0.pick.place (-1))&&(neI x0.drop.place (-1)))))=false)),oR True (((!r11)||((gtI x0.split 1)&&((neI x0.pick.place (-1))&&(neI x0.drop.place (-1)))))=false),rp 3 (oI ((((!r11)||((gtI x0.split 1)&&((neI x0.pick.place (-1))&&(neI x0.drop.place (-1)))))||(ltI x0.last_ (-1)))=false)),oR True ((((!r11)||((gtI x0.split 1)&&((neI x0.pick.place (-1))&&(neI x0.drop.place (-1)))))||(ltI x0.last_ (-1)))=false),rp 2 (oI (((((!r11)||((gtI x0.split 1)&&((neI x0.pick.place (-1))&&(neI x0.drop.place (-1)))))||(ltI x0.last_ (-1)))||(geI x0.last_ types))=false)),oR True (((((!r11)||((gtI x0.split 1)&&((neI x0.pick.place (-1))&&(neI x0.drop.place (-1)))))||(ltI x0.last_ (-1)))||(geI x0.last_ types))=false),rp 3 (oI ((((((!r11)||((gtI x0.split 1)&&((neI x0.pick.place (-1))&&(neI x0.drop.place (-1)))))||(ltI x0.last_ (-1)))||(geI x0.last_ types))||(ltI x0.now (-1)))=false)),oR True ((((((!r11)||((gtI x0.split 1)&&((neI x0.pick.place (-1))&&(neI x0.drop.place (-1)))))||(ltI x0.last_ (-1)))||(geI x0.last_ types))||(ltI x0.now (-1)))=false),bF h40,hW 5,hH (.frz 0),rp 3 (eL l8 e_i64)]
 ·obtain ⟨h42,h⟩:=Qar h
  obtain rfl:=Option.some.inj h
  exact gr 9 [] [rp 5 hP,rp 3 (oI ((neI x0.pick.place (-1))=true)),oR True ((neI x0.pick.place (-1))=true),cC (Qat h37),rp 5 (nT h38),rp 4 tT,kF,rp 21 tT,oO (Eq.refl ([2].map e_i64).length),aO e_i64 h42,hW 5,hH (.frz 3),rp 4 (oO (Eq.refl ((l8++[2]).map e_i64).length))]
theorem Qjc (Γ:Gam) (rv:List Int) {types x0 l7} (h:QdP types x0 l7=some rv):Qa8 Γ rv ⟨[.c 1023],⟨156,[vI 2 types,vO 11 0 1 l7 e_i64,vP 12 1 16],[oS 1 59 l7 e_i64,oX 16 83 (Qag.enc x0)]⟩⟩:=by
 unfold QdP at h
 obtain ⟨r9,h34,h⟩:=Qaf h
 rcases Qah h with ⟨h35,h⟩|⟨h35,h⟩
 ·exact gn 5 [2,11,12] [0,1] [cC (Qat h34),nF h35] (Qjd Γ rv h)
 ·obtain ⟨h36,h⟩:=Qar h
  exact gn 5 [2,11,12] [3,1] [cC (Qat h34),nT h35,oO (Eq.refl ([18].map e_i64).length),aO e_i64 h36] (Qjd Γ rv h)
theorem Qja (Γ:Gam) (rv:List Int) {types x0 l5} (h:QdN types x0 l5=some rv):Qa8 Γ rv ⟨[.c 511],⟨156,[vI 2 types,vO 11 0 1 l5 e_i64,vP 12 1 16],[oS 1 59 l5 e_i64,oX 16 83 (Qag.enc x0)]⟩⟩:=by
 unfold QdN at h
 obtain ⟨r4,h19,h⟩:=Qaf h
 rcases Qah h with ⟨h20,h⟩|⟨h20,h⟩
 ·obtain ⟨h21,h⟩:=Qar h
  obtain ⟨r5,h22,h⟩:=Qaf h
  rcases Qah h with ⟨h23,h⟩|⟨h23,h⟩
  ·exact gn 10 [2,11,12] [3,1] [cC (Qa9 h19),rp 5 (bT h20),tT,oO (Eq.refl ([14].map e_i64).length),aO e_i64 h21,cC (Qat h22),nF h23] (Qjb Γ rv h)
  ·obtain ⟨h24,h⟩:=Qar h
   exact gn 10 [2,11,12] [5,1] [cC (Qa9 h19),rp 5 (bT h20),tT,oO (Eq.refl ([14].map e_i64).length),aO e_i64 h21,cC (Qat h22),nT h23,oO (Eq.refl ([18].map e_i64).length),aO e_i64 h24] (Qjb Γ rv h)
 ·obtain ⟨r8,h31,h⟩:=Qaf h
  rcases Qah h with ⟨h32,h⟩|⟨h32,h⟩
  ·obtain ⟨h33,h⟩:=Qar h
   exact gn 5 [2,11,12] [3,1] [cC (Qa9 h19),rp 3 (bF h20),cC (Qa9 h31),rp 2 (bF h20),bT h32,oO (Eq.refl ([14].map e_i64).length),aO e_i64 h33] (Qjc Γ rv h)
  ·exact gn 5 [2,11,12] [0,1] [cC (Qa9 h19),rp 3 (bF h20),cC (Qa9 h31),rp 2 (bF h20),bF h32] (Qjc Γ rv h)
theorem Qi9 (Γ:Gam) (rv:List Int) {types x0 l4} (h:QdM types x0 l4=some rv):Qa8 Γ rv ⟨[.c 255],⟨156,[vI 2 types,vO 11 0 1 l4 e_i64,vP 12 1 16],[oS 1 59 l4 e_i64,oX 16 83 (Qag.enc x0)]⟩⟩:=by
 unfold QdM at h
 rcases Qah h with ⟨h17,h⟩|⟨h17,h⟩
 ·obtain ⟨h18,h⟩:=Qar h
  exact gn 5 [2,11,12] [3,1] [rp 5 hP,rp 3 (oI ((eqI x0.pick.place (-1))=true)),oR True ((eqI x0.pick.place (-1))=true),bT h17,oO (Eq.refl ([19].map e_i64).length),aO e_i64 h18] (Qja Γ rv h)
 ·exact gn 5 [2,11,12] [0,1] [rp 5 hP,rp 3 (oI ((eqI x0.pick.place (-1))=true)),oR True ((eqI x0.pick.place (-1))=true),bF h17] (Qja Γ rv h)
theorem Qjf (Γ:Gam) (rv:List Int) {types x0 l10} (h:Qf7 types x0 l10=some rv):Qa8 Γ rv ⟨[.c 2047],⟨156,[vI 2 types,vO 11 0 1 l10 e_i64,vP 12 1 16],[oS 1 59 l10 e_i64,oX 16 83 (Qag.enc x0)]⟩⟩:=by
 unfold Qf7 at h
 obtain ⟨r14,h52,h⟩:=Qaf h
 rcases Qah h with ⟨h53,h⟩|⟨h53,h⟩
 ·obtain ⟨r15,h54,h⟩:=Qaf h
  rcases Qah h with ⟨h55,h⟩|⟨h55,h⟩
  ·obtain ⟨h56,h⟩:=Qar h
   obtain rfl:=Option.some.inj h
   exact gr 9 [] [rp 5 hP,rp 3 (oI ((neI x0.pick.place (-1))=true)),oR True ((neI x0.pick.place (-1))=true),cC (Qat h52),rp 3 (nF h53),cC (Qat h54),rp 2 (nF h53),rp 26 hP,rp 4 (oI ((!r15)=false)),oI (((!r15)=false)∧(gtI x0.split 1)=true),oR True ((!r15)=false),rp 2 (oI (((!r15)||((gtI x0.split 1)&&((neI x0.pick.place (-1))&&(neI x0.drop.place (-1)))))=false)),oR True (((!r15)||((gtI x0.split 1)&&((neI x0.pick.place (-1))&&(neI x0.drop.place (-1)))))=false),rp 3 (oI ((((!r15)||((gtI x0.split 1)&&((neI x0.pick.place (-1))&&(neI x0.drop.place (-1)))))||(ltI x0.last_ (-1)))=false)),oR True ((((!r15)||((gtI x0.split 1)&&((neI x0.pick.place (-1))&&(neI x0.drop.place (-1)))))||(ltI x0.last_ (-1)))=false),rp 2 (oI (((((!r15)||((gtI x0.split 1)&&((neI x0.pick.place (-1))&&(neI x0.drop.place (-1)))))||(ltI x0.last_ (-1)))||(geI x0.last_ types))=false)),oR True (((((!r15)||((gtI x0.split 1)&&((neI x0.pick.place (-1))&&(neI x0.drop.place (-1)))))||(ltI x0.last_ (-1)))||(geI x0.last_ types))=false),rp 3 (oI ((((((!r15)||((gtI x0.split 1)&&((neI x0.pick.place (-1))&&(neI x0.drop.place (-1)))))||(ltI x0.last_ (-1)))||(geI x0.last_ types))||(ltI x0.now (-1)))=false)),oR True ((((((!r15)||((gtI x0.split 1)&&((neI x0.pick.place (-1))&&(neI x0.drop.place (-1)))))||(ltI x0.last_ (-1)))||(geI x0.last_ types))||(ltI x0.now (-1)))=false),bT h55,oO (Eq.refl ([2].map e_i64).length),aO e_i64 h56,hW 5,hH (.frz 3),rp 4 (oO (Eq.refl ((l10++[2]).map e_i64).length))]
  ·obtain rfl:=Option.some.inj h
   exact gr 9 [] [rp 5 hP,rp 3 (oI ((neI x0.pick.place (-1))=true)),oR True ((neI x0.pick.place (-1))=true),cC (Qat h52),rp 3 (nF h53),cC (Qat h54),rp 2 (nF h53),rp 26 hP,rp 4 (oI ((!r15)=false)),oI (((!r15)=false)∧(gtI x0.split 1)=true),oR True ((!r15)=false),rp 2 (oI (((!r15)||((gtI x0.split 1)&&((neI x0.pick.place (-1))&&(neI x0.drop.place (-1)))))=false)),oR True (((!r15)||((gtI x0.split 1)&&((neI x0.pick.place (-1))&&(neI x0.drop.place (-1)))))=false),rp 3 (oI ((((!r15)||((gtI x0.split 1)&&((neI x0.pick.place (-1))&&(neI x0.drop.place (-1)))))||(ltI x0.last_ (-1)))=false)),oR True ((((!r15)||((gtI x0.split 1)&&((neI x0.pick.place (-1))&&(neI x0.drop.place (-1)))))||(ltI x0.last_ (-1)))=false),rp 2 (oI (((((!r15)||((gtI x0.split 1)&&((neI x0.pick.place (-1))&&(neI x0.drop.place (-1)))))||(ltI x0.last_ (-1)))||(geI x0.last_ types))=false)),oR True (((((!r15)||((gtI x0.split 1)&&((neI x0.pick.place (-1))&&(neI x0.drop.place (-1)))))||(ltI x0.last_ (-1)))||(geI x0.last_ types))=false),rp 3 (oI ((((((!r15)||((gtI x0.split 1)&&((neI x0.pick.place (-1))&&(neI x0.drop.place (-1)))))||(ltI x0.last_ (-1)))||(geI x0.last_ types))||(ltI x0.now (-1)))=false)),oR True ((((((!r15)||((gtI x0.split 1)&&((neI x0.pick.place (-1))&&(neI x0.drop.place (-1)))))||(ltI x0.last_ (-1)))||(geI x0.last_ types))||(ltI x0.now (-1)))=false),bF h55,hW 5,hH (.frz 0),rp 3 (eL l10 e_i64)]
 ·obtain ⟨h57,h⟩:=Qar h
  obtain rfl:=Option.some.inj h
  exact gr 9 [] [rp 5 hP,rp 3 (oI ((neI x0.pick.place (-1))=true)),oR True ((neI x0.pick.place (-1))=true),cC (Qat h52),rp 5 (nT h53),rp 4 tT,kF,rp 21 tT,oO (Eq.refl ([2].map e_i64).length),aO e_i64 h57,hW 5,hH (.frz 3),rp 4 (oO (Eq.refl ((l10++[2]).map e_i64).length))]
theorem Qij (Γ:Gam) (rv:List Int) {types x0 l12} (h:Qfy types x0 l12=some rv):Qa8 Γ rv ⟨[.c 2047],⟨156,[vI 2 types,vO 11 0 1 l12 e_i64,vP 12 1 16],[oS 1 59 l12 e_i64,oX 16 83 (Qag.enc x0)]⟩⟩:=by
 unfold Qfy at h
 obtain ⟨r18,h64,h⟩:=Qaf h
 rcases Qah h with ⟨h65,h⟩|⟨h65,h⟩
 ·obtain ⟨r19,h66,h⟩:=Qaf h
  rcases Qah h with ⟨h67,h⟩|⟨h67,h⟩
  ·obtain ⟨h68,h⟩:=Qar h
   obtain rfl:=Option.some.inj h
   exact gr 9 [] [rp 5 hP,rp 3 (oI ((neI x0.pick.place (-1))=true)),oR True ((neI x0.pick.place (-1))=true),cC (Qat h64),rp 3 (nF h65),cC (Qat h66),rp 2 (nF h65),rp 26 hP,rp 4 (oI ((!r19)=false)),oI (((!r19)=false)∧(gtI x0.split 1)=true),oR True ((!r19)=false),rp 2 (oI (((!r19)||((gtI x0.split 1)&&((neI x0.pick.place (-1))&&(neI x0.drop.place (-1)))))=false)),oR True (((!r19)||((gtI x0.split 1)&&((neI x0.pick.place (-1))&&(neI x0.drop.place (-1)))))=false),rp 3 (oI ((((!r19)||((gtI x0.split 1)&&((neI x0.pick.place (-1))&&(neI x0.drop.place (-1)))))||(ltI x0.last_ (-1)))=false)),oR True ((((!r19)||((gtI x0.split 1)&&((neI x0.pick.place (-1))&&(neI x0.drop.place (-1)))))||(ltI x0.last_ (-1)))=false),rp 2 (oI (((((!r19)||((gtI x0.split 1)&&((neI x0.pick.place (-1))&&(neI x0.drop.place (-1)))))||(ltI x0.last_ (-1)))||(geI x0.last_ types))=false)),oR True (((((!r19)||((gtI x0.split 1)&&((neI x0.pick.place (-1))&&(neI x0.drop.place (-1)))))||(ltI x0.last_ (-1)))||(geI x0.last_ types))=false),rp 3 (oI ((((((!r19)||((gtI x0.split 1)&&((neI x0.pick.place (-1))&&(neI x0.drop.place (-1)))))||(ltI x0.last_ (-1)))||(geI x0.last_ types))||(ltI x0.now (-1)))=false)),oR True ((((((!r19)||((gtI x0.split 1)&&((neI x0.pick.place (-1))&&(neI x0.drop.place (-1)))))||(ltI x0.last_ (-1)))||(geI x0.last_ types))||(ltI x0.now (-1)))=false),bT h67,oO (Eq.refl ([2].map e_i64).length),aO e_i64 h68,hW 5,hH (.frz 3),rp 4 (oO (Eq.refl ((l12++[2]).map e_i64).length))]
  ·obtain rfl:=Option.some.inj h
   exact gr 9 [] [rp 5 hP,rp 3 (oI ((neI x0.pick.place (-1))=true)),oR True ((neI x0.pick.place (-1))=true),cC (Qat h64),rp 3 (nF h65),cC (Qat h66),rp 2 (nF h65),rp 26 hP,rp 4 (oI ((!r19)=false)),oI (((!r19)=false)∧(gtI x0.split 1)=true),oR True ((!r19)=false),rp 2 (oI (((!r19)||((gtI x0.split 1)&&((neI x0.pick.place (-1))&&(neI x0.drop.place (-1)))))=false)),oR True (((!r19)||((gtI x0.split 1)&&((neI x0.pick.place (-1))&&(neI x0.drop.place (-1)))))=false),rp 3 (oI ((((!r19)||((gtI x0.split 1)&&((neI x0.pick.place (-1))&&(neI x0.drop.place (-1)))))||(ltI x0.last_ (-1)))=false)),oR True ((((!r19)||((gtI x0.split 1)&&((neI x0.pick.place (-1))&&(neI x0.drop.place (-1)))))||(ltI x0.last_ (-1)))=false),rp 2 (oI (((((!r19)||((gtI x0.split 1)&&((neI x0.pick.place (-1))&&(neI x0.drop.place (-1)))))||(ltI x0.last_ (-1)))||(geI x0.last_ types))=false)),oR True (((((!r19)||((gtI x0.split 1)&&((neI x0.pick.place (-1))&&(neI x0.drop.place (-1)))))||(ltI x0.last_ (-1)))||(geI x0.last_ types))=false),rp 3 (oI ((((((!r19)||((gtI x0.split 1)&&((neI x0.pick.place (-1))&&(neI x0.drop.place (-1)))))||(ltI x0.last_ (-1)))||(geI x0.last_ types))||(ltI x0.now (-1)))=false)),oR True ((((((!r19)||((gtI x0.split 1)&&((neI x0.pick.place (-1))&&(neI x0.drop.place (-1)))))||(ltI x0.last_ (-1)))||(geI x0.last_ types))||(ltI x0.now (-1)))=false),bF h67,hW 5,hH (.frz 0),rp 3 (eL l12 e_i64)]
 ·obtain ⟨h69,h⟩:=Qar h
  obtain rfl:=Option.some.inj h
  exact gr 9 [] [rp 5 hP,rp 3 (oI ((neI x0.pick.place (-1))=true)),oR True ((neI x0.pick.place (-1))=true),cC (Qat h64),rp 5 (nT h65),rp 4 tT,kF,rp 21 tT,oO (Eq.refl ([2].map e_i64).length),aO e_i64 h69,hW 5,hH (.frz 3),rp 4 (oO (Eq.refl ((l12++[2]).map e_i64).length))]
theorem Qii (Γ:Gam) (rv:List Int) {types x0 l11} (h:Qfx types x0 l11=some rv):Qa8 Γ rv ⟨[.c 1023],⟨156,[vI 2 types,vO 11 0 1 l11 e_i64,vP 12 1 16],[oS 1 59 l11 e_i64,oX 16 83 (Qag.enc x0)]⟩⟩:=by
 unfold Qfx at h
 obtain ⟨r17,h61,h⟩:=Qaf h
 rcases Qah h with ⟨h62,h⟩|⟨h62,h⟩
 ·exact gn 5 [2,11,12] [0,1] [cC (Qat h61),nF h62] (Qij Γ rv h)
 ·obtain ⟨h63,h⟩:=Qar h
  exact gn 5 [2,11,12] [3,1] [cC (Qat h61),nT h62,oO (Eq.refl ([18].map e_i64).length),aO e_i64 h63] (Qij Γ rv h)
theorem Qje (Γ:Gam) (rv:List Int) {types x0 l9} (h:Qf6 types x0 l9=some rv):Qa8 Γ rv ⟨[.c 511],⟨156,[vI 2 types,vO 11 0 1 l9 e_i64,vP 12 1 16],[oS 1 59 l9 e_i64,oX 16 83 (Qag.enc x0)]⟩⟩:=by
 unfold Qf6 at h
 obtain ⟨r12,h46,h⟩:=Qaf h
 rcases Qah h with ⟨h47,h⟩|⟨h47,h⟩
 ·obtain ⟨h48,h⟩:=Qar h
  obtain ⟨r13,h49,h⟩:=Qaf h
  rcases Qah h with ⟨h50,h⟩|⟨h50,h⟩
  ·exact gn 10 [2,11,12] [3,1] [cC (Qa9 h46),rp 5 (bT h47),tT,oO (Eq.refl ([14].map e_i64).length),aO e_i64 h48,cC (Qat h49),nF h50] (Qjf Γ rv h)
  ·obtain ⟨h51,h⟩:=Qar h
   exact gn 10 [2,11,12] [5,1] [cC (Qa9 h46),rp 5 (bT h47),tT,oO (Eq.refl ([14].map e_i64).length),aO e_i64 h48,cC (Qat h49),nT h50,oO (Eq.refl ([18].map e_i64).length),aO e_i64 h51] (Qjf Γ rv h)
 ·obtain ⟨r16,h58,h⟩:=Qaf h
  rcases Qah h with ⟨h59,h⟩|⟨h59,h⟩
  ·obtain ⟨h60,h⟩:=Qar h
   exact gn 5 [2,11,12] [3,1] [cC (Qa9 h46),rp 3 (bF h47),cC (Qa9 h58),rp 2 (bF h47),bT h59,oO (Eq.refl ([14].map e_i64).length),aO e_i64 h60] (Qii Γ rv h)
  ·exact gn 5 [2,11,12] [0,1] [cC (Qa9 h46),rp 3 (bF h47),cC (Qa9 h58),rp 2 (bF h47),bF h59] (Qii Γ rv h)
theorem Qi8 (Γ:Gam) (rv:List Int) {places types x0 l3} (h:QbC places types x0 l3=some rv):Qa8 Γ rv ⟨[.c 127],⟨156,[vI 0 places,vI 2 types,vO 11 0 1 l3 e_i64,vP 12 1 16],[oS 1 59 l3 e_i64,oX 16 83 (Qag.enc x0)]⟩⟩:=by
 unfold QbC at h
 obtain ⟨r2,h12,h⟩:=Qaf h
 rcases Qah h with ⟨h13,h⟩|⟨h13,h⟩
 ·obtain ⟨r3,h14,h⟩:=Qaf h
  rcases Qah h with ⟨h15,h⟩|⟨h15,h⟩
  ·exact gn 5 [2,11,12] [0,1] [cC (Qat h12),rp 6 (nF h13),cC (Qat h14),rp 2 (nF h13),nF h15] (Qi9 Γ rv h)
  ·obtain ⟨h16,h⟩:=Qar h
   exact gn 5 [2,11,12] [3,1] [cC (Qat h12),rp 6 (nF h13),cC (Qat h14),rp 2 (nF h13),nT h15,oO (Eq.refl ([11].map e_i64).length),aO e_i64 h16] (Qi9 Γ rv h)
 ·obtain ⟨h43,h⟩:=Qar h
  rcases Qah h with ⟨h44,h⟩|⟨h44,h⟩
  ·obtain ⟨h45,h⟩:=Qar h
   exact gn 10 [2,11,12] [5,1] [cC (Qat h12),rp 8 (nT h13),tT,oO (Eq.refl ([11].map e_i64).length),aO e_i64 h43,rp 5 hP,rp 3 (oI ((eqI x0.pick.place (-1))=true)),oR True ((eqI x0.pick.place (-1))=true),bT h44,oO (Eq.refl ([19].map e_i64).length),aO e_i64 h45] (Qje Γ rv h)
  ·exact gn 10 [2,11,12] [3,1] [cC (Qat h12),rp 8 (nT h13),tT,oO (Eq.refl ([11].map e_i64).length),aO e_i64 h43,rp 5 hP,rp 3 (oI ((eqI x0.pick.place (-1))=true)),oR True ((eqI x0.pick.place (-1))=true),bF h44] (Qje Γ rv h)
theorem Qi7 (Γ:Gam) (rv:List Int) {places dims types l at_ x0 l1} (h:QdL places dims types l at_ x0 l1=some rv):Qa8 Γ rv ⟨[.c 31],⟨156,[vI 0 places,vI 1 dims,vI 2 types,vL 3 16 l Qag.enc,vI 4 at_,vO 11 0 1 l1 e_i64,vP 12 1 16],[oS 1 59 l1 e_i64,oX 16 83 (Qag.enc x0)]⟩⟩:=by
 unfold QdL at h
 obtain ⟨e0,h8,h⟩:=Qaf h
 refine gn 5 [0,1,2,3,4,11,12,13] [0,1] [] (Qoq Γ rv h8 ?_)
 obtain ⟨l2,rfl⟩:∃ x,x=e0:=⟨_,rfl⟩
 replace h:(bnd (Qem x0.load dims) fun r1=>br r1 (QbC places types x0 l2) (chk (okN (l2++[17]).length 8) (QbC places types x0 (l2++[17]))):Option (List Int))=some _:=h
 obtain ⟨r1,h9,h⟩:=Qaf h
 rcases Qah h with ⟨h10,h⟩|⟨h10,h⟩
 ·exact gn 5 [0,2,11,12] [0,1] [cC (QlE h9),nF h10] (Qi8 Γ rv h)
 ·obtain ⟨h11,h⟩:=Qar h
  exact gn 5 [0,2,11,12] [3,1] [cC (QlE h9),nT h10,oO (Eq.refl ([17].map e_i64).length),aO e_i64 h11] (Qi8 Γ rv h)
theorem Qql {places dims types l at_} {rv:List Int} (h:Qgj places dims types l at_=some rv):AFn Tryz.prog 111 [.one (lI places),.one (lI dims),.one (lI types),.one (lL 16 l Qag.enc),.one (lI at_)] [] (one (lL 1 rv e_i64)) []:=by
 refine QaK Tryz.func111 (by kernel_rfl) (by kernel_rfl) (fun Γ=>?_)
 unfold Qgj at h
 obtain ⟨x0,h0,h⟩:=Qaf h
 obtain ⟨r,h1,h⟩:=Qaf h
 rcases Qah h with ⟨h2,h⟩|⟨h2,h⟩
 ·exact gn 11 [0,1,2,3,4,11,12] [1,0] [cE Qag.enc h0,cC (Qed h1),nF h2,hW 1,hH (.adopt 11 1 59)] (Qi7 Γ rv h)
 ·obtain ⟨h3,h⟩:=Qar h
  exact gn 11 [0,1,2,3,4,11,12] [2,0] [cE Qag.enc h0,cC (Qed h1),nT h2,oO (Eq.refl ([5].map e_i64).length),aN (l:=([5]:List Int)) e_i64 h3] (Qi7 Γ rv h)
def Qe5 (Γ:Gam) (rv:List Qab) (cf:Cf):Prop:=Go Tryz.prog Tryz.f68 [] Γ (one (lL 2 rv Qab.enc)) [] cf
def Qj2 (Γ:Gam) (rv:List Qab) (n:Qal) (dims:Int) (types:Int) (l:List Qag) (i:Int) (r:List Int) (l3:List Qab) (k:Int):Prop:=Qe5 Γ rv ⟨[.c 31308,.l 31308,.b 2,.b 1,.c 979,.l 244,.b 0,.c 31],⟨51,[vI 1 dims,vI 2 types,vL 3 16 l Qag.enc,vP 4 0 2,vO 9 1 2 l3 Qab.enc,vI 10 i,vL 11 1 r e_i64,vI 12 k],[oX 2 25 (Qal.enc n),oS 2 164 l3 Qab.enc]⟩⟩
def Qi6 (Γ:Gam) (rv:List Qab) (n:Qal) (dims:Int) (types:Int) (l:List Qag) (i:Int) (r:List Int) (l4:List Qab):Prop:=Qe5 Γ rv ⟨[.b 1,.c 979,.l 244,.b 0,.c 31],⟨51,[vI 1 dims,vI 2 types,vL 3 16 l Qag.enc,vP 4 0 2,vO 9 1 2 l4 Qab.enc,vI 10 i],[oX 2 25 (Qal.enc n),oS 2 164 l4 Qab.enc]⟩⟩
def Qj1 (Γ:Gam) (rv:List Qab) (n:Qal) (dims:Int) (types:Int) (l:List Qag) (l2:List Qab) (i:Int):Prop:=Qe5 Γ rv ⟨[.c 244,.l 244,.b 0,.c 31],⟨51,[vI 1 dims,vI 2 types,vL 3 16 l Qag.enc,vP 4 0 2,vO 9 1 2 l2 Qab.enc,vI 10 i],[oX 2 25 (Qal.enc n),oS 2 164 l2 Qab.enc]⟩⟩
def Qi5 (Γ:Gam) (rv:List Qab) (n:Qal) (dims:Int) (types:Int) (l:List Qag) (l5:List Qab):Prop:=Qe5 Γ rv ⟨[.c 31],⟨51,[vO 9 0 2 l5 Qab.enc],[oS 2 164 l5 Qab.enc]⟩⟩
theorem Qop (Γ:Gam) (rv:List Qab) {n dims types l i r} {s:List Qab×Int} {e:List Qab} (h:loopF (fun s=>Qf4 n dims types l i r s.1 s.2) s=some e) (hD:Qi6 Γ rv n dims types l i r e):Qj2 Γ rv n dims types l i r s.1 s.2:=by
 refine Qau (C:=fun (s:List Qab×Int)=>Qj2 Γ rv n dims types l i r s.1 s.2) (D:=fun (e:List Qab)=>Qi6 Γ rv n dims types l i r e) ?_ h hD
 clear h hD s e
 rintro ⟨l3,k⟩ z_ h hI hE
 replace h:Qf4 n dims types l i r l3 k=_:=h
 unfold Qf4 at h
 rcases Qah h with ⟨h4,h⟩|⟨h4,h⟩
 ·obtain ⟨x0,h5,h⟩:=Qaf h
  obtain ⟨r1,h6,h⟩:=Qaf h
  obtain ⟨h7,h⟩:=Qar h
  exact gn 11 [1,2,3,4,9,10,11,12] [0,3] [nL e_i64 r,bT h4,hH (.draw 9 []),cE e_i64 h5,cC (Qbv h6),oO (Eq.refl ([(Qab.mk x0 r1)].map Qab.enc).length),aO Qab.enc h7] (hI _ (oJ h))
 ·exact gn 5 [1,2,3,4,9,10] [0,1] [nL e_i64 r,bF h4] (hE _ (oJ h))
theorem Qoo (Γ:Gam) (rv:List Qab) {n dims types l} {s:List Qab×Int} {e:List Qab} (h:loopF (fun s=>QcB n dims types l s.1 s.2) s=some e) (hD:Qi5 Γ rv n dims types l e):Qj1 Γ rv n dims types l s.1 s.2:=by
 refine Qau (C:=fun (s:List Qab×Int)=>Qj1 Γ rv n dims types l s.1 s.2) (D:=fun (e:List Qab)=>Qi5 Γ rv n dims types l e) ?_ h hD
 clear h hD s e
 rintro ⟨l2,i⟩ z_ h hI hE
 replace h:QcB n dims types l l2 i=_:=h
 unfold QcB at h
 rcases Qah h with ⟨h2,h⟩|⟨h2,h⟩
 ·obtain ⟨r,h3,h⟩:=Qaf h
  obtain ⟨e0,h8,h⟩:=Qaf h
  refine gn 13 [1,2,3,4,9,10,11,12] [0,1] [nL Qag.enc l,bT h2,nL e_str n.places,cC (Qql h3)] (Qop Γ rv h8 ?_)
  obtain ⟨l4,rfl⟩:∃ x,x=e0:=⟨_,rfl⟩
  replace h:(some (.inl (l4,(addK .i64 i 1))):Option ((List Qab×Int)⊕(List Qab)))=some _:=h
  exact gn 3 [1,2,3,4,9,10] [0,1] [] (hI _ (oJ h))
 ·exact gn 5 [9] [1] [nL Qag.enc l,bF h2] (hE _ (oJ h))
theorem Qi4 (Γ:Gam) (rv:List Qab) {n dims types l l1} (h:QeG n dims types l l1=some rv):Qe5 Γ rv ⟨[.c 15],⟨51,[vI 1 dims,vI 2 types,vL 3 16 l Qag.enc,vP 4 0 2,vO 9 1 2 l1 Qab.enc],[oX 2 25 (Qal.enc n),oS 2 164 l1 Qab.enc]⟩⟩:=by
 unfold QeG at h
 obtain ⟨e1,h9,h⟩:=Qaf h
 refine gn 5 [1,2,3,4,9,10] [0,1] [] (Qoo Γ rv h9 ?_)
 obtain ⟨l5,rfl⟩:∃ x,x=e1:=⟨_,rfl⟩
 replace h:(some l5:Option (List Qab))=some _:=h
 obtain rfl:=Option.some.inj h
 exact gr 2 [] [hW 4,hH (.frz 0),rp 3 (eL l5 Qab.enc)]
theorem Qqk {n dims types l} {rv:List Qab} (h:Qgi n dims types l=some rv):AFn Tryz.prog 68 [.agg (Qal.enc n),.one (lI dims),.one (lI types),.one (lL 16 l Qag.enc)] [] (one (lL 2 rv Qab.enc)) []:=by
 refine QaK Tryz.func68 (by kernel_rfl) (by kernel_rfl) (fun Γ=>?_)
 unfold Qgi at h
 rcases Qah h with ⟨h0,h⟩|⟨h0,h⟩
 ·obtain ⟨h1,h⟩:=Qar h
  exact gn 9 [1,2,3,4,9] [0,2] [nL Qag.enc l,bT h0,oO (Eq.refl ([(Qab.mk 4 ByteArray.empty)].map Qab.enc).length),aN (l:=([(Qab.mk 4 ByteArray.empty)]:List Qab)) Qab.enc h1] (Qi4 Γ rv h)
 ·exact gn 9 [1,2,3,4,9] [0,1] [nL Qag.enc l,bF h0,hW 1,hH (.adopt 9 2 164)] (Qi4 Γ rv h)
def Qk0 (Γ:Gam) (rv:ByteArray) (cf:Cf):Prop:=Go Tryz.prog Tryz.f138 [] Γ (one (.str rv)) [] cf
def Qik (Γ:Gam) (rv:ByteArray) (n1:Int) (s0:ByteArray):Prop:=Qk0 Γ rv ⟨[.c 56,.l 56,.b 0,.c 15],⟨23,[vI 0 n1,vS 3 s0],[]⟩⟩
def QhU (Γ:Gam) (rv:ByteArray) (n2:Int) (s1:ByteArray):Prop:=Qk0 Γ rv ⟨[.c 15],⟨23,[vI 0 n2,vS 3 s1],[]⟩⟩
theorem Qnb (Γ:Gam) (rv:ByteArray) {s:Int×ByteArray} {e:Int×ByteArray} (h:loopF (fun s=>Qc6 s.1 s.2) s=some e) (hD:QhU Γ rv e.1 e.2):Qik Γ rv s.1 s.2:=by
 refine Qau (C:=fun (s:Int×ByteArray)=>Qik Γ rv s.1 s.2) (D:=fun (e:Int×ByteArray)=>QhU Γ rv e.1 e.2) ?_ h hD
 clear h hD s e
 rintro ⟨n1,s0⟩ z_ h hI hE
 replace h:Qc6 n1 s0=_:=h
 unfold Qc6 at h
 rcases Qah h with ⟨h0,h⟩|⟨h0,h⟩
 ·obtain ⟨h1,h⟩:=Qar h
  exact gn 11 [0,3] [] [bT h0,hH (.ints [(cvK .u8 (addK .i64 48 (remK n1 10)))]),oO (oA (n:=10)),oO (Eq.refl ([(cvK .u8 (addK .i64 48 (remK n1 10)))].map e_u8).length),oO (Eq.refl (([(cvK .u8 (addK .i64 48 (remK n1 10)))].map e_u8):List (List Lf))),oO (h1),oO (oA (n:=10))] (hI _ (oJ h))
 ·exact gn 5 [0,3] [] [bF h0] (hE _ (oJ h))
theorem QeW {n} {rv:ByteArray} (h:Qej n=some rv):AFn Tryz.prog 138 [.one (lI n)] [] (one (.str rv)) []:=by
 refine QaK Tryz.func138 (by kernel_rfl) (by kernel_rfl) (fun Γ=>?_)
 unfold Qej at h
 obtain ⟨e0,h2,h⟩:=Qaf h
 refine gn 7 [0,3] [] [] (Qnb Γ rv h2 ?_)
 obtain ⟨n2,s1⟩:=e0
 replace h:(chk ((QpH [(cvK .u8 (addK .i64 48 n2))]).size+s1.size≤9223372036854775807) (some (catS (QpH [(cvK .u8 (addK .i64 48 n2))]) s1)):Option ByteArray)=some _:=h
 obtain ⟨h3,h⟩:=Qar h
 obtain rfl:=Option.some.inj h
 exact gr 2 [] [hH (.ints [(cvK .u8 (addK .i64 48 n2))]),oO (Eq.refl ([(cvK .u8 (addK .i64 48 n2))].map e_u8).length),oO (Eq.refl (([(cvK .u8 (addK .i64 48 n2))].map e_u8):List (List Lf))),oO (h3)]
def QeH (Γ:Gam) (rv:List Qab) (cf:Cf):Prop:=Go Tryz.prog Tryz.f112 [] Γ (one (lL 2 rv Qab.enc)) [] cf
def Qji (Γ:Gam) (rv:List Qab) (orders:Int) (l:List Qap) (word:ByteArray) (turned:Bool) (l2:List Qab) (i:Int) (x0:Qap) (r:ByteArray) (twice:Bool) (k:Int):Prop:=QeH Γ rv ⟨[.c 1001972,.l 1001972,.b 2,.c 125247,.b 1,.c 979,.l 244,.b 0,.c 31],⟨123,[vI 0 orders,vL 1 2 l Qap.enc,vS 2 word,vB 3 turned,vO 9 0 2 l2 Qab.enc,vI 10 i,vI 11 x0.x0,vI 12 x0.x1,vS 13 (catS (catS word Qcx) r),vB 14 twice,vI 15 k],[oS 2 164 l2 Qab.enc]⟩⟩
def Qin (Γ:Gam) (rv:List Qab) (orders:Int) (l:List Qap) (word:ByteArray) (turned:Bool) (l2:List Qab) (i:Int) (x0:Qap) (r:ByteArray) (twice1:Bool):Prop:=QeH Γ rv ⟨[.c 125247,.b 1,.c 979,.l 244,.b 0,.c 31],⟨123,[vI 0 orders,vL 1 2 l Qap.enc,vS 2 word,vB 3 turned,vO 9 0 2 l2 Qab.enc,vI 10 i,vS 13 (catS (catS word Qcx) r),vB 14 twice1],[oS 2 164 l2 Qab.enc]⟩⟩
def Qjh (Γ:Gam) (rv:List Qab) (orders:Int) (l:List Qap) (word:ByteArray) (turned:Bool) (l2:List Qab) (i:Int):Prop:=QeH Γ rv ⟨[.c 244,.l 244,.b 0,.c 31],⟨123,[vI 0 orders,vL 1 2 l Qap.enc,vS 2 word,vB 3 turned,vO 9 0 2 l2 Qab.enc,vI 10 i],[oS 2 164 l2 Qab.enc]⟩⟩
def Qim (Γ:Gam) (rv:List Qab) (orders:Int) (l:List Qap) (word:ByteArray) (turned:Bool) (l3:List Qab):Prop:=QeH Γ rv ⟨[.c 31],⟨123,[vO 9 0 2 l3 Qab.enc],[oS 2 164 l3 Qab.enc]⟩⟩
theorem QnT (Γ:Gam) (rv:List Qab) {orders l word turned l2 i x0 r} {s:Bool×Int} {e:Bool} (h:loopF (fun s=>Qdj orders l word turned l2 i x0 r s.1 s.2) s=some e) (hD:Qin Γ rv orders l word turned l2 i x0 r e):Qji Γ rv orders l word turned l2 i x0 r s.1 s.2:=by
 refine Qau (C:=fun (s:Bool×Int)=>Qji Γ rv orders l word turned l2 i x0 r s.1 s.2) (D:=fun (e:Bool)=>Qin Γ rv orders l word turned l2 i x0 r e) ?_ h hD
 clear h hD s e
 rintro ⟨twice,k⟩ z_ h hI hE
 replace h:Qdj orders l word turned l2 i x0 r twice k=_:=h
 unfold Qdj at h
 rcases Qah h with ⟨h9,h⟩|⟨h9,h⟩
 ·rcases Qah h with ⟨h10,h⟩|⟨h10,h⟩
  ·exact gn 11 [0,1,2,3,9,10,11,12,13,14,15] [0] [bT h9,rp 8 (bT h10),rp 7 kF,rp 2 (bT h10),tT,tT,rp 7 kF,tT,tT,rp 7 kF,tT,tT] (hI _ (oJ h))
  ·obtain ⟨x1,h11,h⟩:=Qaf h
   rcases Qah h with ⟨h12,h⟩|⟨h12,h⟩
   ·rcases Qah h with ⟨h13,h⟩|⟨h13,h⟩
    ·exact gn 11 [0,1,2,3,9,10,11,12,13,14,15] [0] [bT h9,rp 3 (bF h10),cE Qap.enc h11,bF h10,oO (zL 0),oO (lT 0 2),rp 4 (bF h10),rp 3 (bT h12),cE Qap.enc h11,bT h12,oO (zL 1),oO (lT 1 2),rp 3 (bT h12),bF h10,bT h12,bF h10,rp 2 (bT h13),rp 7 kF,rp 2 (bT h13),rp 7 kF,rp 2 (bT h13)] (hI _ (oJ h))
    ·rcases Qah h with ⟨h14,h⟩|⟨h14,h⟩
     ·rcases Qah h with ⟨h15,h⟩|⟨h15,h⟩
      ·exact gn 11 [0,1,2,3,9,10,11,12,13,14,15] [0] [bT h9,rp 3 (bF h10),cE Qap.enc h11,bF h10,oO (zL 0),oO (lT 0 2),rp 4 (bF h10),rp 3 (bT h12),cE Qap.enc h11,bT h12,oO (zL 1),oO (lT 1 2),rp 3 (bT h12),bF h10,bT h12,bF h10,rp 2 (bF h13),rp 3 (bT h14),cE Qap.enc h11,bT h14,oO (zL 0),oO (lT 0 2),rp 3 (bT h14),bF h13,bT h14,bF h13,rp 3 (bT h15),cE Qap.enc h11,bT h15,oO (zL 1),oO (lT 1 2),rp 3 (bT h15),bF h13,bT h15,bF h13] (hI _ (oJ h))
      ·exact gn 11 [0,1,2,3,9,10,11,12,13,14,15] [0] [bT h9,rp 3 (bF h10),cE Qap.enc h11,bF h10,oO (zL 0),oO (lT 0 2),rp 4 (bF h10),rp 3 (bT h12),cE Qap.enc h11,bT h12,oO (zL 1),oO (lT 1 2),rp 3 (bT h12),bF h10,bT h12,bF h10,rp 2 (bF h13),rp 3 (bT h14),cE Qap.enc h11,bT h14,oO (zL 0),oO (lT 0 2),rp 3 (bT h14),bF h13,bT h14,bF h13,rp 7 (bF h15),bF h13,bF h15,bF h13] (hI _ (oJ h))
     ·exact gn 11 [0,1,2,3,9,10,11,12,13,14,15] [0] [bT h9,rp 3 (bF h10),cE Qap.enc h11,bF h10,oO (zL 0),oO (lT 0 2),rp 4 (bF h10),rp 3 (bT h12),cE Qap.enc h11,bT h12,oO (zL 1),oO (lT 1 2),rp 3 (bT h12),bF h10,bT h12,bF h10,rp 2 (bF h13),rp 7 (bF h14),bF h13,bF h14,bF h13,rp 7 fF,bF h13,fF,bF h13] (hI _ (oJ h))
   ·rcases Qah h with ⟨h16,h⟩|⟨h16,h⟩
    ·rcases Qah h with ⟨h17,h⟩|⟨h17,h⟩
     ·exact gn 11 [0,1,2,3,9,10,11,12,13,14,15] [0] [bT h9,rp 3 (bF h10),cE Qap.enc h11,bF h10,oO (zL 0),oO (lT 0 2),rp 4 (bF h10),rp 7 (bF h12),bF h10,bF h12,bF h10,fF,fF,rp 3 (bT h16),cE Qap.enc h11,bT h16,oO (zL 0),oO (lT 0 2),rp 3 (bT h16),fF,bT h16,fF,rp 3 (bT h17),cE Qap.enc h11,bT h17,oO (zL 1),oO (lT 1 2),rp 3 (bT h17),fF,bT h17,fF] (hI _ (oJ h))
     ·exact gn 11 [0,1,2,3,9,10,11,12,13,14,15] [0] [bT h9,rp 3 (bF h10),cE Qap.enc h11,bF h10,oO (zL 0),oO (lT 0 2),rp 4 (bF h10),rp 7 (bF h12),bF h10,bF h12,bF h10,fF,fF,rp 3 (bT h16),cE Qap.enc h11,bT h16,oO (zL 0),oO (lT 0 2),rp 3 (bT h16),fF,bT h16,fF,rp 7 (bF h17),fF,bF h17,fF] (hI _ (oJ h))
    ·exact gn 11 [0,1,2,3,9,10,11,12,13,14,15] [0] [bT h9,rp 3 (bF h10),cE Qap.enc h11,bF h10,oO (zL 0),oO (lT 0 2),rp 4 (bF h10),rp 7 (bF h12),bF h10,bF h12,bF h10,fF,fF,rp 7 (bF h16),fF,bF h16,rp 11 fF] (hI _ (oJ h))
 ·exact gn 5 [0,1,2,3,9,10,13,14] [0] [bF h9] (hE _ (oJ h))
theorem QnS (Γ:Gam) (rv:List Qab) {orders l word turned} {s:List Qab×Int} {e:List Qab} (h:loopF (fun s=>Qb8 orders l word turned s.1 s.2) s=some e) (hD:Qim Γ rv orders l word turned e):Qjh Γ rv orders l word turned s.1 s.2:=by
 refine Qau (C:=fun (s:List Qab×Int)=>Qjh Γ rv orders l word turned s.1 s.2) (D:=fun (e:List Qab)=>Qim Γ rv orders l word turned e) ?_ h hD
 clear h hD s e
 rintro ⟨l2,i⟩ z_ h hI hE
 replace h:Qb8 orders l word turned l2 i=_:=h
 unfold Qb8 at h
 rcases Qah h with ⟨h2,h⟩|⟨h2,h⟩
 ·obtain ⟨x0,h3,h⟩:=Qaf h
  obtain ⟨h4,h⟩:=Qar h
  obtain ⟨r,h5,h⟩:=Qaf h
  obtain ⟨h6,h⟩:=Qar h
  rcases Qah h with ⟨h7,h⟩|⟨h7,h⟩
  ·obtain ⟨h8,h⟩:=Qar h
   exact gn 22 [0,1,2,3,9,10] [2] [nL Qap.enc l,bT h2,cE Qap.enc h3,oO (zL 0),oO (lT 0 2),cE Qap.enc h3,oO (zL 1),oO (lT 1 2),oO (h4),cC (QeW h5),rp 15 hP,oO (h6),rp 2 (oI ((ltI x0.x0 0)=false)),oR True ((ltI x0.x0 0)=false),oI (((ltI x0.x0 0)||(geI x0.x0 orders))=false),oR True (((ltI x0.x0 0)||(geI x0.x0 orders))=false),rp 2 (oI ((((ltI x0.x0 0)||(geI x0.x0 orders))||(ltI x0.x1 0))=false)),oR True ((((ltI x0.x0 0)||(geI x0.x0 orders))||(ltI x0.x1 0))=false),rp 2 (oI (((((ltI x0.x0 0)||(geI x0.x0 orders))||(ltI x0.x1 0))||(geI x0.x1 orders))=false)),oR True (((((ltI x0.x0 0)||(geI x0.x0 orders))||(ltI x0.x1 0))||(geI x0.x1 orders))=false),bT h7,oO (Eq.refl ([(Qab.mk 2 (catS (catS word Qcx) r))].map Qab.enc).length),aO Qab.enc h8] (hI _ (oJ h))
  ·obtain ⟨e0,h18,h⟩:=Qaf h
   refine gn 25 [0,1,2,3,9,10,11,12,13,14,15] [0] [nL Qap.enc l,bT h2,cE Qap.enc h3,oO (zL 0),oO (lT 0 2),cE Qap.enc h3,oO (zL 1),oO (lT 1 2),oO (h4),cC (QeW h5),rp 15 hP,oO (h6),rp 2 (oI ((ltI x0.x0 0)=false)),oR True ((ltI x0.x0 0)=false),oI (((ltI x0.x0 0)||(geI x0.x0 orders))=false),oR True (((ltI x0.x0 0)||(geI x0.x0 orders))=false),rp 2 (oI ((((ltI x0.x0 0)||(geI x0.x0 orders))||(ltI x0.x1 0))=false)),oR True ((((ltI x0.x0 0)||(geI x0.x0 orders))||(ltI x0.x1 0))=false),rp 2 (oI (((((ltI x0.x0 0)||(geI x0.x0 orders))||(ltI x0.x1 0))||(geI x0.x1 orders))=false)),oR True (((((ltI x0.x0 0)||(geI x0.x0 orders))||(ltI x0.x1 0))||(geI x0.x1 orders))=false),bF h7] (QnT Γ rv h18 ?_)
   obtain ⟨twice1,rfl⟩:∃ x,x=e0:=⟨_,rfl⟩
   replace h:(br twice1 (chk (okN (l2++[(Qab.mk 6 (catS (catS word Qcx) r))]).length 24) (some (.inl ((l2++[(Qab.mk 6 (catS (catS word Qcx) r))]),(addK .i64 i 1))))) (some (.inl (l2,(addK .i64 i 1)))):Option ((List Qab×Int)⊕(List Qab)))=some _:=h
   rcases Qah h with ⟨h19,h⟩|⟨h19,h⟩
   ·obtain ⟨h20,h⟩:=Qar h
    exact gn 7 [0,1,2,3,9,10] [2] [bT h19,oO (Eq.refl ([(Qab.mk 6 (catS (catS word Qcx) r))].map Qab.enc).length),aO Qab.enc h20] (hI _ (oJ h))
   ·exact gn 7 [0,1,2,3,9,10] [0] [bF h19] (hI _ (oJ h))
 ·exact gn 5 [9] [0] [nL Qap.enc l,bF h2] (hE _ (oJ h))
theorem Qil (Γ:Gam) (rv:List Qab) {orders l word turned l1} (h:Qeo orders l word turned l1=some rv):QeH Γ rv ⟨[.c 15],⟨123,[vI 0 orders,vL 1 2 l Qap.enc,vS 2 word,vB 3 turned,vO 9 0 2 l1 Qab.enc],[oS 2 164 l1 Qab.enc]⟩⟩:=by
 unfold Qeo at h
 obtain ⟨e1,h21,h⟩:=Qaf h
 refine gn 5 [0,1,2,3,9,10] [0] [] (QnS Γ rv h21 ?_)
 obtain ⟨l3,rfl⟩:∃ x,x=e1:=⟨_,rfl⟩
 replace h:(some l3:Option (List Qab))=some _:=h
 obtain rfl:=Option.some.inj h
 exact gr 2 [] [hW 4,hH (.frz 0),rp 3 (eL l3 Qab.enc)]
theorem QpR {orders l word turned} {rv:List Qab} (h:QfL orders l word turned=some rv):AFn Tryz.prog 112 [.one (lI orders),.one (lL 2 l Qap.enc),.one (.str word),.one (.bool turned)] [] (one (lL 2 rv Qab.enc)) []:=by
 refine QaK Tryz.func112 (by kernel_rfl) (by kernel_rfl) (fun Γ=>?_)
 unfold QfL at h
 rcases Qah h with ⟨h0,h⟩|⟨h0,h⟩
 ·obtain ⟨h1,h⟩:=Qar h
  exact gn 9 [0,1,2,3,9] [1] [nL Qap.enc l,bT h0,oO (Eq.refl ([(Qab.mk 4 word)].map Qab.enc).length),aN (l:=([(Qab.mk 4 word)]:List Qab)) Qab.enc h1] (Qil Γ rv h)
 ·exact gn 9 [0,1,2,3,9] [0] [nL Qap.enc l,bF h0,hW 1,hH (.adopt 9 2 164)] (Qil Γ rv h)
def Qdf (Γ:Gam) (rv:List Qab) (cf:Cf):Prop:=Go Tryz.prog Tryz.f112 [] Γ (one (lO 0 2 rv Qab.enc)) [oS 2 164 rv Qab.enc] cf
def Qg1 (Γ:Gam) (rv:List Qab) (orders:Int) (l:List Qap) (word:ByteArray) (turned:Bool) (l2:List Qab) (i:Int) (x0:Qap) (r:ByteArray) (twice:Bool) (k:Int):Prop:=Qdf Γ rv ⟨[.c 1001972,.l 1001972,.b 2,.c 125247,.b 1,.c 979,.l 244,.b 0,.c 31],⟨123,[vI 0 orders,vL 1 2 l Qap.enc,vS 2 word,vB 3 turned,vO 9 0 2 l2 Qab.enc,vI 10 i,vI 11 x0.x0,vI 12 x0.x1,vS 13 (catS (catS word Qcx) r),vB 14 twice,vI 15 k],[oS 2 164 l2 Qab.enc]⟩⟩
def QgL (Γ:Gam) (rv:List Qab) (orders:Int) (l:List Qap) (word:ByteArray) (turned:Bool) (l2:List Qab) (i:Int) (x0:Qap) (r:ByteArray) (twice1:Bool):Prop:=Qdf Γ rv ⟨[.c 125247,.b 1,.c 979,.l 244,.b 0,.c 31],⟨123,[vI 0 orders,vL 1 2 l Qap.enc,vS 2 word,vB 3 turned,vO 9 0 2 l2 Qab.enc,vI 10 i,vS 13 (catS (catS word Qcx) r),vB 14 twice1],[oS 2 164 l2 Qab.enc]⟩⟩
def Qg0 (Γ:Gam) (rv:List Qab) (orders:Int) (l:List Qap) (word:ByteArray) (turned:Bool) (l2:List Qab) (i:Int):Prop:=Qdf Γ rv ⟨[.c 244,.l 244,.b 0,.c 31],⟨123,[vI 0 orders,vL 1 2 l Qap.enc,vS 2 word,vB 3 turned,vO 9 0 2 l2 Qab.enc,vI 10 i],[oS 2 164 l2 Qab.enc]⟩⟩
def QgK (Γ:Gam) (rv:List Qab) (orders:Int) (l:List Qap) (word:ByteArray) (turned:Bool) (l3:List Qab):Prop:=Qdf Γ rv ⟨[.c 31],⟨123,[vO 9 0 2 l3 Qab.enc],[oS 2 164 l3 Qab.enc]⟩⟩
theorem Qly (Γ:Gam) (rv:List Qab) {orders l word turned l2 i x0 r} {s:Bool×Int} {e:Bool} (h:loopF (fun s=>QdZ orders l word turned l2 i x0 r s.1 s.2) s=some e) (hD:QgL Γ rv orders l word turned l2 i x0 r e):Qg1 Γ rv orders l word turned l2 i x0 r s.1 s.2:=by
 refine Qau (C:=fun (s:Bool×Int)=>Qg1 Γ rv orders l word turned l2 i x0 r s.1 s.2) (D:=fun (e:Bool)=>QgL Γ rv orders l word turned l2 i x0 r e) ?_ h hD
 clear h hD s e
 rintro ⟨twice,k⟩ z_ h hI hE
 replace h:QdZ orders l word turned l2 i x0 r twice k=_:=h
 unfold QdZ at h
 rcases Qah h with ⟨h9,h⟩|⟨h9,h⟩
 ·rcases Qah h with ⟨h10,h⟩|⟨h10,h⟩
  ·exact gn 11 [0,1,2,3,9,10,11,12,13,14,15] [0] [bT h9,rp 8 (bT h10),rp 7 kF,rp 2 (bT h10),tT,tT,rp 7 kF,tT,tT,rp 7 kF,tT,tT] (hI _ (oJ h))
  ·obtain ⟨x1,h11,h⟩:=Qaf h
   rcases Qah h with ⟨h12,h⟩|⟨h12,h⟩
   ·rcases Qah h with ⟨h13,h⟩|⟨h13,h⟩
    ·exact gn 11 [0,1,2,3,9,10,11,12,13,14,15] [0] [bT h9,rp 3 (bF h10),cE Qap.enc h11,bF h10,oO (zL 0),oO (lT 0 2),rp 4 (bF h10),rp 3 (bT h12),cE Qap.enc h11,bT h12,oO (zL 1),oO (lT 1 2),rp 3 (bT h12),bF h10,bT h12,bF h10,rp 2 (bT h13),rp 7 kF,rp 2 (bT h13),rp 7 kF,rp 2 (bT h13)] (hI _ (oJ h))
    ·rcases Qah h with ⟨h14,h⟩|⟨h14,h⟩
     ·rcases Qah h with ⟨h15,h⟩|⟨h15,h⟩
      ·exact gn 11 [0,1,2,3,9,10,11,12,13,14,15] [0] [bT h9,rp 3 (bF h10),cE Qap.enc h11,bF h10,oO (zL 0),oO (lT 0 2),rp 4 (bF h10),rp 3 (bT h12),cE Qap.enc h11,bT h12,oO (zL 1),oO (lT 1 2),rp 3 (bT h12),bF h10,bT h12,bF h10,rp 2 (bF h13),rp 3 (bT h14),cE Qap.enc h11,bT h14,oO (zL 0),oO (lT 0 2),rp 3 (bT h14),bF h13,bT h14,bF h13,rp 3 (bT h15),cE Qap.enc h11,bT h15,oO (zL 1),oO (lT 1 2),rp 3 (bT h15),bF h13,bT h15,bF h13] (hI _ (oJ h))
      ·exact gn 11 [0,1,2,3,9,10,11,12,13,14,15] [0] [bT h9,rp 3 (bF h10),cE Qap.enc h11,bF h10,oO (zL 0),oO (lT 0 2),rp 4 (bF h10),rp 3 (bT h12),cE Qap.enc h11,bT h12,oO (zL 1),oO (lT 1 2),rp 3 (bT h12),bF h10,bT h12,bF h10,rp 2 (bF h13),rp 3 (bT h14),cE Qap.enc h11,bT h14,oO (zL 0),oO (lT 0 2),rp 3 (bT h14),bF h13,bT h14,bF h13,rp 7 (bF h15),bF h13,bF h15,bF h13] (hI _ (oJ h))
     ·exact gn 11 [0,1,2,3,9,10,11,12,13,14,15] [0] [bT h9,rp 3 (bF h10),cE Qap.enc h11,bF h10,oO (zL 0),oO (lT 0 2),rp 4 (bF h10),rp 3 (bT h12),cE Qap.enc h11,bT h12,oO (zL 1),oO (lT 1 2),rp 3 (bT h12),bF h10,bT h12,bF h10,rp 2 (bF h13),rp 7 (bF h14),bF h13,bF h14,bF h13,rp 7 fF,bF h13,fF,bF h13] (hI _ (oJ h))
   ·rcases Qah h with ⟨h16,h⟩|⟨h16,h⟩
    ·rcases Qah h with ⟨h17,h⟩|⟨h17,h⟩
     ·exact gn 11 [0,1,2,3,9,10,11,12,13,14,15] [0] [bT h9,rp 3 (bF h10),cE Qap.enc h11,bF h10,oO (zL 0),oO (lT 0 2),rp 4 (bF h10),rp 7 (bF h12),bF h10,bF h12,bF h10,fF,fF,rp 3 (bT h16),cE Qap.enc h11,bT h16,oO (zL 0),oO (lT 0 2),rp 3 (bT h16),fF,bT h16,fF,rp 3 (bT h17),cE Qap.enc h11,bT h17,oO (zL 1),oO (lT 1 2),rp 3 (bT h17),fF,bT h17,fF] (hI _ (oJ h))
     ·exact gn 11 [0,1,2,3,9,10,11,12,13,14,15] [0] [bT h9,rp 3 (bF h10),cE Qap.enc h11,bF h10,oO (zL 0),oO (lT 0 2),rp 4 (bF h10),rp 7 (bF h12),bF h10,bF h12,bF h10,fF,fF,rp 3 (bT h16),cE Qap.enc h11,bT h16,oO (zL 0),oO (lT 0 2),rp 3 (bT h16),fF,bT h16,fF,rp 7 (bF h17),fF,bF h17,fF] (hI _ (oJ h))
    ·exact gn 11 [0,1,2,3,9,10,11,12,13,14,15] [0] [bT h9,rp 3 (bF h10),cE Qap.enc h11,bF h10,oO (zL 0),oO (lT 0 2),rp 4 (bF h10),rp 7 (bF h12),bF h10,bF h12,bF h10,fF,fF,rp 7 (bF h16),fF,bF h16,rp 11 fF] (hI _ (oJ h))
 ·exact gn 5 [0,1,2,3,9,10,13,14] [0] [bF h9] (hE _ (oJ h))
theorem Qlx (Γ:Gam) (rv:List Qab) {orders l word turned} {s:List Qab×Int} {e:List Qab} (h:loopF (fun s=>QdY orders l word turned s.1 s.2) s=some e) (hD:QgK Γ rv orders l word turned e):Qg0 Γ rv orders l word turned s.1 s.2:=by
 refine Qau (C:=fun (s:List Qab×Int)=>Qg0 Γ rv orders l word turned s.1 s.2) (D:=fun (e:List Qab)=>QgK Γ rv orders l word turned e) ?_ h hD
 clear h hD s e
 rintro ⟨l2,i⟩ z_ h hI hE
 replace h:QdY orders l word turned l2 i=_:=h
 unfold QdY at h
 rcases Qah h with ⟨h2,h⟩|⟨h2,h⟩
 ·obtain ⟨x0,h3,h⟩:=Qaf h
  obtain ⟨h4,h⟩:=Qar h
  obtain ⟨r,h5,h⟩:=Qaf h
  obtain ⟨h6,h⟩:=Qar h
  rcases Qah h with ⟨h7,h⟩|⟨h7,h⟩
  ·obtain ⟨h8,h⟩:=Qar h
   exact gn 22 [0,1,2,3,9,10] [2] [nL Qap.enc l,bT h2,cE Qap.enc h3,oO (zL 0),oO (lT 0 2),cE Qap.enc h3,oO (zL 1),oO (lT 1 2),oO (h4),cC (QeW h5),rp 15 hP,oO (h6),rp 2 (oI ((ltI x0.x0 0)=false)),oR True ((ltI x0.x0 0)=false),oI (((ltI x0.x0 0)||(geI x0.x0 orders))=false),oR True (((ltI x0.x0 0)||(geI x0.x0 orders))=false),rp 2 (oI ((((ltI x0.x0 0)||(geI x0.x0 orders))||(ltI x0.x1 0))=false)),oR True ((((ltI x0.x0 0)||(geI x0.x0 orders))||(ltI x0.x1 0))=false),rp 2 (oI (((((ltI x0.x0 0)||(geI x0.x0 orders))||(ltI x0.x1 0))||(geI x0.x1 orders))=false)),oR True (((((ltI x0.x0 0)||(geI x0.x0 orders))||(ltI x0.x1 0))||(geI x0.x1 orders))=false),bT h7,oO (Eq.refl ([(Qab.mk 2 (catS (catS word Qcx) r))].map Qab.enc).length),aO Qab.enc h8] (hI _ (oJ h))
  ·obtain ⟨e0,h18,h⟩:=Qaf h
   refine gn 25 [0,1,2,3,9,10,11,12,13,14,15] [0] [nL Qap.enc l,bT h2,cE Qap.enc h3,oO (zL 0),oO (lT 0 2),cE Qap.enc h3,oO (zL 1),oO (lT 1 2),oO (h4),cC (QeW h5),rp 15 hP,oO (h6),rp 2 (oI ((ltI x0.x0 0)=false)),oR True ((ltI x0.x0 0)=false),oI (((ltI x0.x0 0)||(geI x0.x0 orders))=false),oR True (((ltI x0.x0 0)||(geI x0.x0 orders))=false),rp 2 (oI ((((ltI x0.x0 0)||(geI x0.x0 orders))||(ltI x0.x1 0))=false)),oR True ((((ltI x0.x0 0)||(geI x0.x0 orders))||(ltI x0.x1 0))=false),rp 2 (oI (((((ltI x0.x0 0)||(geI x0.x0 orders))||(ltI x0.x1 0))||(geI x0.x1 orders))=false)),oR True (((((ltI x0.x0 0)||(geI x0.x0 orders))||(ltI x0.x1 0))||(geI x0.x1 orders))=false),bF h7] (Qly Γ rv h18 ?_)
   obtain ⟨twice1,rfl⟩:∃ x,x=e0:=⟨_,rfl⟩
   replace h:(br twice1 (chk (okN (l2++[(Qab.mk 6 (catS (catS word Qcx) r))]).length 24) (some (.inl ((l2++[(Qab.mk 6 (catS (catS word Qcx) r))]),(addK .i64 i 1))))) (some (.inl (l2,(addK .i64 i 1)))):Option ((List Qab×Int)⊕(List Qab)))=some _:=h
   rcases Qah h with ⟨h19,h⟩|⟨h19,h⟩
   ·obtain ⟨h20,h⟩:=Qar h
    exact gn 7 [0,1,2,3,9,10] [2] [bT h19,oO (Eq.refl ([(Qab.mk 6 (catS (catS word Qcx) r))].map Qab.enc).length),aO Qab.enc h20] (hI _ (oJ h))
   ·exact gn 7 [0,1,2,3,9,10] [0] [bF h19] (hI _ (oJ h))
 ·exact gn 5 [9] [0] [nL Qap.enc l,bF h2] (hE _ (oJ h))
theorem QgJ (Γ:Gam) (rv:List Qab) {orders l word turned l1} (h:QdX orders l word turned l1=some rv):Qdf Γ rv ⟨[.c 15],⟨123,[vI 0 orders,vL 1 2 l Qap.enc,vS 2 word,vB 3 turned,vO 9 0 2 l1 Qab.enc],[oS 2 164 l1 Qab.enc]⟩⟩:=by
 unfold QdX at h
 obtain ⟨e1,h21,h⟩:=Qaf h
 refine gn 5 [0,1,2,3,9,10] [0] [] (Qlx Γ rv h21 ?_)
 obtain ⟨l3,rfl⟩:∃ x,x=e1:=⟨_,rfl⟩
 replace h:(some l3:Option (List Qab))=some _:=h
 obtain rfl:=Option.some.inj h
 exact gr 2 [0] []
theorem Qnc {orders l word turned} {rv:List Qab} (h:QgQ orders l word turned=some rv):AFn Tryz.prog 112 [.one (lI orders),.one (lL 2 l Qap.enc),.one (.str word),.one (.bool turned)] [] (one (lO 0 2 rv Qab.enc)) [oS 2 164 rv Qab.enc]:=by
 refine QaK Tryz.func112 (by kernel_rfl) (by kernel_rfl) (fun Γ=>?_)
 unfold QgQ at h
 rcases Qah h with ⟨h0,h⟩|⟨h0,h⟩
 ·obtain ⟨h1,h⟩:=Qar h
  exact gn 9 [0,1,2,3,9] [1] [nL Qap.enc l,bT h0,oO (Eq.refl ([(Qab.mk 4 word)].map Qab.enc).length),aN (l:=([(Qab.mk 4 word)]:List Qab)) Qab.enc h1] (QgJ Γ rv h)
 ·exact gn 9 [0,1,2,3,9] [0] [nL Qap.enc l,bF h0,hW 1,hH (.adopt 9 2 164)] (QgJ Γ rv h)
theorem Qqm {orders apart before} {rv:List Qab} (h:Qgk orders apart before=some rv):AFn Tryz.prog 70 [.one (lI orders),.one (lL 2 apart Qap.enc),.one (lL 2 before Qap.enc)] [] (one (lL 2 rv Qab.enc)) []:=by
 refine QaK Tryz.func70 (by kernel_rfl) (by kernel_rfl) (fun Γ=>?_)
 unfold Qgk at h
 obtain ⟨r,h0,h⟩:=Qaf h
 obtain ⟨r1,h1,h⟩:=Qaf h
 obtain ⟨h2,h⟩:=Qar h
 obtain rfl:=Option.some.inj h
 exact gr 6 [] [cC (Qnc h0),cC (QpR h1),aO Qab.enc h2,hW 1,hH (.frz 1),rp 2 (oO (Eq.refl ((r++r1).map Qab.enc).length))]
def Qgn (Γ:Gam) (rv:List Qab) (cf:Cf):Prop:=Go Tryz.prog Tryz.f65 [] Γ (one (lO 0 2 rv Qab.enc)) [oS 2 164 rv Qab.enc] cf
def Qe7 (Γ:Gam) (rv:List Qab) (word:ByteArray) (l:List Qab) (l1:List Qab) (i:Int):Prop:=Qgn Γ rv ⟨[.c 116,.l 116,.b 0,.c 15],⟨40,[vS 0 word,vL 1 2 l Qab.enc,vO 5 0 2 l1 Qab.enc,vI 6 i],[oS 2 164 l1 Qab.enc]⟩⟩
def QeS (Γ:Gam) (rv:List Qab) (word:ByteArray) (l:List Qab) (l2:List Qab):Prop:=Qgn Γ rv ⟨[.c 15],⟨40,[vO 5 0 2 l2 Qab.enc],[oS 2 164 l2 Qab.enc]⟩⟩
theorem Qg2 (Γ:Gam) (rv:List Qab) {word l l1 i at_} {x:(List Qab×Int)⊕(List Qab)} (h:Qer word l l1 i at_=some x) (hI:∀ s:List Qab×Int,x=.inl s→Qe7 Γ rv word l s.1 s.2) (hE:∀ e:List Qab,x=.inr e→QeS Γ rv word l e):Qgn Γ rv ⟨[.c 3731,.b 1,.c 467,.l 116,.b 0,.c 15],⟨40,[vS 0 word,vL 1 2 l Qab.enc,vO 5 0 2 l1 Qab.enc,vI 6 i,vS 7 at_],[oS 2 164 l1 Qab.enc]⟩⟩:=by
 unfold Qer at h
 obtain ⟨x1,h5,h⟩:=Qaf h
 obtain ⟨h6,h⟩:=Qar h
 exact gn 4 [0,1,5,6] [2] [cE Qab.enc h5,oO (Eq.refl ([(Qab.mk x1.err at_)].map Qab.enc).length),aO Qab.enc h6] (hI _ (oJ h))
theorem Qme (Γ:Gam) (rv:List Qab) {word l} {s:List Qab×Int} {e:List Qab} (h:loopF (fun s=>Qes word l s.1 s.2) s=some e) (hD:QeS Γ rv word l e):Qe7 Γ rv word l s.1 s.2:=by
 refine Qau (C:=fun (s:List Qab×Int)=>Qe7 Γ rv word l s.1 s.2) (D:=fun (e:List Qab)=>QeS Γ rv word l e) ?_ h hD
 clear h hD s e
 rintro ⟨l1,i⟩ z_ h hI hE
 replace h:Qes word l l1 i=_:=h
 unfold Qes at h
 rcases Qah h with ⟨h0,h⟩|⟨h0,h⟩
 ·obtain ⟨x0,h1,h⟩:=Qaf h
  rcases Qah h with ⟨h2,h⟩|⟨h2,h⟩
  ·exact gn 14 [0,1,5,6,7] [0] [nL Qab.enc l,bT h0,cE Qab.enc h1,nF h2] (Qg2 Γ rv h hI hE)
  ·obtain ⟨h3,h⟩:=Qar h
   obtain ⟨h4,h⟩:=Qar h
   exact gn 14 [0,1,5,6,7] [0] [nL Qab.enc l,bT h0,cE Qab.enc h1,nT h2,oO (h3),cE Qab.enc h1,oO (h4)] (Qg2 Γ rv h hI hE)
 ·exact gn 5 [5] [0] [nL Qab.enc l,bF h0] (hE _ (oJ h))
theorem QnU {word l} {rv:List Qab} (h:Qfz word l=some rv):AFn Tryz.prog 65 [.one (.str word),.one (lL 2 l Qab.enc)] [] (one (lO 0 2 rv Qab.enc)) [oS 2 164 rv Qab.enc]:=by
 refine QaK Tryz.func65 (by kernel_rfl) (by kernel_rfl) (fun Γ=>?_)
 unfold Qfz at h
 obtain ⟨e0,h7,h⟩:=Qaf h
 refine gn 9 [0,1,5,6] [0] [hW 12,hH (.adopt 5 2 164)] (Qme Γ rv h7 ?_)
 obtain ⟨l2,rfl⟩:∃ x,x=e0:=⟨_,rfl⟩
 replace h:(some l2:Option (List Qab))=some _:=h
 obtain rfl:=Option.some.inj h
 exact gr 2 [0] []
theorem Qqn {x0} {rv:List Qab} (h:Qgl x0=some rv):AFn Tryz.prog 23 [.agg (Qac.enc x0)] [] (one (lL 2 rv Qab.enc)) []:=by
 refine QaK Tryz.func23 (by kernel_rfl) (by kernel_rfl) (fun Γ=>?_)
 unfold Qgl at h
 obtain ⟨r,h0,h⟩:=Qaf h
 obtain ⟨r1,h1,h⟩:=Qaf h
 obtain ⟨r2,h2,h⟩:=Qaf h
 obtain ⟨r3,h3,h⟩:=Qaf h
 obtain ⟨h4,h⟩:=Qar h
 obtain ⟨r4,h5,h⟩:=Qaf h
 obtain ⟨r5,h6,h⟩:=Qaf h
 obtain ⟨r6,h7,h⟩:=Qaf h
 obtain ⟨h8,h⟩:=Qar h
 obtain ⟨r7,h9,h⟩:=Qaf h
 obtain ⟨r8,h10,h⟩:=Qaf h
 obtain ⟨h11,h⟩:=Qar h
 obtain rfl:=Option.some.inj h
 exact gr 12 [] [cC (Qqh h0),cC (QnU h1),cC (Qqi h2),cC (QhV h3),aO Qab.enc h4,hH (.draw 13 []),cC (Qe4 h5),nL Qai.enc x0.types,cC (Qqk h6),cC (QhV h7),aO Qab.enc h8,nL Qag.enc x0.orders,cC (Qqm h9),cC (QhV h10),aO Qab.enc h11,hW 5,hH (.frz 4),rp 4 (oO (Eq.refl ((((r1++r3)++r6)++r8).map Qab.enc).length))]
theorem QfH {x0} {rv:Bool} (h:QhI x0=some rv):AFn Tryz.prog 7 [.agg (Qac.enc x0)] [] (one (.bool rv)) []:=by
 refine QaK Tryz.func7 (by kernel_rfl) (by kernel_rfl) (fun Γ=>?_)
 unfold QhI at h
 rcases Qah h with ⟨h0,h⟩|⟨h0,h⟩
 ·obtain ⟨r,h1,h⟩:=Qaf h
  obtain rfl:=Option.some.inj h
  exact gr 4 [] [nL Qag.enc x0.orders,bT h0,bT h0,cC (Qqn h1),bT h0,nL Qab.enc r,bT h0,bT h0]
 ·obtain rfl:=Option.some.inj h
  exact gr 4 [] [nL Qag.enc x0.orders,rp 5 (bF h0)]
theorem Qaw {set_ i} {rv:Bool} (h:QbN set_ i=some rv):AFn Tryz.prog 71 [.one (lI set_),.one (lI i)] [] (one (.bool rv)) []:=by
 refine QaK Tryz.func71 (by kernel_rfl) (by kernel_rfl) (fun Γ=>?_)
 unfold QbN at h
 rcases Qah h with ⟨h0,h⟩|⟨h0,h⟩
 ·obtain ⟨h1,h⟩:=Qar h
  obtain rfl:=Option.some.inj h
  exact gr 4 [] [hP,hP,hP,oI ((geI i 0)=true),oR True ((geI i 0)=true),rp 3 (bT h0),oO (h1),rp 3 (bT h0)]
 ·obtain rfl:=Option.some.inj h
  exact gr 4 [] [hP,hP,hP,oI ((geI i 0)=true),oR True ((geI i 0)=true),rp 6 (bF h0)]
def QqK (Γ:Gam) (rv:List Int) (cf:Cf):Prop:=Go Tryz.prog Tryz.f26 [] Γ (one (lL 1 rv e_i64)) [] cf
def QnN (Γ:Gam) (rv:List Int) (set_:Int) (l:List Int) (v:Int):Prop:=QqK Γ rv ⟨[.c 116,.l 116,.b 0,.c 15],⟨17,[vI 0 set_,vO 3 0 1 l e_i64,vI 5 v],[oS 1 3 l e_i64]⟩⟩
def QmZ (Γ:Gam) (rv:List Int) (set_:Int) (l1:List Int):Prop:=QqK Γ rv ⟨[.c 15],⟨17,[vO 3 0 1 l1 e_i64],[oS 1 3 l1 e_i64]⟩⟩
theorem Qrd (Γ:Gam) (rv:List Int) {set_} {s:List Int×Int} {e:List Int} (h:loopF (fun s=>Qbf set_ s.1 s.2) s=some e) (hD:QmZ Γ rv set_ e):QnN Γ rv set_ s.1 s.2:=by
 refine Qau (C:=fun (s:List Int×Int)=>QnN Γ rv set_ s.1 s.2) (D:=fun (e:List Int)=>QmZ Γ rv set_ e) ?_ h hD
 clear h hD s e
 rintro ⟨l,v⟩ z_ h hI hE
 replace h:Qbf set_ l v=_:=h
 unfold Qbf at h
 rcases Qah h with ⟨h0,h⟩|⟨h0,h⟩
 ·obtain ⟨r,h1,h⟩:=Qaf h
  rcases Qah h with ⟨h2,h⟩|⟨h2,h⟩
  ·obtain ⟨h3,h⟩:=Qar h
   exact gn 16 [0,3,5] [2] [bT h0,cC (Qaw h1),bT h2,oO (Eq.refl ([v].map e_i64).length),aO e_i64 h3] (hI _ (oJ h))
  ·exact gn 16 [0,3,5] [0] [bT h0,cC (Qaw h1),bF h2] (hI _ (oJ h))
 ·exact gn 5 [3] [0] [bF h0] (hE _ (oJ h))
theorem Qmi {set_} {rv:List Int} (h:QfC set_=some rv):AFn Tryz.prog 26 [.one (lI set_)] [] (one (lL 1 rv e_i64)) []:=by
 refine QaK Tryz.func26 (by kernel_rfl) (by kernel_rfl) (fun Γ=>?_)
 unfold QfC at h
 obtain ⟨e0,h4,h⟩:=Qaf h
 refine gn 9 [0,3,5] [0] [hW 12,hH (.adopt 3 1 3)] (Qrd Γ rv h4 ?_)
 obtain ⟨l1,rfl⟩:∃ x,x=e0:=⟨_,rfl⟩
 replace h:(some l1:Option (List Int))=some _:=h
 obtain rfl:=Option.some.inj h
 exact gr 2 [] [hW 4,hH (.frz 0),rp 3 (eL l1 e_i64)]
def Qrp (Γ:Gam) (rv:Bool) (cf:Cf):Prop:=Go Tryz.prog Tryz.f24 [] Γ (one (.bool rv)) [] cf
def Qn7 (Γ:Gam) (rv:Bool) (x0:Qac) (r:List Int) (v:Int):Prop:=Qrp Γ rv ⟨[.c 116,.l 116,.b 0,.c 15],⟨32,[vP 2 0 6,vL 19 1 r e_i64,vI 20 (lenI r),vI 21 v],[oX 6 30 (Qac.enc x0)]⟩⟩
def Qnm (Γ:Gam) (rv:Bool) (x0:Qac) (r:List Int):Prop:=Qrp Γ rv ⟨[.c 15],⟨32,[],[]⟩⟩
theorem Qrw (Γ:Gam) (rv:Bool) {x0 r} {s:Int} {e:(Unit)⊕(Bool)} (h:loopF (fun s=>QdV x0 r s) s=some e) (hD:sel e (fun e=>Qnm Γ rv x0 r) (fun e=>e=rv)):Qn7 Γ rv x0 r s:=by
 refine Qau (C:=fun (s:Int)=>Qn7 Γ rv x0 r s) (D:=fun (e:(Unit)⊕(Bool))=>sel e (fun e=>Qnm Γ rv x0 r) (fun e=>e=rv)) ?_ h hD
 clear h hD s e
 intro v z_ h hI hE
 replace h:QdV x0 r v=_:=h
 unfold QdV at h
 rcases Qah h with ⟨h4,h⟩|⟨h4,h⟩
 ·obtain ⟨x1,h5,h⟩:=Qaf h
  obtain ⟨x2,h6,h⟩:=Qaf h
  rcases Qah h with ⟨h7,h⟩|⟨h7,h⟩
  ·obtain rfl:=(hE _ (oJ h):_=rv)
   exact gr 14 [] [bT h4,cE e_i64 h5,cE Qag.enc h6,bT h7]
  ·exact gn 16 [2,19,20,21] [0] [bT h4,cE e_i64 h5,cE Qag.enc h6,bF h7] (hI _ (oJ h))
 ·exact gn 5 [] [] [bF h4] (hE _ (oJ h))
theorem Qm6 {x0 set_} {rv:Bool} (h:Qmm x0 set_=some rv):AFn Tryz.prog 24 [.agg (Qac.enc x0),.one (lI set_)] [] (one (.bool rv)) []:=by
 refine QaK Tryz.func24 (by kernel_rfl) (by kernel_rfl) (fun Γ=>?_)
 unfold Qmm at h
 rcases Qah h with ⟨h0,h⟩|⟨h0,h⟩
 ·obtain rfl:=Option.some.inj h
  exact gr 8 [] [rp 8 (bT h0),tT]
 ·obtain ⟨h1,h⟩:=Qar h
  rcases Qah h with ⟨h2,h⟩|⟨h2,h⟩
  ·obtain rfl:=Option.some.inj h
   exact gr 8 [] [rp 4 (bF h0),nL Qag.enc x0.orders,bF h0,bF h0,oO (h1),bF h0,bF h0,bT h2]
  ·obtain ⟨r,h3,h⟩:=Qaf h
   obtain ⟨e0,h8,h⟩:=Qaf h
   refine gn 12 [2,19,20,21] [0] [rp 4 (bF h0),nL Qag.enc x0.orders,bF h0,bF h0,oO (h1),bF h0,bF h0,bF h2,cC (Qmi h3),nL e_i64 r] (Qrw Γ rv h8 ?_)
   rcases e0 with e0|e0
   ·replace h:(some true:Option Bool)=some _:=h
    obtain rfl:=Option.some.inj h
    exact gr 2 [] []
   ·obtain ⟨r1,rfl⟩:∃ x,x=e0:=⟨_,rfl⟩
    replace h:(some r1:Option Bool)=some _:=h
    exact Option.some.inj h
def Qkr (Γ:Gam) (rv:Bool) (cf:Cf):Prop:=Go Tryz.prog Tryz.f25 [] Γ (one (.bool rv)) [] cf
def Qnn (Γ:Gam) (rv:Bool) (x0:Qac) (set_:Int) (v:Int):Prop:=Qkr Γ rv ⟨[.c 52,.l 52,.b 0,.c 7],⟨46,[vI 1 set_,vP 2 0 6,vL 10 2 x0.apart Qap.enc,vI 11 (lenI x0.apart),vI 12 v],[oX 6 30 (Qac.enc x0)]⟩⟩
def Qmn (Γ:Gam) (rv:Bool) (x0:Qac) (set_:Int):Prop:=Qkr Γ rv ⟨[.c 7],⟨46,[vI 1 set_,vP 2 0 6],[oX 6 30 (Qac.enc x0)]⟩⟩
def Qno (Γ:Gam) (rv:Bool) (x0:Qac) (set_:Int) (v1:Int):Prop:=Qkr Γ rv ⟨[.c 116,.l 116,.b 2,.c 15],⟨46,[vI 1 set_,vL 28 2 x0.before Qap.enc,vI 29 (lenI x0.before),vI 30 v1],[]⟩⟩
def Qmo (Γ:Gam) (rv:Bool) (x0:Qac) (set_:Int):Prop:=Qkr Γ rv ⟨[.c 15],⟨46,[],[]⟩⟩
theorem QqY (Γ:Gam) (rv:Bool) {x0 set_} {s:Int} {e:(Unit)⊕(Bool)} (h:loopF (fun s=>Qdq x0 set_ s) s=some e) (hD:sel e (fun e=>Qmn Γ rv x0 set_) (fun e=>e=rv)):Qnn Γ rv x0 set_ s:=by
 refine Qau (C:=fun (s:Int)=>Qnn Γ rv x0 set_ s) (D:=fun (e:(Unit)⊕(Bool))=>sel e (fun e=>Qmn Γ rv x0 set_) (fun e=>e=rv)) ?_ h hD
 clear h hD s e
 intro v z_ h hI hE
 replace h:Qdq x0 set_ v=_:=h
 unfold Qdq at h
 rcases Qah h with ⟨h0,h⟩|⟨h0,h⟩
 ·obtain ⟨x1,h1,h⟩:=Qaf h
  obtain ⟨r,h2,h⟩:=Qaf h
  rcases Qah h with ⟨h3,h⟩|⟨h3,h⟩
  ·obtain ⟨r1,h4,h⟩:=Qaf h
   rcases Qah h with ⟨h5,h⟩|⟨h5,h⟩
   ·obtain rfl:=(hE _ (oJ h):_=rv)
    exact gr 14 [] [bT h0,cE Qap.enc h1,oO (zL 0),oO (lT 0 2),cC (Qaw h2),bT h3,bT h3,oO (zL 1),oO (lT 1 2),bT h3,bT h3,cC (Qaw h4),bT h3,bT h5]
   ·exact gn 16 [1,2,10,11,12] [0] [bT h0,cE Qap.enc h1,oO (zL 0),oO (lT 0 2),cC (Qaw h2),bT h3,bT h3,oO (zL 1),oO (lT 1 2),bT h3,bT h3,cC (Qaw h4),bT h3,bF h5] (hI _ (oJ h))
  ·exact gn 16 [1,2,10,11,12] [0] [bT h0,cE Qap.enc h1,oO (zL 0),oO (lT 0 2),cC (Qaw h2),rp 5 (bF h3),fF] (hI _ (oJ h))
 ·exact gn 5 [1,2] [0] [bF h0] (hE _ (oJ h))
theorem QqZ (Γ:Gam) (rv:Bool) {x0 set_} {s:Int} {e:(Unit)⊕(Bool)} (h:loopF (fun s=>QcT x0 set_ s) s=some e) (hD:sel e (fun e=>Qmo Γ rv x0 set_) (fun e=>e=rv)):Qno Γ rv x0 set_ s:=by
 refine Qau (C:=fun (s:Int)=>Qno Γ rv x0 set_ s) (D:=fun (e:(Unit)⊕(Bool))=>sel e (fun e=>Qmo Γ rv x0 set_) (fun e=>e=rv)) ?_ h hD
 clear h hD s e
 intro v1 z_ h hI hE
 replace h:QcT x0 set_ v1=_:=h
 unfold QcT at h
 rcases Qah h with ⟨h7,h⟩|⟨h7,h⟩
 ·obtain ⟨x2,h8,h⟩:=Qaf h
  obtain ⟨r2,h9,h⟩:=Qaf h
  rcases Qah h with ⟨h10,h⟩|⟨h10,h⟩
  ·obtain ⟨r3,h11,h⟩:=Qaf h
   rcases Qah h with ⟨h12,h⟩|⟨h12,h⟩
   ·exact gn 16 [1,28,29,30] [] [bT h7,cE Qap.enc h8,oO (zL 1),oO (lT 1 2),cC (Qaw h9),rp 2 (bT h10),oO (zL 0),oO (lT 0 2),rp 2 (bT h10),cC (Qaw h11),rp 2 (bT h10),nF h12] (hI _ (oJ h))
   ·obtain rfl:=(hE _ (oJ h):_=rv)
    exact gr 14 [] [bT h7,cE Qap.enc h8,oO (zL 1),oO (lT 1 2),cC (Qaw h9),rp 2 (bT h10),oO (zL 0),oO (lT 0 2),rp 2 (bT h10),cC (Qaw h11),rp 2 (bT h10),nT h12]
  ·exact gn 16 [1,28,29,30] [] [bT h7,cE Qap.enc h8,oO (zL 1),oO (lT 1 2),cC (Qaw h9),rp 6 (bF h10),fF] (hI _ (oJ h))
 ·exact gn 5 [] [] [bF h7] (hE _ (oJ h))
theorem Qpx {x0 set_} {rv:Bool} (h:QkJ x0 set_=some rv):AFn Tryz.prog 25 [.agg (Qac.enc x0),.one (lI set_)] [] (one (.bool rv)) []:=by
 refine QaK Tryz.func25 (by kernel_rfl) (by kernel_rfl) (fun Γ=>?_)
 unfold QkJ at h
 obtain ⟨e0,h6,h⟩:=Qaf h
 refine gn 7 [1,2,10,11,12] [0] [nL Qap.enc x0.apart] (QqY Γ rv h6 ?_)
 rcases e0 with e0|e0
 ·replace h:(bnd (loopF (fun s=>QcT x0 set_ s) 0) (fun e=>sel e (fun (_:Unit)=>some true) (fun r4=>some r4)):Option Bool)=some _:=h
  obtain ⟨e1,h13,h⟩:=Qaf h
  refine gn 5 [1,28,29,30] [] [nL Qap.enc x0.before] (QqZ Γ rv h13 ?_)
  rcases e1 with e1|e1
  ·replace h:(some true:Option Bool)=some _:=h
   obtain rfl:=Option.some.inj h
   exact gr 2 [] []
  ·obtain ⟨r4,rfl⟩:∃ x,x=e1:=⟨_,rfl⟩
   replace h:(some r4:Option Bool)=some _:=h
   exact Option.some.inj h
 ·obtain ⟨r5,rfl⟩:∃ x,x=e0:=⟨_,rfl⟩
  replace h:(some r5:Option Bool)=some _:=h
  exact Option.some.inj h
theorem Qfg {t skills} {rv:Bool} (h:QhB t skills=some rv):AFn Tryz.prog 27 [.agg (Qai.enc t),.one (lI skills)] [] (one (.bool rv)) []:=by
 refine QaK Tryz.func27 (by kernel_rfl) (by kernel_rfl) (fun Γ=>?_)
 unfold QhB at h
 obtain rfl:=Option.some.inj h
 exact gr 4 [] [rp 9 hP,oI ((geI t.skills 0)=true),oR True ((geI t.skills 0)=true),rp 4 (oI (((geI t.skills 0)&&(geI skills 0))=true)),oR True (((geI t.skills 0)&&(geI skills 0))=true)]
theorem Qud {a b} {rv:Int} (h:Qqg a b=some rv):AFn Tryz.prog 73 [.one (lI a),.one (lI b)] [] (one (lI rv)) []:=by
 refine QaK Tryz.func73 (by kernel_rfl) (by kernel_rfl) (fun Γ=>?_)
 unfold Qqg at h
 obtain rfl:=Option.some.inj h
 exact gr 4 [] []
def QkL (Γ:Gam) (rv:List Int×Int) (cf:Cf):Prop:=Go Tryz.prog Tryz.f72 [] Γ (.tup [.one (lL 1 rv.1 e_i64),.one (lI rv.2)]) [] cf
def Qib (Γ:Gam) (rv:List Int×Int) (a:List Int) (b:List Int) (l:List Int) (l1:List Int) (v:Int):Prop:=QkL Γ rv ⟨[.c 244,.l 244,.b 0,.c 31],⟨38,[vL 0 1 a e_i64,vL 1 1 b e_i64,(2,one (.fn (.func 73) [])),vO 8 0 1 l1 e_i64,vI 19 (lenI a),vI 20 v],[oS 1 3 l1 e_i64]⟩⟩
def QhG (Γ:Gam) (rv:List Int×Int) (a:List Int) (b:List Int) (l:List Int) (l2:List Int):Prop:=QkL Γ rv ⟨[.c 31],⟨38,[vO 8 0 1 l2 e_i64],[oS 1 3 l2 e_i64]⟩⟩
theorem Qm8 (Γ:Gam) (rv:List Int×Int) {a b l} {s:List Int×Int} {e:List Int} (h:loopF (fun s=>Qbu a b l s.1 s.2) s=some e) (hD:QhG Γ rv a b l e):Qib Γ rv a b l s.1 s.2:=by
 refine Qau (C:=fun (s:List Int×Int)=>Qib Γ rv a b l s.1 s.2) (D:=fun (e:List Int)=>QhG Γ rv a b l e) ?_ h hD
 clear h hD s e
 rintro ⟨l1,v⟩ z_ h hI hE
 replace h:Qbu a b l l1 v=_:=h
 unfold Qbu at h
 rcases Qah h with ⟨h2,h⟩|⟨h2,h⟩
 ·obtain ⟨x0,h3,h⟩:=Qaf h
  obtain ⟨x1,h4,h⟩:=Qaf h
  obtain ⟨r,h5,h⟩:=Qaf h
  obtain ⟨x2,h6,h⟩:=Qaf h
  exact gn 13 [0,1,2,8,19,20] [0] [bT h2,hH (.draw 13 []),cE e_i64 h3,cE e_i64 h4,cC (Qud h5),oO (getLo h6),oO (getHi e_i64 h6),rE e_i64 h6,hH (.rows ((setI l1 v r).map e_i64)),hH (.relen 0 ((setI l1 v r).map e_i64).length),oO (setM e_i64 l1 v r),rp 2 (oO (QAn e_i64 l1 v r))] (hI _ (oJ h))
 ·exact gn 5 [8] [0] [bF h2] (hE _ (oJ h))
theorem Qo2 {a b} {rv:List Int×Int} (h:Qgz a b=some rv):AFn Tryz.prog 72 [.one (lL 1 a e_i64),.one (lL 1 b e_i64),.one (.fn (.func 73) [])] [] (.tup [.one (lL 1 rv.1 e_i64),.one (lI rv.2)]) []:=by
 refine QaK Tryz.func72 (by kernel_rfl) (by kernel_rfl) (fun Γ=>?_)
 unfold Qgz at h
 rcases Qah h with ⟨h0,h⟩|⟨h0,h⟩
 ·obtain rfl:=Option.some.inj h
  exact gr 8 [] [nL e_i64 a,nL e_i64 b,bT h0,hW 4,hH (.nilS 6 0 1)]
 ·obtain ⟨l,h1,h⟩:=Qaf h
  obtain ⟨e0,h7,h⟩:=Qaf h
  refine gn 14 [0,1,2,8,19,20] [0] [nL e_i64 a,nL e_i64 b,bF h0,nL e_i64 a,hH (.cells [lI 0]),hH (.rows (l.map e_i64)),oO (mk1 h1),oO (mk2 h1),oO (mk3 h1),oO (mk4 h1),oO (mk5 e_i64 h1),nL e_i64 a] (Qm8 Γ rv h7 ?_)
  obtain ⟨l2,rfl⟩:∃ x,x=e0:=⟨_,rfl⟩
  replace h:(some (l2,0):Option (List Int×Int))=some _:=h
  obtain rfl:=Option.some.inj h
  exact gr 2 [] [hW 5,hH (.frz 0),rp 3 (eL l2 e_i64)]
theorem Qsi {a b} {rv:List Int×Int} (h:QoW a b=some rv):AFn Tryz.prog 28 [.one (lL 1 a e_i64),.one (lL 1 b e_i64)] [] (.tup [.one (lL 1 rv.1 e_i64),.one (lI rv.2)]) []:=by
 refine QaK Tryz.func28 (by kernel_rfl) (by kernel_rfl) (fun Γ=>?_)
 unfold QoW at h
 obtain ⟨r,h0,h⟩:=Qaf h
 obtain rfl:=Option.some.inj h
 exact gr 4 [] [cC (Qo2 h0)]
def Qsj (Γ:Gam) (rv:Bool) (cf:Cf):Prop:=Go Tryz.prog Tryz.f29 [] Γ (one (.bool rv)) [] cf
def Qpy (Γ:Gam) (rv:Bool) (a:List Int) (capacity:List Int) (v:Int):Prop:=Qsj Γ rv ⟨[.c 116,.l 116,.b 0,.c 15],⟨26,[vL 1 1 capacity e_i64,vL 12 1 a e_i64,vI 13 (lenI a),vI 14 v],[]⟩⟩
def Qoc (Γ:Gam) (rv:Bool) (a:List Int) (capacity:List Int):Prop:=Qsj Γ rv ⟨[.c 15],⟨26,[],[]⟩⟩
theorem Qsk (Γ:Gam) (rv:Bool) {a capacity} {s:Int} {e:(Unit)⊕(Bool)} (h:loopF (fun s=>Qez a capacity s) s=some e) (hD:sel e (fun e=>Qoc Γ rv a capacity) (fun e=>e=rv)):Qpy Γ rv a capacity s:=by
 refine Qau (C:=fun (s:Int)=>Qpy Γ rv a capacity s) (D:=fun (e:(Unit)⊕(Bool))=>sel e (fun e=>Qoc Γ rv a capacity) (fun e=>e=rv)) ?_ h hD
 clear h hD s e
 intro v z_ h hI hE
 replace h:Qez a capacity v=_:=h
 unfold Qez at h
 rcases Qah h with ⟨h1,h⟩|⟨h1,h⟩
 ·obtain ⟨x0,h2,h⟩:=Qaf h
  obtain ⟨x1,h3,h⟩:=Qaf h
  rcases Qah h with ⟨h4,h⟩|⟨h4,h⟩
  ·obtain rfl:=(hE _ (oJ h):_=rv)
   exact gr 14 [] [bT h1,cE e_i64 h2,cE e_i64 h3,bT h4]
  ·exact gn 16 [1,12,13,14] [] [bT h1,cE e_i64 h2,cE e_i64 h3,bF h4] (hI _ (oJ h))
 ·exact gn 5 [] [] [bF h1] (hE _ (oJ h))
theorem Qgc {a capacity} {rv:Bool} (h:QhE a capacity=some rv):AFn Tryz.prog 29 [.one (lL 1 a e_i64),.one (lL 1 capacity e_i64)] [] (one (.bool rv)) []:=by
 refine QaK Tryz.func29 (by kernel_rfl) (by kernel_rfl) (fun Γ=>?_)
 unfold QhE at h
 rcases Qah h with ⟨h0,h⟩|⟨h0,h⟩
 ·obtain rfl:=Option.some.inj h
  exact gr 8 [] [nL e_i64 a,nL e_i64 capacity,bT h0]
 ·obtain ⟨e0,h5,h⟩:=Qaf h
  refine gn 12 [1,12,13,14] [] [nL e_i64 a,nL e_i64 capacity,bF h0,nL e_i64 a] (Qsk Γ rv h5 ?_)
  rcases e0 with e0|e0
  ·replace h:(some true:Option Bool)=some _:=h
   obtain rfl:=Option.some.inj h
   exact gr 2 [] []
  ·obtain ⟨r,rfl⟩:∃ x,x=e0:=⟨_,rfl⟩
   replace h:(some r:Option Bool)=some _:=h
   exact Option.some.inj h
theorem Qrq {t l} {rv:List Qae} (h:QkK t l=some rv):AFn Tryz.prog 30 [.agg (Qai.enc t),.agg (Qae.enc l)] [] (one (lL 9 rv Qae.enc)) []:=by
 refine QaK Tryz.func30 (by kernel_rfl) (by kernel_rfl) (fun Γ=>?_)
 unfold QkK at h
 obtain rfl:=Option.some.inj h
 exact gr 10 [] [hW 29,hH (.frz 3),rp 2 (oO (Eq.refl ([l,(Qae.mk l.type_ l.visits l.place (addK .i64 l.time t.rest_) 0 l.miles l.load l.done l.open_)].map Qae.enc).length))]
def Qro (Γ:Gam) (rv:List Qae) (cf:Cf):Prop:=Go Tryz.prog Tryz.f9 [] Γ (one (lL 9 rv Qae.enc)) [] cf
def Qn3 (Γ:Gam) (rv:List Qae) (x0:Qac) (kind:Int) (x1:Qai) (l:List Int) (r2:List Int) (open_:Int) (time:Int) (load:List Int) (open_1:Int) (v:Int):Prop:=Qro Γ rv ⟨[.c 500,.l 500,.b 0,.c 63],⟨95,[vP 3 0 6,vP 7 1 14,vP 8 2 9,vL 49 1 r2 e_i64,vI 50 (lenI r2),vI 51 v],[oX 6 30 (Qac.enc x0),oX 14 79 [.str x1.name,lI x1.count,lI x1.from_,lI x1.to_,lL 1 x1.cap e_i64,lI x1.skills,lI x1.profile,lI open_,lI x1.close,lI x1.drive,lI x1.rest_,lI x1.fixed,lI x1.perMile,lI x1.perTick],oX 9 47 [lI kind,.nils,lI x1.from_,lI time,lI 0,lI 0,lL 1 load e_i64,lI 0,lI open_1]]⟩⟩
def Qnl (Γ:Gam) (rv:List Qae) (x0:Qac) (kind:Int) (x1:Qai) (l:List Int) (r2:List Int) (open_2:Int) (time1:Int) (load1:List Int) (open_3:Int):Prop:=Qro Γ rv ⟨[.c 63],⟨95,[vP 7 0 14,vP 8 1 9],[oX 14 79 [.str x1.name,lI x1.count,lI x1.from_,lI x1.to_,lL 1 x1.cap e_i64,lI x1.skills,lI x1.profile,lI open_2,lI x1.close,lI x1.drive,lI x1.rest_,lI x1.fixed,lI x1.perMile,lI x1.perTick],oX 9 47 [lI kind,.nils,lI x1.from_,lI time1,lI 0,lI 0,lL 1 load1 e_i64,lI 0,lI open_3]]⟩⟩
theorem Qrv (Γ:Gam) (rv:List Qae) {x0 kind x1 l r2} {s:Int×Int×List Int×Int×Int} {e:(Int×Int×List Int×Int)⊕(List Qae)} (h:loopF (fun s=>Qfo x0 kind x1 l r2 s.1 s.2.1 s.2.2.1 s.2.2.2.1 s.2.2.2.2) s=some e) (hD:sel e (fun e=>Qnl Γ rv x0 kind x1 l r2 e.1 e.2.1 e.2.2.1 e.2.2.2) (fun e=>e=rv)):Qn3 Γ rv x0 kind x1 l r2 s.1 s.2.1 s.2.2.1 s.2.2.2.1 s.2.2.2.2:=by
 refine Qau (C:=fun (s:Int×Int×List Int×Int×Int)=>Qn3 Γ rv x0 kind x1 l r2 s.1 s.2.1 s.2.2.1 s.2.2.2.1 s.2.2.2.2) (D:=fun (e:(Int×Int×List Int×Int)⊕(List Qae))=>sel e (fun e=>Qnl Γ rv x0 kind x1 l r2 e.1 e.2.1 e.2.2.1 e.2.2.2) (fun e=>e=rv)) ?_ h hD
 clear h hD s e
 rintro ⟨open_,time,load,open_1,v⟩ z_ h hI hE
 replace h:Qfo x0 kind x1 l r2 open_ time load open_1 v=_:=h
 unfold Qfo at h
 rcases Qah h with ⟨h8,h⟩|⟨h8,h⟩
 ·obtain ⟨x2,h9,h⟩:=Qaf h
  obtain ⟨x3,h10,h⟩:=Qaf h
  obtain ⟨r3,h11,h⟩:=Qaf h
  rcases Qah h with ⟨h12,h⟩|⟨h12,h⟩
  ·rcases Qah h with ⟨h13,h⟩|⟨h13,h⟩
   ·obtain ⟨r4,h14,h⟩:=Qaf h
    obtain ⟨h15,h⟩:=Qar h
    exact gn 25 [3,7,8,49,50,51] [0,1,2] [bT h8,cE e_i64 h9,cE Qag.enc h10,cC (Qfg h11),nF h12,bT h13,cC (Qsi h14),oO (h15)] (hI _ (oJ h))
   ·exact gn 23 [3,7,8,49,50,51] [0,1,2] [bT h8,cE e_i64 h9,cE Qag.enc h10,cC (Qfg h11),nF h12,bF h13] (hI _ (oJ h))
  ·obtain rfl:=(hE _ (oJ h):_=rv)
   exact gr 17 [] [bT h8,cE e_i64 h9,cE Qag.enc h10,cC (Qfg h11),nT h12,hW 3,hH (.nilS 6 0 9)]
 ·exact gn 5 [7,8] [1,2] [bF h8] (hE _ (oJ h))
theorem QdU {x0 kind set_} {rv:List Qae} (h:QkB x0 kind set_=some rv):AFn Tryz.prog 9 [.agg (Qac.enc x0),.one (lI kind),.one (lI set_)] [] (one (lL 9 rv Qae.enc)) []:=by
 refine QaK Tryz.func9 (by kernel_rfl) (by kernel_rfl) (fun Γ=>?_)
 unfold QkB at h
 rcases Qah h with ⟨h0,h⟩|⟨h0,h⟩
 ·obtain rfl:=Option.some.inj h
  exact gr 8 [] [rp 4 hP,rp 2 (oI ((ltI kind 0)=false)),nL Qai.enc x0.types,hP,hP,rp 2 (oI ((ltI kind 0)=false)),oR True ((ltI kind 0)=false),rp 5 (bT h0),rp 6 tT,hW 3,hH (.nilS 6 0 9)]
 ·obtain ⟨r,h1,h⟩:=Qaf h
  rcases Qah h with ⟨h2,h⟩|⟨h2,h⟩
  ·obtain ⟨r1,h3,h⟩:=Qaf h
   rcases Qah h with ⟨h4,h⟩|⟨h4,h⟩
   ·obtain ⟨x1,h5,h⟩:=Qaf h
    obtain ⟨l,h6,h⟩:=Qaf h
    obtain ⟨r2,h7,h⟩:=Qaf h
    obtain ⟨e0,h16,h⟩:=Qaf h
    refine gn 16 [3,7,8,49,50,51] [0,1,3] [rp 4 hP,rp 2 (oI ((ltI kind 0)=false)),nL Qai.enc x0.types,hP,hP,rp 2 (oI ((ltI kind 0)=false)),oR True ((ltI kind 0)=false),rp 3 (bF h0),cC (Qm6 h1),bF h0,bF h0,rp 3 (nF h2),cC (Qpx h3),nF h2,nF h2,nF h4,cE Qai.enc h5,hH (.draw 11 []),nL e_i64 x1.cap,hH (.cells [lI 0]),hH (.rows (l.map e_i64)),oO (mk1 h6),oO (mk2 h6),oO (mk3 h6),oO (mk4 h6),oO (mk5 e_i64 h6),cC (Qmi h7),nL e_i64 r2,hW 3,hH (.frz 2),rp 3 (eL l e_i64)] (Qrv Γ rv h16 ?_)
    rcases e0 with e0|e0
    ·obtain ⟨open_2,time1,load1,open_3⟩:=e0
     replace h:(bnd (QhE load1 x1.cap) fun r5=>br r5 (bnd (QkK (Qai.mk x1.name x1.count x1.from_ x1.to_ x1.cap x1.skills x1.profile open_2 x1.close x1.drive x1.rest_ x1.fixed x1.perMile x1.perTick) (Qae.mk kind [] x1.from_ time1 0 0 load1 0 open_3)) fun r6=>some r6) (some []):Option (List Qae))=some _:=h
     obtain ⟨r5,h17,h⟩:=Qaf h
     rcases Qah h with ⟨h18,h⟩|⟨h18,h⟩
     ·obtain ⟨r6,h19,h⟩:=Qaf h
      obtain rfl:=Option.some.inj h
      exact gr 7 [] [cC (Qgc h17),nF h18,hW 5,hH (.nilS 93 1 2),cC (Qrq h19)]
     ·obtain rfl:=Option.some.inj h
      exact gr 6 [] [cC (Qgc h17),nT h18,hW 3,hH (.nilS 6 0 9)]
    ·obtain ⟨r7,rfl⟩:∃ x,x=e0:=⟨_,rfl⟩
     replace h:(some r7:Option (List Qae))=some _:=h
     exact Option.some.inj h
   ·obtain rfl:=Option.some.inj h
    exact gr 8 [] [rp 4 hP,rp 2 (oI ((ltI kind 0)=false)),nL Qai.enc x0.types,hP,hP,rp 2 (oI ((ltI kind 0)=false)),oR True ((ltI kind 0)=false),rp 3 (bF h0),cC (Qm6 h1),bF h0,bF h0,rp 3 (nF h2),cC (Qpx h3),nF h2,nF h2,nT h4,hW 3,hH (.nilS 6 0 9)]
  ·obtain rfl:=Option.some.inj h
   exact gr 8 [] [rp 4 hP,rp 2 (oI ((ltI kind 0)=false)),nL Qai.enc x0.types,hP,hP,rp 2 (oI ((ltI kind 0)=false)),oR True ((ltI kind 0)=false),rp 3 (bF h0),cC (Qm6 h1),bF h0,bF h0,rp 5 (nT h2),tT,hW 3,hH (.nilS 6 0 9)]
theorem Qc3 {n i} {rv:Bool} (h:QhA n i=some rv):AFn Tryz.prog 78 [.agg (Qal.enc n),.one (lI i)] [] (one (.bool rv)) []:=by
 refine QaK Tryz.func78 (by kernel_rfl) (by kernel_rfl) (fun Γ=>?_)
 unfold QhA at h
 obtain rfl:=Option.some.inj h
 exact gr 4 [] [rp 4 hP,rp 2 (oI ((geI i 0)=true)),nL e_str n.places,hP,hP,rp 2 (oI ((geI i 0)=true)),oR True ((geI i 0)=true)]
theorem QoA {a} {rv:Qhi} (h:QlV a=some rv):AFn Tryz.prog 114 [.agg (Qao.enc a)] [] (gG [lI rv.from_,lI rv.to_,lI rv.profile]) []:=by
 refine QaK Tryz.func114 (by kernel_rfl) (by kernel_rfl) (fun Γ=>?_)
 unfold QlV at h
 obtain rfl:=Option.some.inj h
 exact gr 4 [] []
def Qqt (Γ:Gam) (rv:Qao×Bool) (cf:Cf):Prop:=Go Tryz.prog Tryz.f79 [] Γ (.tup [.agg [lI rv.1.from_,lI rv.1.to_,lI rv.1.profile,lI rv.1.miles,lL 2 rv.1.travel Qak.enc,lL 2 rv.1.slow Qak.enc],.one (.bool rv.2)]) [] cf
def QnE (Γ:Gam) (rv:Qao×Bool) (n:Qal) (profile:Int) (from_:Int) (to_:Int) (v:Int):Prop:=Qqt Γ rv ⟨[.c 116,.l 116,.b 0,.c 15],⟨31,[vP 8 0 6,vP 10 1 3,vL 18 6 n.arcs Qao.enc,vI 19 (lenI n.arcs),vI 20 v],[oX 6 77 [lI 0,lI 0,lI 0,lI 0,.nils,.nils],oX 3 173 [lI from_,lI to_,lI profile]]⟩⟩
def QmJ (Γ:Gam) (rv:Qao×Bool) (n:Qal) (profile:Int) (from_:Int) (to_:Int):Prop:=Qqt Γ rv ⟨[.c 15],⟨31,[vP 8 0 6],[oX 6 77 [lI 0,lI 0,lI 0,lI 0,.nils,.nils]]⟩⟩
theorem Qq1 (Γ:Gam) (rv:Qao×Bool) {n profile from_ to_} {s:Int} {e:(Unit)⊕(Qao×Bool)} (h:loopF (fun s=>QfU n profile from_ to_ s) s=some e) (hD:sel e (fun e=>QmJ Γ rv n profile from_ to_) (fun e=>e=rv)):QnE Γ rv n profile from_ to_ s:=by
 refine Qau (C:=fun (s:Int)=>QnE Γ rv n profile from_ to_ s) (D:=fun (e:(Unit)⊕(Qao×Bool))=>sel e (fun e=>QmJ Γ rv n profile from_ to_) (fun e=>e=rv)) ?_ h hD
 clear h hD s e
 intro v z_ h hI hE
 replace h:QfU n profile from_ to_ v=_:=h
 unfold QfU at h
 rcases Qah h with ⟨h0,h⟩|⟨h0,h⟩
 ·obtain ⟨x0,h1,h⟩:=Qaf h
  obtain ⟨r,h2,h⟩:=Qaf h
  rcases Qah h with ⟨h3,h⟩|⟨h3,h⟩
  ·obtain rfl:=(hE _ (oJ h):_=rv)
   exact gr 14 [] [bT h0,cE Qao.enc h1,hH (.draw 4 []),cC (QoA h2),bT h3]
  ·exact gn 16 [8,10,18,19,20] [0,1] [bT h0,cE Qao.enc h1,hH (.draw 4 []),cC (QoA h2),bF h3] (hI _ (oJ h))
 ·exact gn 5 [8] [0] [bF h0] (hE _ (oJ h))
theorem QpA {n profile from_ to_} {rv:Qao×Bool} (h:Qlj n profile from_ to_=some rv):AFn Tryz.prog 79 [.agg (Qal.enc n),.one (lI profile),.one (lI from_),.one (lI to_)] [] (.tup [.agg [lI rv.1.from_,lI rv.1.to_,lI rv.1.profile,lI rv.1.miles,lL 2 rv.1.travel Qak.enc,lL 2 rv.1.slow Qak.enc],.one (.bool rv.2)]) []:=by
 refine QaK Tryz.func79 (by kernel_rfl) (by kernel_rfl) (fun Γ=>?_)
 unfold Qlj at h
 obtain ⟨e0,h4,h⟩:=Qaf h
 refine gn 9 [8,10,18,19,20] [1,2] [nL Qao.enc n.arcs] (Qq1 Γ rv h4 ?_)
 rcases e0 with e0|e0
 ·replace h:(some ((Qao.mk 0 0 0 0 [] []),false):Option (Qao×Bool))=some _:=h
  obtain rfl:=Option.some.inj h
  exact gr 2 [] [hW 5,hH (.nilB 0 4 2),hH (.nilB 0 5 2)]
 ·obtain ⟨r1,rfl⟩:∃ x,x=e0:=⟨_,rfl⟩
  replace h:(some r1:Option (Qao×Bool))=some _:=h
  exact Option.some.inj h
theorem Qgw {n least most} {rv:Bool} (h:Qfn n least most=some rv):AFn Tryz.prog 139 [.one (lI n),.one (lI least),.one (lI most)] [] (one (.bool rv)) []:=by
 refine QaK Tryz.func139 (by kernel_rfl) (by kernel_rfl) (fun Γ=>?_)
 unfold Qfn at h
 obtain rfl:=Option.some.inj h
 exact gr 4 [] [rp 4 hP,rp 2 (oI ((geI n least)=true)),oR True ((geI n least)=true)]
theorem QsI {i} {rv:ByteArray} (h:QoL i=some rv):AFn Tryz.prog 164 [.one (lI i)] [] (one (.str rv)) []:=by
 refine QaK Tryz.func164 (by kernel_rfl) (by kernel_rfl) (fun Γ=>?_)
 unfold QoL at h
 rcases Qah h with ⟨h0,h⟩|⟨h0,h⟩
 ·obtain ⟨s0,h1,h⟩:=Qaf h
  obtain rfl:=Option.some.inj h
  exact gr 8 [] [bT h0,oO (ss1 h1),oO (ss2 h1),oO (ss3 h1)]
 ·obtain ⟨s1,h2,h⟩:=Qaf h
  obtain rfl:=Option.some.inj h
  exact gr 9 [] [bF h0,oO (ss1 h2),oO (ss2 h2),oO (ss3 h2)]
def QqN (Γ:Gam) (rv:ByteArray) (cf:Cf):Prop:=Go Tryz.prog Tryz.f163 [] Γ (one (.str rv)) [] cf
theorem Qis (Γ:Gam) (rv:ByteArray) {i u} (h:QfD i u=some rv):QqN Γ rv ⟨[.c 431,.c 7],⟨54,[vI 0 i,vP 5 0 24,(6,one (.int .u64 u))],[oX 24 218 [.int .u8 0,.int .u8 0,.int .u8 0,.int .u8 0,.int .u8 0,.int .u8 0,.int .u8 0,.int .u8 0,.int .u8 0,.int .u8 0,.int .u8 0,.int .u8 0,.int .u8 0,.int .u8 0,.int .u8 0,.int .u8 0,.int .u8 0,.int .u8 0,.int .u8 0,.int .u8 0,.int .u8 0,.int .u8 0,.int .u8 0,.int .u8 0]]⟩⟩:=by
 unfold QfD at h
 obtain ⟨r1,h4,h⟩:=Qaf h
 cases h
theorem Qp6 {i base} {rv:ByteArray} (h:QjK i base=some rv):AFn Tryz.prog 163 [.one (lI i),.one (lI base)] [] (one (.str rv)) []:=by
 refine QaK Tryz.func163 (by kernel_rfl) (by kernel_rfl) (fun Γ=>?_)
 unfold QjK at h
 rcases Qah h with ⟨h0,h⟩|⟨h0,h⟩
 ·rcases Qah h with ⟨h1,h⟩|⟨h1,h⟩
  ·obtain ⟨r,h2,h⟩:=Qaf h
   obtain rfl:=Option.some.inj h
   exact gr 12 [] [bT h0,hP,hP,hP,oI ((leI 0 i)=true),oR True ((leI 0 i)=true),bT h1,cC (QsI h2)]
  ·rcases Qah h with ⟨h3,h⟩|⟨h3,h⟩
   ·exact gn 20 [0,5,6] [0] [bT h0,hP,hP,hP,oI ((leI 0 i)=true),oR True ((leI 0 i)=true),bF h1,bT h3] (Qis Γ rv h)
   ·exact gn 20 [0,5,6] [0] [bT h0,hP,hP,hP,oI ((leI 0 i)=true),oR True ((leI 0 i)=true),bF h1,bF h3] (Qis Γ rv h)
 ·cases h
theorem QsY {i} {rv:ByteArray} (h:Qp7 i=some rv):AFn Tryz.prog 161 [.one (lI i)] [] (one (.str rv)) []:=by
 refine QaK Tryz.func161 (by kernel_rfl) (by kernel_rfl) (fun Γ=>?_)
 unfold Qp7 at h
 obtain ⟨r,h0,h⟩:=Qaf h
 obtain rfl:=Option.some.inj h
 exact gr 4 [] [cC (Qp6 h0)]
theorem QnO {i} {rv:ByteArray} (h:Qkv i=some rv):AFn Tryz.prog 159 [.one (lI i)] [] (one (.str rv)) []:=by
 refine QaK Tryz.func159 (by kernel_rfl) (by kernel_rfl) (fun Γ=>?_)
 unfold Qkv at h
 obtain ⟨r,h0,h⟩:=Qaf h
 obtain rfl:=Option.some.inj h
 exact gr 4 [] [cC (QsY h0)]
def Qkw (Γ:Gam) (rv:List Qab) (cf:Cf):Prop:=Go Tryz.prog Tryz.f151 [] Γ (one (lL 2 rv Qab.enc)) [] cf
def QjL (Γ:Gam) (rv:List Qab) (l:List Qak) (l2:List Qab) (v:Int):Prop:=Qkw Γ rv ⟨[.c 244,.l 244,.b 0,.c 31],⟨83,[vL 0 2 l Qak.enc,vO 3 0 2 l2 Qab.enc,vL 19 2 l Qak.enc,vI 20 (lenI l),vI 21 v],[oS 2 164 l2 Qab.enc]⟩⟩
def QiG (Γ:Gam) (rv:List Qab) (l:List Qak) (l4:List Qab):Prop:=Qkw Γ rv ⟨[.c 31],⟨83,[vO 3 0 2 l4 Qab.enc],[oS 2 164 l4 Qab.enc]⟩⟩
theorem Qm1 (Γ:Gam) (rv:List Qab) {l v x0 r l3} {x:(List Qab×Int)⊕(List Qab)} (h:Qg8 l v x0 r l3=some x) (hI:∀ s:List Qab×Int,x=.inl s→QjL Γ rv l s.1 s.2) (hE:∀ e:List Qab,x=.inr e→QiG Γ rv l e):Qkw Γ rv ⟨[.c 31335,.b 1,.c 1959,.l 244,.b 0,.c 31],⟨83,[vL 0 2 l Qak.enc,vO 3 0 2 l3 Qab.enc,vI 4 v,vP 5 1 2,vS 6 r,vL 19 2 l Qak.enc,vI 20 (lenI l),vI 21 v],[oS 2 164 l3 Qab.enc,oX 2 74 (Qak.enc x0)]⟩⟩:=by
 unfold Qg8 at h
 rcases Qah h with ⟨h8,h⟩|⟨h8,h⟩
 ·obtain ⟨x1,h9,h⟩:=Qaf h
  rcases Qah h with ⟨h10,h⟩|⟨h10,h⟩
  ·obtain ⟨h11,h⟩:=Qar h
   exact gn 7 [0,3,19,20,21] [3] [hH (.draw 24 []),rp 6 (bT h8),cE Qak.enc h9,rp 4 (bT h8),rp 9 (bT h10),bT h8,bT h10,bT h8,tT,oO (Eq.refl ([(Qab.mk 13 r)].map Qab.enc).length),aO Qab.enc h11] (hI _ (oJ h))
  ·rcases Qah h with ⟨h12,h⟩|⟨h12,h⟩
   ·obtain ⟨h13,h⟩:=Qar h
    exact gn 7 [0,3,19,20,21] [3] [hH (.draw 24 []),rp 6 (bT h8),cE Qak.enc h9,rp 4 (bT h8),rp 6 (bF h10),cE Qak.enc h9,rp 3 (bF h10),bT h8,bF h10,bT h8,bT h12,oO (Eq.refl ([(Qab.mk 13 r)].map Qab.enc).length),aO Qab.enc h13] (hI _ (oJ h))
   ·exact gn 7 [0,3,19,20,21] [0] [hH (.draw 24 []),rp 6 (bT h8),cE Qak.enc h9,rp 4 (bT h8),rp 6 (bF h10),cE Qak.enc h9,rp 3 (bF h10),bT h8,bF h10,bT h8,bF h12] (hI _ (oJ h))
 ·exact gn 7 [0,3,19,20,21] [0] [hH (.draw 24 []),rp 10 (bF h8),rp 9 kF,bF h8,bF h8,fF] (hI _ (oJ h))
theorem Qrf (Γ:Gam) (rv:List Qab) {l} {s:List Qab×Int} {e:List Qab} (h:loopF (fun s=>Qdu l s.1 s.2) s=some e) (hD:QiG Γ rv l e):QjL Γ rv l s.1 s.2:=by
 refine Qau (C:=fun (s:List Qab×Int)=>QjL Γ rv l s.1 s.2) (D:=fun (e:List Qab)=>QiG Γ rv l e) ?_ h hD
 clear h hD s e
 rintro ⟨l2,v⟩ z_ h hI hE
 replace h:Qdu l l2 v=_:=h
 unfold Qdu at h
 rcases Qah h with ⟨h2,h⟩|⟨h2,h⟩
 ·obtain ⟨x0,h3,h⟩:=Qaf h
  obtain ⟨r,h4,h⟩:=Qaf h
  obtain ⟨r1,h5,h⟩:=Qaf h
  rcases Qah h with ⟨h6,h⟩|⟨h6,h⟩
  ·obtain ⟨h7,h⟩:=Qar h
   exact gn 16 [0,3,4,5,6,19,20,21] [3,1] [bT h2,cE Qak.enc h3,cC (QnO h4),cC (Qgw h5),rp 13 hP,rp 4 (oI ((!r1)=false)),oR True ((!r1)=false),rp 5 (oI (((!r1)||(ltI x0.a x0.t))=false)),oR True (((!r1)||(ltI x0.a x0.t))=false),bT h6,oO (Eq.refl ([(Qab.mk 2 r)].map Qab.enc).length),aO Qab.enc h7] (Qm1 Γ rv h hI hE)
  ·exact gn 16 [0,3,4,5,6,19,20,21] [0,1] [bT h2,cE Qak.enc h3,cC (QnO h4),cC (Qgw h5),rp 13 hP,rp 4 (oI ((!r1)=false)),oR True ((!r1)=false),rp 5 (oI (((!r1)||(ltI x0.a x0.t))=false)),oR True (((!r1)||(ltI x0.a x0.t))=false),bF h6] (Qm1 Γ rv h hI hE)
 ·exact gn 5 [3] [0] [bF h2] (hE _ (oJ h))
theorem Qm0 (Γ:Gam) (rv:List Qab) {l l1} (h:Qg7 l l1=some rv):Qkw Γ rv ⟨[.c 15],⟨83,[vL 0 2 l Qak.enc,vO 3 0 2 l1 Qab.enc],[oS 2 164 l1 Qab.enc]⟩⟩:=by
 unfold Qg7 at h
 obtain ⟨e0,h14,h⟩:=Qaf h
 refine gn 5 [0,3,19,20,21] [0] [nL Qak.enc l] (Qrf Γ rv h14 ?_)
 obtain ⟨l4,rfl⟩:∃ x,x=e0:=⟨_,rfl⟩
 replace h:(some l4:Option (List Qab))=some _:=h
 obtain rfl:=Option.some.inj h
 exact gr 2 [] [hW 4,hH (.frz 0),rp 3 (eL l4 Qab.enc)]
theorem QsZ {l} {rv:List Qab} (h:Qlu l=some rv):AFn Tryz.prog 151 [.one (lL 2 l Qak.enc)] [] (one (lL 2 rv Qab.enc)) []:=by
 refine QaK Tryz.func151 (by kernel_rfl) (by kernel_rfl) (fun Γ=>?_)
 unfold Qlu at h
 rcases Qah h with ⟨h0,h⟩|⟨h0,h⟩
 ·obtain ⟨h1,h⟩:=Qar h
  exact gn 9 [0,3] [1] [nL Qak.enc l,hP,hP,oI ((eqI (lenI l) 0)=false),nL Qak.enc l,hP,hP,oI ((eqI (lenI l) 0)=false),oR True ((eqI (lenI l) 0)=false),bT h0,oO (Eq.refl ([(Qab.mk 4 ByteArray.empty)].map Qab.enc).length),aN (l:=([(Qab.mk 4 ByteArray.empty)]:List Qab)) Qab.enc h1] (Qm0 Γ rv h)
 ·exact gn 9 [0,3] [0] [nL Qak.enc l,hP,hP,oI ((eqI (lenI l) 0)=false),nL Qak.enc l,hP,hP,oI ((eqI (lenI l) 0)=false),oR True ((eqI (lenI l) 0)=false),bF h0,hW 1,hH (.adopt 3 2 164)] (Qm0 Γ rv h)
theorem QpE {l} {rv:Bool} (h:Qlv l=some rv):AFn Tryz.prog 140 [.one (lL 2 l Qak.enc)] [] (one (.bool rv)) []:=by
 refine QaK Tryz.func140 (by kernel_rfl) (by kernel_rfl) (fun Γ=>?_)
 unfold Qlv at h
 obtain ⟨r,h0,h⟩:=Qaf h
 obtain rfl:=Option.some.inj h
 exact gr 4 [] [cC (QsZ h0),nL Qab.enc r]
theorem QiH {p t} {rv:Int} (h:QeU p t=some rv):AFn Tryz.prog 153 [.agg (Qak.enc p),.one (lI t)] [] (one (lI rv)) []:=by
 refine QaK Tryz.func153 (by kernel_rfl) (by kernel_rfl) (fun Γ=>?_)
 unfold QeU at h
 obtain rfl:=Option.some.inj h
 exact gr 4 [] []
def Qbt (Γ:Gam) (rv:Int×Bool) (cf:Cf):Prop:=Go Tryz.prog Tryz.f152 [] Γ (.tup [.one (lI rv.1),.one (.bool rv.2)]) [] cf
def Qbq (Γ:Gam) (rv:Int×Bool) (x0:List Qak) (target:Int) (i:Int) (j:Int):Prop:=Qbt Γ rv ⟨[.c 120,.l 120,.b 0,.c 31],⟨49,[vL 0 2 x0 Qak.enc,vI 1 target,(2,one (.fn (.func 153) [])),vI 8 (lenI x0),vI 9 i,vI 10 j],[]⟩⟩
def Qbi (Γ:Gam) (rv:Int×Bool) (x0:List Qak) (target:Int) (i1:Int):Prop:=Qbt Γ rv ⟨[.c 31],⟨49,[vL 0 2 x0 Qak.enc,vI 1 target,(2,one (.fn (.func 153) [])),vI 8 (lenI x0),vI 9 i1],[]⟩⟩
theorem QcS (Γ:Gam) (rv:Int×Bool) {x0 target} {s:Int×Int} {e:Int} (h:loopF (fun s=>Qax x0 target s.1 s.2) s=some e) (hD:Qbi Γ rv x0 target e):Qbq Γ rv x0 target s.1 s.2:=by
 refine Qau (C:=fun (s:Int×Int)=>Qbq Γ rv x0 target s.1 s.2) (D:=fun (e:Int)=>Qbi Γ rv x0 target e) ?_ h hD
 clear h hD s e
 rintro ⟨i,j⟩ z_ h hI hE
 replace h:Qax x0 target i j=_:=h
 unfold Qax at h
 rcases Qah h with ⟨h0,h⟩|⟨h0,h⟩
 ·obtain ⟨x1,h1,h⟩:=Qaf h
  obtain ⟨r,h2,h⟩:=Qaf h
  rcases Qah h with ⟨h3,h⟩|⟨h3,h⟩
  ·exact gn 14 [0,1,2,8,9,10] [] [bT h0,oO (zL 1),cE Qak.enc h1,cC (QiH h2),bT h3] (hI _ (oJ h))
  ·exact gn 14 [0,1,2,8,9,10] [] [bT h0,oO (zL 1),cE Qak.enc h1,cC (QiH h2),bF h3] (hI _ (oJ h))
 ·exact gn 5 [0,1,2,8,9] [] [bF h0] (hE _ (oJ h))
theorem QaG {x0 target} {rv:Int×Bool} (h:QaJ x0 target=some rv):AFn Tryz.prog 152 [.one (lL 2 x0 Qak.enc),.one (lI target),.one (.fn (.func 153) [])] [] (.tup [.one (lI rv.1),.one (.bool rv.2)]) []:=by
 refine QaK Tryz.func152 (by kernel_rfl) (by kernel_rfl) (fun Γ=>?_)
 unfold QaJ at h
 obtain ⟨e0,h4,h⟩:=Qaf h
 refine gn 9 [0,1,2,8,9,10] [] [nL Qak.enc x0] (QcS Γ rv h4 ?_)
 obtain ⟨i1,rfl⟩:∃ x,x=e0:=⟨_,rfl⟩
 replace h:(br (ltI i1 (lenI x0)) (bnd (getI x0 i1) fun x2=>bnd (QeU x2 target) fun r1=>some (i1,(eqI r1 0))) (some (i1,false)):Option (Int×Bool))=some _:=h
 rcases Qah h with ⟨h5,h⟩|⟨h5,h⟩
 ·obtain ⟨x2,h6,h⟩:=Qaf h
  obtain ⟨r1,h7,h⟩:=Qaf h
  obtain rfl:=Option.some.inj h
  exact gr 2 [] [rp 4 (bT h5),cE Qak.enc h6,rp 3 (bT h5),cC (QiH h7),bT h5,bT h5]
 ·obtain rfl:=Option.some.inj h
  exact gr 2 [] [rp 9 (bF h5)]
theorem QsN {l t} {rv:Int} (h:QjA l t=some rv):AFn Tryz.prog 141 [.one (lL 2 l Qak.enc),.one (lI t)] [] (one (lI rv)) []:=by
 refine QaK Tryz.func141 (by kernel_rfl) (by kernel_rfl) (fun Γ=>?_)
 unfold QjA at h
 obtain ⟨r,h0,h⟩:=Qaf h
 rcases Qah h with ⟨h1,h⟩|⟨h1,h⟩
 ·obtain ⟨x0,h2,h⟩:=Qaf h
  obtain rfl:=Option.some.inj h
  exact gr 11 [] [cC (QaG h0),bT h1,cE Qak.enc h2]
 ·rcases Qah h with ⟨h3,h⟩|⟨h3,h⟩
  ·obtain ⟨x1,h4,h⟩:=Qaf h
   obtain rfl:=Option.some.inj h
   exact gr 14 [] [cC (QaG h0),bF h1,bT h3,hH (.draw 12 []),rp 2 (cE Qak.enc h4)]
  ·rcases Qah h with ⟨h5,h⟩|⟨h5,h⟩
   ·obtain ⟨x2,h6,h⟩:=Qaf h
    obtain rfl:=Option.some.inj h
    exact gr 17 [] [cC (QaG h0),bF h1,bF h3,nL Qak.enc l,bT h5,hH (.draw 16 []),rp 2 (cE Qak.enc h6)]
   ·obtain ⟨x3,h7,h⟩:=Qaf h
    obtain ⟨x4,h8,h⟩:=Qaf h
    obtain ⟨h9,h⟩:=Qar h
    obtain rfl:=Option.some.inj h
    exact gr 23 [] [cC (QaG h0),bF h1,bF h3,nL Qak.enc l,bF h5,hH (.draw 13 [(0,11),(1,12)]),cE Qak.enc h7,cE Qak.enc h8,hH (.draw 19 []),oO (h9)]
theorem QsM {l t} {rv:Int} (h:Qjz l t=some rv):AFn Tryz.prog 115 [.one (lL 2 l Qak.enc),.one (lI t)] [] (one (lI rv)) []:=by
 refine QaK Tryz.func115 (by kernel_rfl) (by kernel_rfl) (fun Γ=>?_)
 unfold Qjz at h
 obtain ⟨r,h0,h⟩:=Qaf h
 rcases Qah h with ⟨h1,h⟩|⟨h1,h⟩
 ·obtain ⟨r1,h2,h⟩:=Qaf h
  rcases Qah h with ⟨h3,h⟩|⟨h3,h⟩
  ·obtain ⟨r2,h4,h⟩:=Qaf h
   obtain rfl:=Option.some.inj h
   exact gr 9 [] [cC (Qgw h0),nF h1,nF h1,cC (QpE h2),nF h1,nF h1,nF h3,cC (QsN h4)]
  ·obtain rfl:=Option.some.inj h
   exact gr 8 [] [cC (Qgw h0),nF h1,nF h1,cC (QpE h2),nF h1,nF h1,nT h3]
 ·obtain rfl:=Option.some.inj h
  exact gr 8 [] [cC (Qgw h0),rp 4 (nT h1),tT]
def QnF (Γ:Gam) (rv:Int) (cf:Cf):Prop:=Go Tryz.prog Tryz.f80 [] Γ (one (lI rv)) [] cf
def Qlk (Γ:Gam) (rv:Int) (a:Qao) (t:Int) (out:Int) (v:Int):Prop:=QnF Γ rv ⟨[.c 116,.l 116,.b 0,.c 15],⟨29,[vI 1 t,vI 5 out,vL 13 2 a.slow Qak.enc,vI 14 (lenI a.slow),vI 15 v],[]⟩⟩
def Qkp (Γ:Gam) (rv:Int) (a:Qao) (t:Int) (out1:Int):Prop:=QnF Γ rv ⟨[.c 15],⟨29,[vI 5 out1],[]⟩⟩
theorem Qpn (Γ:Gam) (rv:Int) {a t} {s:Int×Int} {e:Int} (h:loopF (fun s=>QgG a t s.1 s.2) s=some e) (hD:Qkp Γ rv a t e):Qlk Γ rv a t s.1 s.2:=by
 refine Qau (C:=fun (s:Int×Int)=>Qlk Γ rv a t s.1 s.2) (D:=fun (e:Int)=>Qkp Γ rv a t e) ?_ h hD
 clear h hD s e
 rintro ⟨out,v⟩ z_ h hI hE
 replace h:QgG a t out v=_:=h
 unfold QgG at h
 rcases Qah h with ⟨h1,h⟩|⟨h1,h⟩
 ·obtain ⟨x0,h2,h⟩:=Qaf h
  rcases Qah h with ⟨h3,h⟩|⟨h3,h⟩
  ·exact gn 16 [1,5,13,14,15] [] [bT h1,cE Qak.enc h2,bT h3] (hI _ (oJ h))
  ·exact gn 16 [1,5,13,14,15] [] [bT h1,cE Qak.enc h2,bF h3] (hI _ (oJ h))
 ·exact gn 5 [5] [] [bF h1] (hE _ (oJ h))
theorem Qq2 {a t} {rv:Int} (h:Qg5 a t=some rv):AFn Tryz.prog 80 [.agg (Qao.enc a),.one (lI t)] [] (one (lI rv)) []:=by
 refine QaK Tryz.func80 (by kernel_rfl) (by kernel_rfl) (fun Γ=>?_)
 unfold Qg5 at h
 obtain ⟨r,h0,h⟩:=Qaf h
 obtain ⟨e0,h4,h⟩:=Qaf h
 refine gn 9 [1,5,13,14,15] [] [cC (QsM h0),nL Qak.enc a.slow] (Qpn Γ rv h4 ?_)
 obtain ⟨out1,rfl⟩:∃ x,x=e0:=⟨_,rfl⟩
 replace h:(some out1:Option Int)=some _:=h
 obtain rfl:=Option.some.inj h
 exact gr 2 [] []
theorem QeL {n profile from_ to_ t} {rv:Int×Int×Int} (h:QmK n profile from_ to_ t=some rv):AFn Tryz.prog 39 [.agg (Qal.enc n),.one (lI profile),.one (lI from_),.one (lI to_),.one (lI t)] [] (.tup [.one (lI rv.1),.one (lI rv.2.1),.one (lI rv.2.2)]) []:=by
 refine QaK Tryz.func39 (by kernel_rfl) (by kernel_rfl) (fun Γ=>?_)
 unfold QmK at h
 obtain ⟨r,h0,h⟩:=Qaf h
 rcases Qah h with ⟨h1,h⟩|⟨h1,h⟩
 ·obtain ⟨r1,h2,h⟩:=Qaf h
  rcases Qah h with ⟨h3,h⟩|⟨h3,h⟩
  ·rcases Qah h with ⟨h4,h⟩|⟨h4,h⟩
   ·obtain rfl:=Option.some.inj h
    exact gr 13 [] [cC (Qc3 h0),rp 3 (nF h1),cC (Qc3 h2),nF h1,nF h1,nF h3,bT h4]
   ·obtain ⟨r2,h5,h⟩:=Qaf h
    rcases Qah h with ⟨h6,h⟩|⟨h6,h⟩
    ·obtain ⟨r3,h7,h⟩:=Qaf h
     obtain rfl:=Option.some.inj h
     exact gr 21 [] [cC (Qc3 h0),rp 3 (nF h1),cC (Qc3 h2),nF h1,nF h1,nF h3,bF h4,cC (QpA h5),nF h6,hH (.draw 8 []),cC (Qq2 h7)]
    ·obtain rfl:=Option.some.inj h
     exact gr 20 [] [cC (Qc3 h0),rp 3 (nF h1),cC (Qc3 h2),nF h1,nF h1,nF h3,bF h4,cC (QpA h5),nT h6]
  ·obtain rfl:=Option.some.inj h
   exact gr 8 [] [cC (Qc3 h0),rp 3 (nF h1),cC (Qc3 h2),nF h1,nF h1,nT h3]
 ·obtain rfl:=Option.some.inj h
  exact gr 8 [] [cC (Qc3 h0),rp 5 (nT h1),tT]
theorem Qh3 {kind own} {rv:Bool} (h:Qjv kind own=some rv):AFn Tryz.prog 81 [.one (lI kind),.one (lI own)] [] (one (.bool rv)) []:=by
 refine QaK Tryz.func81 (by kernel_rfl) (by kernel_rfl) (fun Γ=>?_)
 unfold Qjv at h
 obtain rfl:=Option.some.inj h
 exact gr 4 [] [rp 4 hP,rp 2 (oI ((neI kind (-1))=true)),oR True ((neI kind (-1))=true)]
def QoF (Γ:Gam) (rv:QaL) (cf:Cf):Prop:=Go Tryz.prog Tryz.f40 [] Γ (gG [lI rv.cost,lI rv.moved,lI rv.other,lI rv.work]) [] cf
def Qll (Γ:Gam) (rv:QaL) (x0:Qac) (r:QaF) (s0:Qa0) (x1:Qai) (l:List (Int×Int)) (moved:Int) (other:Int) (v:Int):Prop:=QoF Γ rv ⟨[.c 4084,.l 4084,.b 0,.c 511],⟨114,[vP 3 0 6,vP 4 1 4,vP 6 2 4,vP 10 3 4,(11,one (.mp 4)),vL 59 2 r.visits Qaa.enc,vI 60 (lenI r.visits),vI 61 v],[oX 6 30 (Qac.enc x0),oX 4 66 (QaF.enc r),oX 4 98 [lI 0,lI 0,lI 0,lI 0],oX 4 98 [lI (addK .i64 (addK .i64 x1.fixed (mulK .i64 x1.perMile s0.miles)) (mulK .i64 x1.perTick (subK .i64 s0.end_ x1.open_))),lI moved,lI other,lI (mulK .i64 (quoK .i64 (subK .i64 s0.end_ x1.open_) 64) (quoK .i64 (subK .i64 s0.end_ x1.open_) 64))],oM 145 l (mE kI lI)]⟩⟩
def QjE (Γ:Gam) (rv:QaL) (x0:Qac) (r:QaF) (s0:Qa0) (x1:Qai) (moved2:Int) (other1:Int):Prop:=QoF Γ rv ⟨[.c 511],⟨114,[vP 6 0 4,vP 10 1 4],[oX 4 98 [lI 0,lI 0,lI 0,lI 0],oX 4 98 [lI (addK .i64 (addK .i64 x1.fixed (mulK .i64 x1.perMile s0.miles)) (mulK .i64 x1.perTick (subK .i64 s0.end_ x1.open_))),lI moved2,lI other1,lI (mulK .i64 (quoK .i64 (subK .i64 s0.end_ x1.open_) 64) (quoK .i64 (subK .i64 s0.end_ x1.open_) 64))]]⟩⟩
theorem QnG (Γ:Gam) (rv:QaL) {x0 r s0 x1 l other v x2 x3 moved1} {x:(List (Int×Int)×Int×Int×Int)⊕(Int×Int)} (h:Qh2 x0 r s0 x1 l other v x2 x3 moved1=some x) (hI:∀ s:List (Int×Int)×Int×Int×Int,x=.inl s→Qll Γ rv x0 r s0 x1 s.1 s.2.1 s.2.2.1 s.2.2.2) (hE:∀ e:Int×Int,x=.inr e→QjE Γ rv x0 r s0 x1 e.1 e.2):QoF Γ rv ⟨[.c 2091423,.b 1,.c 32679,.l 4084,.b 0,.c 511],⟨114,[vP 3 0 6,vP 4 1 4,vP 6 2 4,vP 10 3 4,(11,one (.mp 4)),vP 14 5 16,vL 59 2 r.visits Qaa.enc,vI 60 (lenI r.visits),vI 61 v],[oX 6 30 (Qac.enc x0),oX 4 66 (QaF.enc r),oX 4 98 [lI 0,lI 0,lI 0,lI 0],oX 4 98 [lI (addK .i64 (addK .i64 x1.fixed (mulK .i64 x1.perMile s0.miles)) (mulK .i64 x1.perTick (subK .i64 s0.end_ x1.open_))),lI moved1,lI other,lI (mulK .i64 (quoK .i64 (subK .i64 s0.end_ x1.open_) 64) (quoK .i64 (subK .i64 s0.end_ x1.open_) 64))],oM 145 (mPut eqI l x2.order (addK .i64 (mGet eqI l x2.order 0) 1)) (mE kI lI),oX 16 83 (Qag.enc x3)]⟩⟩:=by
 unfold Qh2 at h
 obtain ⟨r2,h9,h⟩:=Qaf h
 rcases Qah h with ⟨h10,h⟩|⟨h10,h⟩
 ·exact gn 7 [3,4,6,10,11,59,60,61] [0,1,2,3,4] [cC (Qh3 h9),bT h10] (hI _ (oJ h))
 ·exact gn 7 [3,4,6,10,11,59,60,61] [0,1,2,3,4] [cC (Qh3 h9),bF h10] (hI _ (oJ h))
theorem QrF (Γ:Gam) (rv:QaL) {x0 r s0 x1} {s:List (Int×Int)×Int×Int×Int} {e:Int×Int} (h:loopF (fun s=>Qdt x0 r s0 x1 s.1 s.2.1 s.2.2.1 s.2.2.2) s=some e) (hD:QjE Γ rv x0 r s0 x1 e.1 e.2):Qll Γ rv x0 r s0 x1 s.1 s.2.1 s.2.2.1 s.2.2.2:=by
 refine Qau (C:=fun (s:List (Int×Int)×Int×Int×Int)=>Qll Γ rv x0 r s0 x1 s.1 s.2.1 s.2.2.1 s.2.2.2) (D:=fun (e:Int×Int)=>QjE Γ rv x0 r s0 x1 e.1 e.2) ?_ h hD
 clear h hD s e
 rintro ⟨l,moved,other,v⟩ z_ h hI hE
 replace h:Qdt x0 r s0 x1 l moved other v=_:=h
 unfold Qdt at h
 rcases Qah h with ⟨h2,h⟩|⟨h2,h⟩
 ·obtain ⟨x2,h3,h⟩:=Qaf h
  rcases Qah h with ⟨h4,h⟩|⟨h4,h⟩
  ·exact gn 18 [3,4,6,10,11,59,60,61] [0,1,2,3,4] [bT h2,cE Qaa.enc h3,mG kqI lI l x2.order 0,mU kqI lI l x2.order (addK .i64 (mGet eqI l x2.order 0) 1),rp 5 hP,rp 3 (oI ((ltI x2.order 0)=false)),nL Qag.enc x0.orders,hP,hP,rp 2 (oI ((ltI x2.order 0)=false)),oR True ((ltI x2.order 0)=false),rp 6 (bT h4),tT] (hI _ (oJ h))
  ·rcases Qah h with ⟨h5,h⟩|⟨h5,h⟩
   ·exact gn 18 [3,4,6,10,11,59,60,61] [0,1,2,3,4] [bT h2,cE Qaa.enc h3,mG kqI lI l x2.order 0,mU kqI lI l x2.order (addK .i64 (mGet eqI l x2.order 0) 1),rp 5 hP,rp 3 (oI ((ltI x2.order 0)=false)),nL Qag.enc x0.orders,hP,hP,rp 2 (oI ((ltI x2.order 0)=false)),oR True ((ltI x2.order 0)=false),rp 4 (bF h4),mG kqI lI (mPut eqI l x2.order (addK .i64 (mGet eqI l x2.order 0) 1)) x2.order 0,bF h4,bF h4,bT h5] (hI _ (oJ h))
   ·obtain ⟨x3,h6,h⟩:=Qaf h
    obtain ⟨r1,h7,h⟩:=Qaf h
    rcases Qah h with ⟨h8,h⟩|⟨h8,h⟩
    ·exact gn 23 [3,4,6,10,11,14,59,60,61] [0,1,2,3,4,6] [bT h2,cE Qaa.enc h3,mG kqI lI l x2.order 0,mU kqI lI l x2.order (addK .i64 (mGet eqI l x2.order 0) 1),rp 5 hP,rp 3 (oI ((ltI x2.order 0)=false)),nL Qag.enc x0.orders,hP,hP,rp 2 (oI ((ltI x2.order 0)=false)),oR True ((ltI x2.order 0)=false),rp 4 (bF h4),mG kqI lI (mPut eqI l x2.order (addK .i64 (mGet eqI l x2.order 0) 1)) x2.order 0,bF h4,bF h4,bF h5,cE Qag.enc h6,cC (Qh3 h7),bT h8] (QnG Γ rv h hI hE)
    ·exact gn 23 [3,4,6,10,11,14,59,60,61] [0,1,2,3,4,6] [bT h2,cE Qaa.enc h3,mG kqI lI l x2.order 0,mU kqI lI l x2.order (addK .i64 (mGet eqI l x2.order 0) 1),rp 5 hP,rp 3 (oI ((ltI x2.order 0)=false)),nL Qag.enc x0.orders,hP,hP,rp 2 (oI ((ltI x2.order 0)=false)),oR True ((ltI x2.order 0)=false),rp 4 (bF h4),mG kqI lI (mPut eqI l x2.order (addK .i64 (mGet eqI l x2.order 0) 1)) x2.order 0,bF h4,bF h4,bF h5,cE Qag.enc h6,cC (Qh3 h7),bF h8] (QnG Γ rv h hI hE)
 ·exact gn 5 [6,10] [2,3] [bF h2] (hE _ (oJ h))
theorem Qqx {x0 r s0} {rv:QaL} (h:QkD x0 r s0=some rv):AFn Tryz.prog 40 [.agg (Qac.enc x0),.agg (QaF.enc r),.agg (Qa0.enc s0)] [] (gG [lI rv.cost,lI rv.moved,lI rv.other,lI rv.work]) []:=by
 refine QaK Tryz.func40 (by kernel_rfl) (by kernel_rfl) (fun Γ=>?_)
 unfold QkD at h
 rcases Qah h with ⟨h0,h⟩|⟨h0,h⟩
 ·obtain rfl:=Option.some.inj h
  exact gr 8 [] [rp 5 hP,rp 3 (oI ((ltI r.type_ 0)=false)),nL Qai.enc x0.types,hP,hP,rp 2 (oI ((ltI r.type_ 0)=false)),oR True ((ltI r.type_ 0)=false),bT h0]
 ·obtain ⟨x1,h1,h⟩:=Qaf h
  obtain ⟨e0,h11,h⟩:=Qaf h
  refine gn 22 [3,4,6,10,11,59,60,61] [0,1,3,5,6] [rp 5 hP,rp 3 (oI ((ltI r.type_ 0)=false)),nL Qai.enc x0.types,hP,hP,rp 2 (oI ((ltI r.type_ 0)=false)),oR True ((ltI r.type_ 0)=false),bF h0,cE Qai.enc h1,oO (oA (n:=64)),nL Qaa.enc r.visits] (QrF Γ rv h11 ?_)
  obtain ⟨moved2,other1⟩:=e0
  replace h:(some (QaL.mk (addK .i64 (addK .i64 x1.fixed (mulK .i64 x1.perMile s0.miles)) (mulK .i64 x1.perTick (subK .i64 s0.end_ x1.open_))) moved2 other1 (mulK .i64 (quoK .i64 (subK .i64 s0.end_ x1.open_) 64) (quoK .i64 (subK .i64 s0.end_ x1.open_) 64))):Option QaL)=some _:=h
  obtain rfl:=Option.some.inj h
  exact gr 2 [] []
theorem QgI {s0} {rv:Qwf} (h:QmM s0=some rv):AFn Tryz.prog 82 [.agg (QaL.enc s0)] [] (gG [lI rv.x0,lI rv.x1,lI rv.x2,lI rv.x3]) []:=by
 refine QaK Tryz.func82 (by kernel_rfl) (by kernel_rfl) (fun Γ=>?_)
 unfold QmM at h
 obtain rfl:=Option.some.inj h
 exact gr 4 [] []
theorem QpB {s0} {rv:Int×Int} (h:QfA s0=some rv):AFn Tryz.prog 41 [.agg (QaL.enc s0)] [] (.tup [.one (lI rv.1),.one (lI rv.2)]) []:=by
 refine QaK Tryz.func41 (by kernel_rfl) (by kernel_rfl) (fun Γ=>?_)
 unfold QfA at h
 obtain ⟨r,h0,h⟩:=Qaf h
 rcases Qah h with ⟨h1,h⟩|⟨h1,h⟩
 ·obtain rfl:=Option.some.inj h
  exact gr 23 [] [cC (QgI h0),tT,oO (zL 0),oO (lT 0 4),bT h1]
 ·rcases Qah h with ⟨h2,h⟩|⟨h2,h⟩
  ·obtain rfl:=Option.some.inj h
   exact gr 39 [] [cC (QgI h0),tT,oO (zL 0),oO (lT 0 4),bF h1,tT,oO (zL 1),oO (lT 1 4),bT h2]
  ·rcases Qah h with ⟨h3,h⟩|⟨h3,h⟩
   ·obtain rfl:=Option.some.inj h
    exact gr 55 [] [cC (QgI h0),tT,oO (zL 0),oO (lT 0 4),bF h1,tT,oO (zL 1),oO (lT 1 4),bF h2,tT,oO (zL 2),oO (lT 2 4),bT h3]
   ·rcases Qah h with ⟨h4,h⟩|⟨h4,h⟩
    ·obtain rfl:=Option.some.inj h
     exact gr 71 [] [cC (QgI h0),tT,oO (zL 0),oO (lT 0 4),bF h1,tT,oO (zL 1),oO (lT 1 4),bF h2,tT,oO (zL 2),oO (lT 2 4),bF h3,tT,oO (zL 3),oO (lT 3 4),bT h4]
    ·rcases Qah h with ⟨h5,h⟩|⟨h5,h⟩
     ·obtain rfl:=Option.some.inj h
      exact gr 84 [] [cC (QgI h0),tT,oO (zL 0),oO (lT 0 4),bF h1,tT,oO (zL 1),oO (lT 1 4),bF h2,tT,oO (zL 2),oO (lT 2 4),bF h3,tT,oO (zL 3),oO (lT 3 4),bF h4,fF,rp 12 hP,rp 2 (oI ((gtI s0.cost 1073741824)=false)),oR True ((gtI s0.cost 1073741824)=false),rp 2 (oI (((gtI s0.cost 1073741824)||(geI s0.moved 16))=false)),oR True (((gtI s0.cost 1073741824)||(geI s0.moved 16))=false),rp 2 (oI ((((gtI s0.cost 1073741824)||(geI s0.moved 16))||(geI s0.other 16))=false)),oR True ((((gtI s0.cost 1073741824)||(geI s0.moved 16))||(geI s0.other 16))=false),bT h5]
     ·obtain rfl:=Option.some.inj h
      exact gr 85 [] [cC (QgI h0),tT,oO (zL 0),oO (lT 0 4),bF h1,tT,oO (zL 1),oO (lT 1 4),bF h2,tT,oO (zL 2),oO (lT 2 4),bF h3,tT,oO (zL 3),oO (lT 3 4),bF h4,fF,rp 12 hP,rp 2 (oI ((gtI s0.cost 1073741824)=false)),oR True ((gtI s0.cost 1073741824)=false),rp 2 (oI (((gtI s0.cost 1073741824)||(geI s0.moved 16))=false)),oR True (((gtI s0.cost 1073741824)||(geI s0.moved 16))=false),rp 2 (oI ((((gtI s0.cost 1073741824)||(geI s0.moved 16))||(geI s0.other 16))=false)),oR True ((((gtI s0.cost 1073741824)||(geI s0.moved 16))||(geI s0.other 16))=false),bF h5]
theorem Qm4 {x0 l} {rv:Int×Int×Bool} (h:QkA x0 l=some rv):AFn Tryz.prog 12 [.agg (Qac.enc x0),.agg (Qae.enc l)] [] (.tup [.one (lI rv.1),.one (lI rv.2.1),.one (.bool rv.2.2)]) []:=by
 refine QaK Tryz.func12 (by kernel_rfl) (by kernel_rfl) (fun Γ=>?_)
 unfold QkA at h
 rcases Qah h with ⟨h0,h⟩|⟨h0,h⟩
 ·obtain rfl:=Option.some.inj h
  exact gr 8 [] [nL Qaa.enc l.visits,rp 13 hP,rp 2 (oI ((eqI (lenI l.visits) 0)=false)),oR True ((eqI (lenI l.visits) 0)=false),rp 2 (oI (((eqI (lenI l.visits) 0)||(neI l.open_ 0))=false)),oR True (((eqI (lenI l.visits) 0)||(neI l.open_ 0))=false),rp 3 (oI ((((eqI (lenI l.visits) 0)||(neI l.open_ 0))||(ltI l.type_ 0))=false)),nL Qai.enc x0.types,hP,hP,rp 2 (oI ((((eqI (lenI l.visits) 0)||(neI l.open_ 0))||(ltI l.type_ 0))=false)),oR True ((((eqI (lenI l.visits) 0)||(neI l.open_ 0))||(ltI l.type_ 0))=false),bT h0]
 ·obtain ⟨x1,h1,h⟩:=Qaf h
  obtain ⟨r,h2,h⟩:=Qaf h
  rcases Qah h with ⟨h3,h⟩|⟨h3,h⟩
  ·obtain rfl:=Option.some.inj h
   exact gr 17 [] [nL Qaa.enc l.visits,rp 13 hP,rp 2 (oI ((eqI (lenI l.visits) 0)=false)),oR True ((eqI (lenI l.visits) 0)=false),rp 2 (oI (((eqI (lenI l.visits) 0)||(neI l.open_ 0))=false)),oR True (((eqI (lenI l.visits) 0)||(neI l.open_ 0))=false),rp 3 (oI ((((eqI (lenI l.visits) 0)||(neI l.open_ 0))||(ltI l.type_ 0))=false)),nL Qai.enc x0.types,hP,hP,rp 2 (oI ((((eqI (lenI l.visits) 0)||(neI l.open_ 0))||(ltI l.type_ 0))=false)),oR True ((((eqI (lenI l.visits) 0)||(neI l.open_ 0))||(ltI l.type_ 0))=false),bF h0,cE Qai.enc h1,cC (QeL h2),rp 16 hP,rp 9 (oI ((neI r.2.2 0)=false)),oR True ((neI r.2.2 0)=false),rp 3 (oI (((neI r.2.2 0)||(gtI (subK .i64 (addK .i64 l.driven r.1) l.time) x1.drive))=false)),oR True (((neI r.2.2 0)||(gtI (subK .i64 (addK .i64 l.driven r.1) l.time) x1.drive))=false),bT h3]
  ·obtain ⟨r1,h4,h⟩:=Qaf h
   obtain ⟨r2,h5,h⟩:=Qaf h
   rcases Qah h with ⟨h6,h⟩|⟨h6,h⟩
   ·obtain rfl:=Option.some.inj h
    exact gr 26 [] [nL Qaa.enc l.visits,rp 13 hP,rp 2 (oI ((eqI (lenI l.visits) 0)=false)),oR True ((eqI (lenI l.visits) 0)=false),rp 2 (oI (((eqI (lenI l.visits) 0)||(neI l.open_ 0))=false)),oR True (((eqI (lenI l.visits) 0)||(neI l.open_ 0))=false),rp 3 (oI ((((eqI (lenI l.visits) 0)||(neI l.open_ 0))||(ltI l.type_ 0))=false)),nL Qai.enc x0.types,hP,hP,rp 2 (oI ((((eqI (lenI l.visits) 0)||(neI l.open_ 0))||(ltI l.type_ 0))=false)),oR True ((((eqI (lenI l.visits) 0)||(neI l.open_ 0))||(ltI l.type_ 0))=false),bF h0,cE Qai.enc h1,cC (QeL h2),rp 16 hP,rp 9 (oI ((neI r.2.2 0)=false)),oR True ((neI r.2.2 0)=false),rp 3 (oI (((neI r.2.2 0)||(gtI (subK .i64 (addK .i64 l.driven r.1) l.time) x1.drive))=false)),oR True (((neI r.2.2 0)||(gtI (subK .i64 (addK .i64 l.driven r.1) l.time) x1.drive))=false),bF h3,hW 15,hH (.nilS 81 2 1),hH (.nilS 87 2 4),cC (Qqx h4),cC (QpB h5),bT h6]
   ·obtain rfl:=Option.some.inj h
    exact gr 27 [] [nL Qaa.enc l.visits,rp 13 hP,rp 2 (oI ((eqI (lenI l.visits) 0)=false)),oR True ((eqI (lenI l.visits) 0)=false),rp 2 (oI (((eqI (lenI l.visits) 0)||(neI l.open_ 0))=false)),oR True (((eqI (lenI l.visits) 0)||(neI l.open_ 0))=false),rp 3 (oI ((((eqI (lenI l.visits) 0)||(neI l.open_ 0))||(ltI l.type_ 0))=false)),nL Qai.enc x0.types,hP,hP,rp 2 (oI ((((eqI (lenI l.visits) 0)||(neI l.open_ 0))||(ltI l.type_ 0))=false)),oR True ((((eqI (lenI l.visits) 0)||(neI l.open_ 0))||(ltI l.type_ 0))=false),bF h0,cE Qai.enc h1,cC (QeL h2),rp 16 hP,rp 9 (oI ((neI r.2.2 0)=false)),oR True ((neI r.2.2 0)=false),rp 3 (oI (((neI r.2.2 0)||(gtI (subK .i64 (addK .i64 l.driven r.1) l.time) x1.drive))=false)),oR True (((neI r.2.2 0)||(gtI (subK .i64 (addK .i64 l.driven r.1) l.time) x1.drive))=false),bF h3,hW 15,hH (.nilS 81 2 1),hH (.nilS 87 2 4),cC (Qqx h4),cC (QpB h5),bF h6]
theorem QgH {l at_} {rv:Bool} (h:QkC l at_=some rv):AFn Tryz.prog 88 [.one (lL 16 l Qag.enc),.one (lI at_)] [] (one (.bool rv)) []:=by
 refine QaK Tryz.func88 (by kernel_rfl) (by kernel_rfl) (fun Γ=>?_)
 unfold QkC at h
 obtain rfl:=Option.some.inj h
 exact gr 4 [] [hP,hP,hP,oI ((geI at_ 0)=true),nL Qag.enc l,hP,hP,rp 2 (oI ((geI at_ 0)=true)),oR True ((geI at_ 0)=true)]
def Qu0 (Γ:Gam) (rv:Qas×Int) (cf:Cf):Prop:=Go Tryz.prog Tryz.f45 [] Γ (.tup [.agg [lI rv.1.place,lI rv.1.open_,lI rv.1.close,lI rv.1.service],.one (lI rv.2)]) [] cf
theorem QoD (Γ:Gam) (rv:Qas×Int) {x1} (h:Qjt x1=some rv):Qu0 Γ rv ⟨[.c 31],⟨32,[vP 4 0 4,vP 6 1 4],[oX 4 81 [lI 0,lI 0,lI 0,lI 0],oX 4 81 (Qas.enc x1)]⟩⟩:=by
 unfold Qjt at h
 rcases Qah h with ⟨h4,h⟩|⟨h4,h⟩
 ·obtain rfl:=Option.some.inj h
  exact gr 6 [] [bT h4]
 ·obtain rfl:=Option.some.inj h
  exact gr 7 [] [bF h4]
theorem Qfm {l v} {rv:Qas×Int} (h:QoC l v=some rv):AFn Tryz.prog 45 [.one (lL 16 l Qag.enc),.agg (Qaa.enc v)] [] (.tup [.agg [lI rv.1.place,lI rv.1.open_,lI rv.1.close,lI rv.1.service],.one (lI rv.2)]) []:=by
 refine QaK Tryz.func45 (by kernel_rfl) (by kernel_rfl) (fun Γ=>?_)
 unfold QoC at h
 obtain ⟨r,h0,h⟩:=Qaf h
 rcases Qah h with ⟨h1,h⟩|⟨h1,h⟩
 ·obtain ⟨x0,h2,h⟩:=Qaf h
  rcases Qah h with ⟨h3,h⟩|⟨h3,h⟩
  ·exact gn 14 [4,6] [1,2] [cC (QgH h0),nF h1,cE Qag.enc h2,bT h3,cE Qag.enc h2] (QoD Γ rv h)
  ·exact gn 14 [4,6] [1,2] [cC (QgH h0),nF h1,cE Qag.enc h2,bF h3] (QoD Γ rv h)
 ·obtain rfl:=Option.some.inj h
  exact gr 8 [] [cC (QgH h0),nT h1]
def Qfi (Γ:Gam) (rv:Bool) (cf:Cf):Prop:=Go Tryz.prog Tryz.f46 [] Γ (one (.bool rv)) [] cf
def Qn8 (Γ:Gam) (rv:Bool) (x0:Qac) (l:Qae) (v:Qaa) (x1:Qag) (v1:Int):Prop:=Qfi Γ rv ⟨[.c 500,.l 500,.b 0,.c 63],⟨127,[vP 3 0 6,vP 4 1 9,vP 5 2 2,vI 8 (orK .i64 l.done l.open_),vL 63 2 x0.apart Qap.enc,vI 64 (lenI x0.apart),vI 65 v1],[oX 6 30 (Qac.enc x0),oX 9 47 (Qae.enc l),oX 2 54 (Qaa.enc v)]⟩⟩
def Qnp (Γ:Gam) (rv:Bool) (x0:Qac) (l:Qae) (v:Qaa) (x1:Qag):Prop:=Qfi Γ rv ⟨[.c 63],⟨127,[vP 3 0 6,vP 4 1 9,vP 5 2 2],[oX 6 30 (Qac.enc x0),oX 9 47 (Qae.enc l),oX 2 54 (Qaa.enc v)]⟩⟩
def Qn9 (Γ:Gam) (rv:Bool) (x0:Qac) (l:Qae) (v:Qaa) (x1:Qag) (v2:Int):Prop:=Qfi Γ rv ⟨[.c 2036,.l 2036,.b 2,.c 255],⟨127,[vP 4 0 9,vP 5 1 2,vL 100 2 x0.before Qap.enc,vI 101 (lenI x0.before),vI 102 v2],[oX 9 47 (Qae.enc l),oX 2 54 (Qaa.enc v)]⟩⟩
def Qnq (Γ:Gam) (rv:Bool) (x0:Qac) (l:Qae) (v:Qaa) (x1:Qag):Prop:=Qfi Γ rv ⟨[.c 255],⟨127,[],[]⟩⟩
def Qoa (Γ:Gam) (rv:Bool) (x0:Qac) (l:Qae) (v:Qaa) (x1:Qag) (v3:Int):Prop:=Qfi Γ rv ⟨[.c 500,.l 500,.b 0,.c 63],⟨127,[vP 3 0 6,vP 4 1 9,vP 5 2 2,vI 8 (orK .i64 l.done l.open_),vL 63 2 x0.apart Qap.enc,vI 64 (lenI x0.apart),vI 65 v3],[oX 6 30 (Qac.enc x0),oX 9 47 (Qae.enc l),oX 2 54 (Qaa.enc v)]⟩⟩
def Qnr (Γ:Gam) (rv:Bool) (x0:Qac) (l:Qae) (v:Qaa) (x1:Qag):Prop:=Qfi Γ rv ⟨[.c 63],⟨127,[vP 3 0 6,vP 4 1 9,vP 5 2 2],[oX 6 30 (Qac.enc x0),oX 9 47 (Qae.enc l),oX 2 54 (Qaa.enc v)]⟩⟩
def Qob (Γ:Gam) (rv:Bool) (x0:Qac) (l:Qae) (v:Qaa) (x1:Qag) (v4:Int):Prop:=Qfi Γ rv ⟨[.c 2036,.l 2036,.b 2,.c 255],⟨127,[vP 4 0 9,vP 5 1 2,vL 100 2 x0.before Qap.enc,vI 101 (lenI x0.before),vI 102 v4],[oX 9 47 (Qae.enc l),oX 2 54 (Qaa.enc v)]⟩⟩
def Qns (Γ:Gam) (rv:Bool) (x0:Qac) (l:Qae) (v:Qaa) (x1:Qag):Prop:=Qfi Γ rv ⟨[.c 255],⟨127,[],[]⟩⟩
theorem Qrx (Γ:Gam) (rv:Bool) {x0 l v x1} {s:Int} {e:(Unit)⊕(Bool)} (h:loopF (fun s=>Qdr x0 l v x1 s) s=some e) (hD:sel e (fun e=>Qnp Γ rv x0 l v x1) (fun e=>e=rv)):Qn8 Γ rv x0 l v x1 s:=by
 refine Qau (C:=fun (s:Int)=>Qn8 Γ rv x0 l v x1 s) (D:=fun (e:(Unit)⊕(Bool))=>sel e (fun e=>Qnp Γ rv x0 l v x1) (fun e=>e=rv)) ?_ h hD
 clear h hD s e
 intro v1 z_ h hI hE
 replace h:Qdr x0 l v x1 v1=_:=h
 unfold Qdr at h
 rcases Qah h with ⟨h8,h⟩|⟨h8,h⟩
 ·obtain ⟨x3,h9,h⟩:=Qaf h
  rcases Qah h with ⟨h10,h⟩|⟨h10,h⟩
  ·obtain ⟨r2,h11,h⟩:=Qaf h
   rcases Qah h with ⟨h12,h⟩|⟨h12,h⟩
   ·obtain rfl:=(hE _ (oJ h):_=rv)
    exact gr 14 [] [bT h8,cE Qap.enc h9,oO (zL 0),oO (lT 0 2),rp 2 (bT h10),oO (zL 1),oO (lT 1 2),rp 2 (bT h10),cC (Qaw h11),bT h10,rp 6 (bT h12),rp 4 kF,rp 2 (bT h12),tT]
   ·rcases Qah h with ⟨h13,h⟩|⟨h13,h⟩
    ·obtain ⟨r3,h14,h⟩:=Qaf h
     rcases Qah h with ⟨h15,h⟩|⟨h15,h⟩
     ·obtain rfl:=(hE _ (oJ h):_=rv)
      exact gr 14 [] [bT h8,cE Qap.enc h9,oO (zL 0),oO (lT 0 2),rp 2 (bT h10),oO (zL 1),oO (lT 1 2),rp 2 (bT h10),cC (Qaw h11),bT h10,bF h12,oO (zL 1),oO (lT 1 2),rp 5 (bF h12),rp 2 (bT h13),oO (zL 0),oO (lT 0 2),rp 2 (bT h13),cC (Qaw h14),bF h12,bT h13,bF h12,bT h15]
     ·exact gn 16 [3,4,5,8,63,64,65] [0,1,2] [bT h8,cE Qap.enc h9,oO (zL 0),oO (lT 0 2),rp 2 (bT h10),oO (zL 1),oO (lT 1 2),rp 2 (bT h10),cC (Qaw h11),bT h10,bF h12,oO (zL 1),oO (lT 1 2),rp 5 (bF h12),rp 2 (bT h13),oO (zL 0),oO (lT 0 2),rp 2 (bT h13),cC (Qaw h14),bF h12,bT h13,bF h12,bF h15] (hI _ (oJ h))
    ·exact gn 16 [3,4,5,8,63,64,65] [0,1,2] [bT h8,cE Qap.enc h9,oO (zL 0),oO (lT 0 2),rp 2 (bT h10),oO (zL 1),oO (lT 1 2),rp 2 (bT h10),cC (Qaw h11),bT h10,bF h12,oO (zL 1),oO (lT 1 2),rp 5 (bF h12),rp 4 (bF h13),bF h12,bF h13,bF h12,fF] (hI _ (oJ h))
  ·rcases Qah h with ⟨h16,h⟩|⟨h16,h⟩
   ·obtain ⟨r4,h17,h⟩:=Qaf h
    rcases Qah h with ⟨h18,h⟩|⟨h18,h⟩
    ·obtain rfl:=(hE _ (oJ h):_=rv)
     exact gr 14 [] [bT h8,cE Qap.enc h9,oO (zL 0),oO (lT 0 2),rp 5 (bF h10),fF,oO (zL 1),oO (lT 1 2),rp 5 fF,rp 2 (bT h16),oO (zL 0),oO (lT 0 2),rp 2 (bT h16),cC (Qaw h17),fF,bT h16,fF,bT h18]
    ·exact gn 16 [3,4,5,8,63,64,65] [0,1,2] [bT h8,cE Qap.enc h9,oO (zL 0),oO (lT 0 2),rp 5 (bF h10),fF,oO (zL 1),oO (lT 1 2),rp 5 fF,rp 2 (bT h16),oO (zL 0),oO (lT 0 2),rp 2 (bT h16),cC (Qaw h17),fF,bT h16,fF,bF h18] (hI _ (oJ h))
   ·exact gn 16 [3,4,5,8,63,64,65] [0,1,2] [bT h8,cE Qap.enc h9,oO (zL 0),oO (lT 0 2),rp 5 (bF h10),fF,oO (zL 1),oO (lT 1 2),rp 5 fF,rp 4 (bF h16),fF,bF h16,fF,fF] (hI _ (oJ h))
 ·exact gn 5 [3,4,5] [0,1,2] [bF h8] (hE _ (oJ h))
theorem Qry (Γ:Gam) (rv:Bool) {x0 l v x1} {s:Int} {e:(Unit)⊕(Bool)} (h:loopF (fun s=>QcY x0 l v x1 s) s=some e) (hD:sel e (fun e=>Qnq Γ rv x0 l v x1) (fun e=>e=rv)):Qn9 Γ rv x0 l v x1 s:=by
 refine Qau (C:=fun (s:Int)=>Qn9 Γ rv x0 l v x1 s) (D:=fun (e:(Unit)⊕(Bool))=>sel e (fun e=>Qnq Γ rv x0 l v x1) (fun e=>e=rv)) ?_ h hD
 clear h hD s e
 intro v2 z_ h hI hE
 replace h:QcY x0 l v x1 v2=_:=h
 unfold QcY at h
 rcases Qah h with ⟨h22,h⟩|⟨h22,h⟩
 ·obtain ⟨x4,h23,h⟩:=Qaf h
  rcases Qah h with ⟨h24,h⟩|⟨h24,h⟩
  ·obtain ⟨r6,h25,h⟩:=Qaf h
   rcases Qah h with ⟨h26,h⟩|⟨h26,h⟩
   ·obtain ⟨r7,h27,h⟩:=Qaf h
    rcases Qah h with ⟨h28,h⟩|⟨h28,h⟩
    ·obtain rfl:=(hE _ (oJ h):_=rv)
     exact gr 14 [] [bT h22,cE Qap.enc h23,oO (zL 1),oO (lT 1 2),rp 3 (bT h24),oO (zL 0),oO (lT 0 2),rp 2 (bT h24),cC (Qaw h25),rp 2 (bT h24),rp 3 (nF h26),oO (zL 0),oO (lT 0 2),rp 2 (nF h26),cC (Qaw h27),bT h24,nF h26,bT h24,bT h28]
    ·exact gn 16 [4,5,100,101,102] [0,1] [bT h22,cE Qap.enc h23,oO (zL 1),oO (lT 1 2),rp 3 (bT h24),oO (zL 0),oO (lT 0 2),rp 2 (bT h24),cC (Qaw h25),rp 2 (bT h24),rp 3 (nF h26),oO (zL 0),oO (lT 0 2),rp 2 (nF h26),cC (Qaw h27),bT h24,nF h26,bT h24,bF h28] (hI _ (oJ h))
   ·obtain rfl:=(hE _ (oJ h):_=rv)
    exact gr 14 [] [bT h22,cE Qap.enc h23,oO (zL 1),oO (lT 1 2),rp 3 (bT h24),oO (zL 0),oO (lT 0 2),rp 2 (bT h24),cC (Qaw h25),rp 2 (bT h24),rp 5 (nT h26),bT h24,nT h26,bT h24,tT]
  ·exact gn 16 [4,5,100,101,102] [0,1] [bT h22,cE Qap.enc h23,oO (zL 1),oO (lT 1 2),rp 7 (bF h24),rp 5 kF,rp 2 (bF h24),fF] (hI _ (oJ h))
 ·exact gn 5 [] [] [bF h22] (hE _ (oJ h))
theorem Qrz (Γ:Gam) (rv:Bool) {x0 l v x1} {s:Int} {e:(Unit)⊕(Bool)} (h:loopF (fun s=>Qds x0 l v x1 s) s=some e) (hD:sel e (fun e=>Qnr Γ rv x0 l v x1) (fun e=>e=rv)):Qoa Γ rv x0 l v x1 s:=by
 refine Qau (C:=fun (s:Int)=>Qoa Γ rv x0 l v x1 s) (D:=fun (e:(Unit)⊕(Bool))=>sel e (fun e=>Qnr Γ rv x0 l v x1) (fun e=>e=rv)) ?_ h hD
 clear h hD s e
 intro v3 z_ h hI hE
 replace h:Qds x0 l v x1 v3=_:=h
 unfold Qds at h
 rcases Qah h with ⟨h32,h⟩|⟨h32,h⟩
 ·obtain ⟨x5,h33,h⟩:=Qaf h
  rcases Qah h with ⟨h34,h⟩|⟨h34,h⟩
  ·obtain ⟨r11,h35,h⟩:=Qaf h
   rcases Qah h with ⟨h36,h⟩|⟨h36,h⟩
   ·obtain rfl:=(hE _ (oJ h):_=rv)
    exact gr 14 [] [bT h32,cE Qap.enc h33,oO (zL 0),oO (lT 0 2),rp 2 (bT h34),oO (zL 1),oO (lT 1 2),rp 2 (bT h34),cC (Qaw h35),bT h34,rp 6 (bT h36),rp 4 kF,rp 2 (bT h36),tT]
   ·rcases Qah h with ⟨h37,h⟩|⟨h37,h⟩
    ·obtain ⟨r12,h38,h⟩:=Qaf h
     rcases Qah h with ⟨h39,h⟩|⟨h39,h⟩
     ·obtain rfl:=(hE _ (oJ h):_=rv)
      exact gr 14 [] [bT h32,cE Qap.enc h33,oO (zL 0),oO (lT 0 2),rp 2 (bT h34),oO (zL 1),oO (lT 1 2),rp 2 (bT h34),cC (Qaw h35),bT h34,bF h36,oO (zL 1),oO (lT 1 2),rp 5 (bF h36),rp 2 (bT h37),oO (zL 0),oO (lT 0 2),rp 2 (bT h37),cC (Qaw h38),bF h36,bT h37,bF h36,bT h39]
     ·exact gn 16 [3,4,5,8,63,64,65] [0,1,2] [bT h32,cE Qap.enc h33,oO (zL 0),oO (lT 0 2),rp 2 (bT h34),oO (zL 1),oO (lT 1 2),rp 2 (bT h34),cC (Qaw h35),bT h34,bF h36,oO (zL 1),oO (lT 1 2),rp 5 (bF h36),rp 2 (bT h37),oO (zL 0),oO (lT 0 2),rp 2 (bT h37),cC (Qaw h38),bF h36,bT h37,bF h36,bF h39] (hI _ (oJ h))
    ·exact gn 16 [3,4,5,8,63,64,65] [0,1,2] [bT h32,cE Qap.enc h33,oO (zL 0),oO (lT 0 2),rp 2 (bT h34),oO (zL 1),oO (lT 1 2),rp 2 (bT h34),cC (Qaw h35),bT h34,bF h36,oO (zL 1),oO (lT 1 2),rp 5 (bF h36),rp 4 (bF h37),bF h36,bF h37,bF h36,fF] (hI _ (oJ h))
  ·rcases Qah h with ⟨h40,h⟩|⟨h40,h⟩
   ·obtain ⟨r13,h41,h⟩:=Qaf h
    rcases Qah h with ⟨h42,h⟩|⟨h42,h⟩
    ·obtain rfl:=(hE _ (oJ h):_=rv)
     exact gr 14 [] [bT h32,cE Qap.enc h33,oO (zL 0),oO (lT 0 2),rp 5 (bF h34),fF,oO (zL 1),oO (lT 1 2),rp 5 fF,rp 2 (bT h40),oO (zL 0),oO (lT 0 2),rp 2 (bT h40),cC (Qaw h41),fF,bT h40,fF,bT h42]
    ·exact gn 16 [3,4,5,8,63,64,65] [0,1,2] [bT h32,cE Qap.enc h33,oO (zL 0),oO (lT 0 2),rp 5 (bF h34),fF,oO (zL 1),oO (lT 1 2),rp 5 fF,rp 2 (bT h40),oO (zL 0),oO (lT 0 2),rp 2 (bT h40),cC (Qaw h41),fF,bT h40,fF,bF h42] (hI _ (oJ h))
   ·exact gn 16 [3,4,5,8,63,64,65] [0,1,2] [bT h32,cE Qap.enc h33,oO (zL 0),oO (lT 0 2),rp 5 (bF h34),fF,oO (zL 1),oO (lT 1 2),rp 5 fF,rp 4 (bF h40),fF,bF h40,fF,fF] (hI _ (oJ h))
 ·exact gn 5 [3,4,5] [0,1,2] [bF h32] (hE _ (oJ h))
theorem QrA (Γ:Gam) (rv:Bool) {x0 l v x1} {s:Int} {e:(Unit)⊕(Bool)} (h:loopF (fun s=>QcZ x0 l v x1 s) s=some e) (hD:sel e (fun e=>Qns Γ rv x0 l v x1) (fun e=>e=rv)):Qob Γ rv x0 l v x1 s:=by
 refine Qau (C:=fun (s:Int)=>Qob Γ rv x0 l v x1 s) (D:=fun (e:(Unit)⊕(Bool))=>sel e (fun e=>Qns Γ rv x0 l v x1) (fun e=>e=rv)) ?_ h hD
 clear h hD s e
 intro v4 z_ h hI hE
 replace h:QcZ x0 l v x1 v4=_:=h
 unfold QcZ at h
 rcases Qah h with ⟨h46,h⟩|⟨h46,h⟩
 ·obtain ⟨x6,h47,h⟩:=Qaf h
  rcases Qah h with ⟨h48,h⟩|⟨h48,h⟩
  ·obtain ⟨r15,h49,h⟩:=Qaf h
   rcases Qah h with ⟨h50,h⟩|⟨h50,h⟩
   ·obtain ⟨r16,h51,h⟩:=Qaf h
    rcases Qah h with ⟨h52,h⟩|⟨h52,h⟩
    ·obtain rfl:=(hE _ (oJ h):_=rv)
     exact gr 14 [] [bT h46,cE Qap.enc h47,oO (zL 1),oO (lT 1 2),rp 3 (bT h48),oO (zL 0),oO (lT 0 2),rp 2 (bT h48),cC (Qaw h49),rp 2 (bT h48),rp 3 (nF h50),oO (zL 0),oO (lT 0 2),rp 2 (nF h50),cC (Qaw h51),bT h48,nF h50,bT h48,bT h52]
    ·exact gn 16 [4,5,100,101,102] [0,1] [bT h46,cE Qap.enc h47,oO (zL 1),oO (lT 1 2),rp 3 (bT h48),oO (zL 0),oO (lT 0 2),rp 2 (bT h48),cC (Qaw h49),rp 2 (bT h48),rp 3 (nF h50),oO (zL 0),oO (lT 0 2),rp 2 (nF h50),cC (Qaw h51),bT h48,nF h50,bT h48,bF h52] (hI _ (oJ h))
   ·obtain rfl:=(hE _ (oJ h):_=rv)
    exact gr 14 [] [bT h46,cE Qap.enc h47,oO (zL 1),oO (lT 1 2),rp 3 (bT h48),oO (zL 0),oO (lT 0 2),rp 2 (bT h48),cC (Qaw h49),rp 2 (bT h48),rp 5 (nT h50),bT h48,nT h50,bT h48,tT]
  ·exact gn 16 [4,5,100,101,102] [0,1] [bT h46,cE Qap.enc h47,oO (zL 1),oO (lT 1 2),rp 7 (bF h48),rp 5 kF,rp 2 (bF h48),fF] (hI _ (oJ h))
 ·exact gn 5 [] [] [bF h46] (hE _ (oJ h))
theorem Qfp {x0 l v} {rv:Bool} (h:Qmp x0 l v=some rv):AFn Tryz.prog 46 [.agg (Qac.enc x0),.agg (Qae.enc l),.agg (Qaa.enc v)] [] (one (.bool rv)) []:=by
 refine QaK Tryz.func46 (by kernel_rfl) (by kernel_rfl) (fun Γ=>?_)
 unfold Qmp at h
 obtain ⟨x1,h0,h⟩:=Qaf h
 rcases Qah h with ⟨h1,h⟩|⟨h1,h⟩
 ·obtain rfl:=Option.some.inj h
  exact gr 10 [] [cE Qag.enc h0,hH (.draw 38 []),rp 11 (bT h1),tT,tT,tT,rp 6 kF,rp 6 tT,rp 5 kF,tT,tT,tT]
 ·obtain ⟨x2,h2,h⟩:=Qaf h
  obtain ⟨r,h3,h⟩:=Qaf h
  rcases Qah h with ⟨h4,h⟩|⟨h4,h⟩
  ·rcases Qah h with ⟨h5,h⟩|⟨h5,h⟩
   ·obtain ⟨r1,h6,h⟩:=Qaf h
    rcases Qah h with ⟨h7,h⟩|⟨h7,h⟩
    ·obtain ⟨e0,h19,h⟩:=Qaf h
     refine gn 16 [3,4,5,8,63,64,65] [0,1,2] [cE Qag.enc h0,hH (.draw 38 []),rp 5 (bF h1),cE Qai.enc h2,rp 4 (bF h1),cC (Qfg h3),bF h1,bF h1,rp 3 (nF h4),rp 5 (bT h5),cC (Qaw h6),bT h5,nF h4,bT h5,nF h4,rp 4 (nF h7),rp 5 (nF h5),nF h7,nF h5,nF h7,fF,nL Qap.enc x0.apart] (Qrx Γ rv h19 ?_)
     rcases e0 with e0|e0
     ·replace h:(bnd (QbN l.done v.order) fun r5=>br r5 (some true) (bnd (loopF (fun s=>QcY x0 l v x1 s) 0) (fun e=>sel e (fun (_:Unit)=>some true) (fun r8=>some r8))):Option Bool)=some _:=h
      obtain ⟨r5,h20,h⟩:=Qaf h
      rcases Qah h with ⟨h21,h⟩|⟨h21,h⟩
      ·obtain rfl:=Option.some.inj h
       exact gr 6 [] [cC (Qaw h20),bT h21]
      ·obtain ⟨e1,h29,h⟩:=Qaf h
       refine gn 10 [4,5,100,101,102] [1,2] [cC (Qaw h20),bF h21,nL Qap.enc x0.before] (Qry Γ rv h29 ?_)
       rcases e1 with e1|e1
       ·replace h:(some true:Option Bool)=some _:=h
        obtain rfl:=Option.some.inj h
        exact gr 2 [] []
       ·obtain ⟨r8,rfl⟩:∃ x,x=e1:=⟨_,rfl⟩
        replace h:(some r8:Option Bool)=some _:=h
        exact Option.some.inj h
     ·obtain ⟨r9,rfl⟩:∃ x,x=e0:=⟨_,rfl⟩
      replace h:(some r9:Option Bool)=some _:=h
      exact Option.some.inj h
    ·obtain rfl:=Option.some.inj h
     exact gr 10 [] [cE Qag.enc h0,hH (.draw 38 []),rp 5 (bF h1),cE Qai.enc h2,rp 4 (bF h1),cC (Qfg h3),bF h1,bF h1,rp 3 (nF h4),rp 5 (bT h5),cC (Qaw h6),bT h5,nF h4,bT h5,nF h4,rp 4 (nT h7),rp 5 kF,nT h7,nT h7,tT]
   ·obtain ⟨r10,h30,h⟩:=Qaf h
    rcases Qah h with ⟨h31,h⟩|⟨h31,h⟩
    ·obtain rfl:=Option.some.inj h
     exact gr 10 [] [cE Qag.enc h0,hH (.draw 38 []),rp 5 (bF h1),cE Qai.enc h2,rp 4 (bF h1),cC (Qfg h3),bF h1,bF h1,rp 3 (nF h4),rp 6 (bF h5),nF h4,bF h5,nF h4,rp 4 fF,rp 5 (nT h5),cC (Qaw h30),fF,nT h5,fF,bT h31]
    ·obtain ⟨e2,h43,h⟩:=Qaf h
     refine gn 16 [3,4,5,8,63,64,65] [0,1,2] [cE Qag.enc h0,hH (.draw 38 []),rp 5 (bF h1),cE Qai.enc h2,rp 4 (bF h1),cC (Qfg h3),bF h1,bF h1,rp 3 (nF h4),rp 6 (bF h5),nF h4,bF h5,nF h4,rp 4 fF,rp 5 (nT h5),cC (Qaw h30),fF,nT h5,fF,bF h31,nL Qap.enc x0.apart] (Qrz Γ rv h43 ?_)
     rcases e2 with e2|e2
     ·replace h:(bnd (QbN l.done v.order) fun r14=>br r14 (some true) (bnd (loopF (fun s=>QcZ x0 l v x1 s) 0) (fun e=>sel e (fun (_:Unit)=>some true) (fun r17=>some r17))):Option Bool)=some _:=h
      obtain ⟨r14,h44,h⟩:=Qaf h
      rcases Qah h with ⟨h45,h⟩|⟨h45,h⟩
      ·obtain rfl:=Option.some.inj h
       exact gr 6 [] [cC (Qaw h44),bT h45]
      ·obtain ⟨e3,h53,h⟩:=Qaf h
       refine gn 10 [4,5,100,101,102] [1,2] [cC (Qaw h44),bF h45,nL Qap.enc x0.before] (QrA Γ rv h53 ?_)
       rcases e3 with e3|e3
       ·replace h:(some true:Option Bool)=some _:=h
        obtain rfl:=Option.some.inj h
        exact gr 2 [] []
       ·obtain ⟨r17,rfl⟩:∃ x,x=e3:=⟨_,rfl⟩
        replace h:(some r17:Option Bool)=some _:=h
        exact Option.some.inj h
     ·obtain ⟨r18,rfl⟩:∃ x,x=e2:=⟨_,rfl⟩
      replace h:(some r18:Option Bool)=some _:=h
      exact Option.some.inj h
  ·obtain rfl:=Option.some.inj h
   exact gr 10 [] [cE Qag.enc h0,hH (.draw 38 []),rp 5 (bF h1),cE Qai.enc h2,rp 4 (bF h1),cC (Qfg h3),bF h1,bF h1,rp 3 (nT h4),rp 6 kF,nT h4,nT h4,rp 4 tT,rp 5 kF,tT,tT,tT]
end Go.Proofs.YtfjiafgldchinaaGreatDoor
