/- Part MU of the proof: texts X0. -/
import Derived.Test.YtoedkepcaigkeaaGreatDoorMT
import Derived.Test.YtoedkepcaigkeaaGreatDoorMC
import Derived.Test.YtoedkepcaigkeaaGreatDoorProg
namespace Go.Proofs.YtoedkepcaigkeaaGreatDoor
set_option linter.unusedVariables false
set_option linter.unusedSectionVars false
set_option linter.unusedSimpArgs false
set_option maxHeartbeats 4000000
set_option maxRecDepth 100000
def QkZ (Γ:Gam) (rv:List Qab) (cf:Cf):Prop:=Go Tryz.prog Tryz.f71 [] Γ (one (lL 2 rv Qab.enc)) [] cf
def QiX (Γ:Gam) (rv:List Qab) (word:ByteArray) (l:List Qab) (l1:List Qab) (i:Int):Prop:=QkZ Γ rv ⟨[.c 116,.l 116,.b 0,.c 15],⟨40,[vS 0 word,vL 1 2 l Qab.enc,vO 5 0 2 l1 Qab.enc,vI 6 i],[oS 2 151 l1 Qab.enc]⟩⟩
def Qip (Γ:Gam) (rv:List Qab) (word:ByteArray) (l:List Qab) (l2:List Qab):Prop:=QkZ Γ rv ⟨[.c 15],⟨40,[vO 5 0 2 l2 Qab.enc],[oS 2 151 l2 Qab.enc]⟩⟩
theorem QlP (Γ:Gam) (rv:List Qab) {word l l1 i at_} {x:(List Qab×Int)⊕(List Qab)} (h:Qgu word l l1 i at_=some x) (hI:∀ s:List Qab×Int,x=.inl s→QiX Γ rv word l s.1 s.2) (hE:∀ e:List Qab,x=.inr e→Qip Γ rv word l e):QkZ Γ rv ⟨[.c 3731,.b 1,.c 467,.l 116,.b 0,.c 15],⟨40,[vS 0 word,vL 1 2 l Qab.enc,vO 5 0 2 l1 Qab.enc,vI 6 i,vS 7 at_],[oS 2 151 l1 Qab.enc]⟩⟩:=by
 unfold Qgu at h
 obtain ⟨x1,h5,h⟩:=Qae h
 obtain ⟨h6,h⟩:=Qau h
 exact gn 4 [0,1,5,6] [2] [cE Qab.enc h5,oO (Eq.refl ([(Qab.mk x1.err at_)].map Qab.enc).length),aO Qab.enc h6] (hI _ (oJ h))
theorem QrY (Γ:Gam) (rv:List Qab) {word l} {s:List Qab×Int} {e:List Qab} (h:QaW (fun s=>Qfj word l s.1 s.2) s=some e) (hD:Qip Γ rv word l e):QiX Γ rv word l s.1 s.2:=by
 refine QaA (C:=fun (s:List Qab×Int)=>QiX Γ rv word l s.1 s.2) (D:=fun (e:List Qab)=>Qip Γ rv word l e) ?_ h hD
 clear h hD s e
 rintro ⟨l1,i⟩ z_ h hI hE
 replace h:Qfj word l l1 i=_:=h
 unfold Qfj at h
 rcases Qah h with ⟨h0,h⟩|⟨h0,h⟩
 ·obtain ⟨x0,h1,h⟩:=Qae h
  rcases Qah h with ⟨h2,h⟩|⟨h2,h⟩
  ·exact gn 14 [0,1,5,6,7] [0] [nL Qab.enc l,bT h0,cE Qab.enc h1,nF h2] (QlP Γ rv h hI hE)
  ·obtain ⟨h3,h⟩:=Qau h
   obtain ⟨h4,h⟩:=Qau h
   exact gn 14 [0,1,5,6,7] [0] [nL Qab.enc l,bT h0,cE Qab.enc h1,nT h2,oO (h3),cE Qab.enc h1,oO (h4)] (QlP Γ rv h hI hE)
 ·exact gn 5 [5] [0] [nL Qab.enc l,bF h0] (hE _ (oJ h))
theorem Qj5 {word l} {rv:List Qab} (h:Qg6 word l=some rv):AFn Tryz.prog 71 [.one (.str word),.one (lL 2 l Qab.enc)] [] (one (lL 2 rv Qab.enc)) []:=by
 refine QaQ Tryz.func71 (by kernel_rfl) (by kernel_rfl) (fun Γ=>?_)
 unfold Qg6 at h
 obtain ⟨e0,h7,h⟩:=Qae h
 refine gn 9 [0,1,5,6] [0] [hW 12,hH (.adopt 5 2 151)] (QrY Γ rv h7 ?_)
 obtain ⟨l2,rfl⟩:∃ x,x=e0:=⟨_,rfl⟩
 replace h:(some l2:Option (List Qab))=some _:=h
 obtain rfl:=Option.some.inj h
 exact gr 2 [] [hW 4,hH (.frz 0),rp 3 (eL l2 Qab.enc)]
def Qjs (Γ:Gam) (rv:ByteArray) (cf:Cf):Prop:=Go Tryz.prog Tryz.f113 [] Γ (one (.str rv)) [] cf
def QhR (Γ:Gam) (rv:ByteArray) (n:Int) (s0:ByteArray) (left:Int) (again:Bool):Prop:=Qjs Γ rv ⟨[.c 244,.l 244,.b 0,.c 31],⟨31,[vI 0 n,vS 3 s0,vI 4 left,vB 5 again],[]⟩⟩
def Qhm (Γ:Gam) (rv:ByteArray) (n:Int) (s1:ByteArray):Prop:=Qjs Γ rv ⟨[.c 31],⟨31,[vI 0 n,vS 3 s1],[]⟩⟩
theorem QjW (Γ:Gam) (rv:ByteArray) {n s0 left d} {x:(ByteArray×Int×Bool)⊕(ByteArray)} (h:Qd9 n s0 left d=some x) (hI:∀ s:ByteArray×Int×Bool,x=.inl s→QhR Γ rv n s.1 s.2.1 s.2.2) (hE:∀ e:ByteArray,x=.inr e→Qhm Γ rv n e):Qjs Γ rv ⟨[.c 7827,.b 1,.c 979,.l 244,.b 0,.c 31],⟨31,[vI 0 n,vS 3 s0,vI 4 left,vI 6 d],[]⟩⟩:=by
 unfold Qd9 at h
 obtain ⟨h2,h⟩:=Qau h
 exact gn 6 [0,3,4,5] [] [hH (.ints [(cvK .u8 (addK .i64 48 d))]),oO (Eq.refl ([(cvK .u8 (addK .i64 48 d))].map e_u8).length),oO (Eq.refl (([(cvK .u8 (addK .i64 48 d))].map e_u8):List (List Lf))),oO (h2),oO (oA (n:=10))] (hI _ (oJ h))
theorem Qqz (Γ:Gam) (rv:ByteArray) {n} {s:ByteArray×Int×Bool} {e:ByteArray} (h:QaW (fun s=>QgT n s.1 s.2.1 s.2.2) s=some e) (hD:Qhm Γ rv n e):QhR Γ rv n s.1 s.2.1 s.2.2:=by
 refine QaA (C:=fun (s:ByteArray×Int×Bool)=>QhR Γ rv n s.1 s.2.1 s.2.2) (D:=fun (e:ByteArray)=>Qhm Γ rv n e) ?_ h hD
 clear h hD s e
 rintro ⟨s0,left,again⟩ z_ h hI hE
 replace h:QgT n s0 left again=_:=h
 unfold QgT at h
 rcases Qah h with ⟨h0,h⟩|⟨h0,h⟩
 ·rcases Qah h with ⟨h1,h⟩|⟨h1,h⟩
  ·exact gn 14 [0,3,4,6] [] [bT h0,oO (oA (n:=10)),bT h1] (QjW Γ rv h hI hE)
  ·exact gn 14 [0,3,4,6] [] [bT h0,oO (oA (n:=10)),bF h1] (QjW Γ rv h hI hE)
 ·exact gn 5 [0,3] [] [bF h0] (hE _ (oJ h))
theorem Qcc {n} {rv:ByteArray} (h:Qci n=some rv):AFn Tryz.prog 113 [.one (lI n)] [] (one (.str rv)) []:=by
 refine QaQ Tryz.func113 (by kernel_rfl) (by kernel_rfl) (fun Γ=>?_)
 unfold Qci at h
 obtain ⟨e0,h3,h⟩:=Qae h
 refine gn 11 [0,3,4,5] [] [] (Qqz Γ rv h3 ?_)
 obtain ⟨s1,rfl⟩:∃ x,x=e0:=⟨_,rfl⟩
 replace h:(br (ltI n 0) (chk (Qx5.size+s1.size≤9223372036854775807) (some (catS Qx5 s1))) (some s1):Option ByteArray)=some _:=h
 rcases Qah h with ⟨h4,h⟩|⟨h4,h⟩
 ·obtain ⟨h5,h⟩:=Qau h
  obtain rfl:=Option.some.inj h
  exact gr 6 [] [bT h4,oO (h5)]
 ·obtain rfl:=Option.some.inj h
  exact gr 7 [] [bF h4]
theorem QhZ {c} {rv:Bool} (h:QjX c=some rv):AFn Tryz.prog 190 [.one (.int .u8 c)] [] (one (.bool rv)) []:=by
 refine QaQ Tryz.func190 (by kernel_rfl) (by kernel_rfl) (fun Γ=>?_)
 unfold QjX at h
 obtain rfl:=Option.some.inj h
 exact gr 4 [] [hP,hP,hP,oI ((geI c 48)=true),oR True ((geI c 48)=true)]
theorem Qjt {c} {rv:Bool} (h:Qmn c=some rv):AFn Tryz.prog 191 [.one (.int .u8 c)] [] (one (.bool rv)) []:=by
 refine QaQ Tryz.func191 (by kernel_rfl) (by kernel_rfl) (fun Γ=>?_)
 unfold Qmn at h
 obtain rfl:=Option.some.inj h
 exact gr 4 [] [rp 14 hP,oI ((geI c 97)=true),oR True ((geI c 97)=true),rp 2 (oI (((geI c 97)&&(leI c 122))=false)),oI ((((geI c 97)&&(leI c 122))=false)∧(geI c 65)=true),oI (((geI c 97)&&(leI c 122))=false),oI ((((geI c 97)&&(leI c 122))=false)∧(geI c 65)=true),oR True (((geI c 97)&&(leI c 122))=false),oI ((((geI c 97)&&(leI c 122))||((geI c 65)&&(leI c 90)))=false),oR True ((((geI c 97)&&(leI c 122))||((geI c 65)&&(leI c 90)))=false)]
def QqQ (Γ:Gam) (rv:Bool) (cf:Cf):Prop:=Go Tryz.prog Tryz.f157 [] Γ (one (.bool rv)) [] cf
def QnJ (Γ:Gam) (rv:Bool) (s0:ByteArray) (b:UInt8) (i:Int):Prop:=QqQ Γ rv ⟨[.c 116,.l 116,.b 0,.c 15],⟨35,[vS 0 s0,vI 3 i],[]⟩⟩
def QmG (Γ:Gam) (rv:Bool) (s0:ByteArray) (b:UInt8):Prop:=QqQ Γ rv ⟨[.c 15],⟨35,[],[]⟩⟩
theorem QsQ (Γ:Gam) (rv:Bool) {s0 b} {s:Int} {e:(Unit)⊕(Bool)} (h:QaW (fun s=>QfI s0 b s) s=some e) (hD:sel e (fun e=>QmG Γ rv s0 b) (fun e=>e=rv)):QnJ Γ rv s0 b s:=by
 refine QaA (C:=fun (s:Int)=>QnJ Γ rv s0 b s) (D:=fun (e:(Unit)⊕(Bool))=>sel e (fun e=>QmG Γ rv s0 b) (fun e=>e=rv)) ?_ h hD
 clear h hD s e
 intro i z_ h hI hE
 replace h:QfI s0 b i=_:=h
 unfold QfI at h
 rcases Qah h with ⟨h4,h⟩|⟨h4,h⟩
 ·obtain ⟨b1,h5,h⟩:=Qae h
  obtain ⟨r1,h6,h⟩:=Qae h
  rcases Qah h with ⟨h7,h⟩|⟨h7,h⟩
  ·exact gn 14 [0,3] [] [bT h4,yE h5,cC (Qjt h6),rp 6 (nF h7),fF] (hI _ (oJ h))
  ·obtain ⟨r2,h8,h⟩:=Qae h
   rcases Qah h with ⟨h9,h⟩|⟨h9,h⟩
   ·exact gn 14 [0,3] [] [bT h4,yE h5,cC (Qjt h6),rp 3 (nT h7),yE h5,nT h7,cC (QhZ h8),nT h7,nT h7,nF h9] (hI _ (oJ h))
   ·obtain rfl:=(hE _ (oJ h):_=rv)
    exact gr 12 [] [bT h4,yE h5,cC (Qjt h6),rp 3 (nT h7),yE h5,nT h7,cC (QhZ h8),nT h7,nT h7,nT h9]
 ·exact gn 5 [] [] [bF h4] (hE _ (oJ h))
theorem QfJ {s0} {rv:Bool} (h:QgK s0=some rv):AFn Tryz.prog 157 [.one (.str s0)] [] (one (.bool rv)) []:=by
 refine QaQ Tryz.func157 (by kernel_rfl) (by kernel_rfl) (fun Γ=>?_)
 unfold QgK at h
 rcases Qah h with ⟨h0,h⟩|⟨h0,h⟩
 ·obtain rfl:=Option.some.inj h
  exact gr 8 [] [rp 4 hP,rp 2 (oI ((ltI (QBi s0) 1)=false)),oR True ((ltI (QBi s0) 1)=false),rp 4 (bT h0),tT]
 ·obtain ⟨b,h1,h⟩:=Qae h
  obtain ⟨r,h2,h⟩:=Qae h
  rcases Qah h with ⟨h3,h⟩|⟨h3,h⟩
  ·obtain rfl:=Option.some.inj h
   exact gr 8 [] [rp 4 hP,rp 2 (oI ((ltI (QBi s0) 1)=false)),oR True ((ltI (QBi s0) 1)=false),bF h0,bF h0,yE h1,bF h0,cC (QhZ h2),bF h0,bT h3]
  ·obtain ⟨e0,h10,h⟩:=Qae h
   refine gn 12 [0,3] [] [rp 4 hP,rp 2 (oI ((ltI (QBi s0) 1)=false)),oR True ((ltI (QBi s0) 1)=false),bF h0,bF h0,yE h1,bF h0,cC (QhZ h2),bF h0,bF h3] (QsQ Γ rv h10 ?_)
   rcases e0 with e0|e0
   ·replace h:(some true:Option Bool)=some _:=h
    obtain rfl:=Option.some.inj h
    exact gr 2 [] []
   ·obtain ⟨r3,rfl⟩:∃ x,x=e0:=⟨_,rfl⟩
    replace h:(some r3:Option Bool)=some _:=h
    exact Option.some.inj h
def QiB (Γ:Gam) (rv:List Qab) (cf:Cf):Prop:=Go Tryz.prog Tryz.f158 [] Γ (one (lL 2 rv Qab.enc)) [] cf
def QiV (Γ:Gam) (rv:List Qab) (l:List Qan) (l2:List Qab) (i:Int):Prop:=QiB Γ rv ⟨[.c 244,.l 244,.b 0,.c 31],⟨88,[vL 0 2 l Qan.enc,vO 3 0 2 l2 Qab.enc,vI 4 i],[oS 2 151 l2 Qab.enc]⟩⟩
def Qig (Γ:Gam) (rv:List Qab) (l:List Qan) (l4:List Qab):Prop:=QiB Γ rv ⟨[.c 31],⟨88,[vO 3 0 2 l4 Qab.enc],[oS 2 151 l4 Qab.enc]⟩⟩
theorem Qlj (Γ:Gam) (rv:List Qab) {l i x0 l3} {x:(List Qab×Int)⊕(List Qab)} (h:Qe4 l i x0 l3=some x) (hI:∀ s:List Qab×Int,x=.inl s→QiV Γ rv l s.1 s.2) (hE:∀ e:List Qab,x=.inr e→Qig Γ rv l e):QiB Γ rv ⟨[.c 7827,.b 1,.c 979,.l 244,.b 0,.c 31],⟨88,[vL 0 2 l Qan.enc,vO 3 0 2 l3 Qab.enc,vI 4 i,vP 5 1 2],[oS 2 151 l3 Qab.enc,oX 2 117 (Qan.enc x0)]⟩⟩:=by
 unfold Qe4 at h
 rcases Qah h with ⟨h7,h⟩|⟨h7,h⟩
 ·obtain ⟨x1,h8,h⟩:=Qae h
  rcases Qah h with ⟨h9,h⟩|⟨h9,h⟩
  ·obtain ⟨r1,h10,h⟩:=Qae h
   obtain ⟨h11,h⟩:=Qau h
   exact gn 7 [0,3,4] [3] [hH (.draw 24 []),rp 6 (bT h7),cE Qan.enc h8,rp 4 (bT h7),rp 9 (bT h9),bT h7,bT h9,bT h7,tT,cC (Qcc h10),oO (Eq.refl ([(Qab.mk 13 r1)].map Qab.enc).length),aO Qab.enc h11] (hI _ (oJ h))
  ·rcases Qah h with ⟨h12,h⟩|⟨h12,h⟩
   ·obtain ⟨r2,h13,h⟩:=Qae h
    obtain ⟨h14,h⟩:=Qau h
    exact gn 7 [0,3,4] [3] [hH (.draw 24 []),rp 6 (bT h7),cE Qan.enc h8,rp 4 (bT h7),rp 6 (bF h9),cE Qan.enc h8,rp 3 (bF h9),bT h7,bF h9,bT h7,bT h12,cC (Qcc h13),oO (Eq.refl ([(Qab.mk 13 r2)].map Qab.enc).length),aO Qab.enc h14] (hI _ (oJ h))
   ·exact gn 7 [0,3,4] [0] [hH (.draw 24 []),rp 6 (bT h7),cE Qan.enc h8,rp 4 (bT h7),rp 6 (bF h9),cE Qan.enc h8,rp 3 (bF h9),bT h7,bF h9,bT h7,bF h12] (hI _ (oJ h))
 ·exact gn 7 [0,3,4] [0] [hH (.draw 24 []),rp 10 (bF h7),rp 9 kF,bF h7,bF h7,fF] (hI _ (oJ h))
theorem QrP (Γ:Gam) (rv:List Qab) {l} {s:List Qab×Int} {e:List Qab} (h:QaW (fun s=>Qd2 l s.1 s.2) s=some e) (hD:Qig Γ rv l e):QiV Γ rv l s.1 s.2:=by
 refine QaA (C:=fun (s:List Qab×Int)=>QiV Γ rv l s.1 s.2) (D:=fun (e:List Qab)=>Qig Γ rv l e) ?_ h hD
 clear h hD s e
 rintro ⟨l2,i⟩ z_ h hI hE
 replace h:Qd2 l l2 i=_:=h
 unfold Qd2 at h
 rcases Qah h with ⟨h2,h⟩|⟨h2,h⟩
 ·obtain ⟨x0,h3,h⟩:=Qae h
  rcases Qah h with ⟨h4,h⟩|⟨h4,h⟩
  ·obtain ⟨r,h5,h⟩:=Qae h
   obtain ⟨h6,h⟩:=Qau h
   exact gn 14 [0,3,4,5] [3,1] [nL Qan.enc l,bT h2,cE Qan.enc h3,rp 17 hP,rp 2 (oI ((ltI x0.t 0)=false)),oR True ((ltI x0.t 0)=false),rp 4 (oI (((ltI x0.t 0)||(gtI x0.t 4096))=false)),oR True (((ltI x0.t 0)||(gtI x0.t 4096))=false),rp 5 (oI ((((ltI x0.t 0)||(gtI x0.t 4096))||(ltI x0.a x0.t))=false)),oR True ((((ltI x0.t 0)||(gtI x0.t 4096))||(ltI x0.a x0.t))=false),bT h4,cC (Qcc h5),oO (Eq.refl ([(Qab.mk 2 r)].map Qab.enc).length),aO Qab.enc h6] (Qlj Γ rv h hI hE)
  ·exact gn 14 [0,3,4,5] [0,1] [nL Qan.enc l,bT h2,cE Qan.enc h3,rp 17 hP,rp 2 (oI ((ltI x0.t 0)=false)),oR True ((ltI x0.t 0)=false),rp 4 (oI (((ltI x0.t 0)||(gtI x0.t 4096))=false)),oR True (((ltI x0.t 0)||(gtI x0.t 4096))=false),rp 5 (oI ((((ltI x0.t 0)||(gtI x0.t 4096))||(ltI x0.a x0.t))=false)),oR True ((((ltI x0.t 0)||(gtI x0.t 4096))||(ltI x0.a x0.t))=false),bF h4] (Qlj Γ rv h hI hE)
 ·exact gn 5 [3] [0] [nL Qan.enc l,bF h2] (hE _ (oJ h))
theorem Qli (Γ:Gam) (rv:List Qab) {l l1} (h:Qgn l l1=some rv):QiB Γ rv ⟨[.c 15],⟨88,[vL 0 2 l Qan.enc,vO 3 0 2 l1 Qab.enc],[oS 2 151 l1 Qab.enc]⟩⟩:=by
 unfold Qgn at h
 obtain ⟨e0,h15,h⟩:=Qae h
 refine gn 5 [0,3,4] [0] [] (QrP Γ rv h15 ?_)
 obtain ⟨l4,rfl⟩:∃ x,x=e0:=⟨_,rfl⟩
 replace h:(some l4:Option (List Qab))=some _:=h
 obtain rfl:=Option.some.inj h
 exact gr 2 [] [hW 4,hH (.frz 0),rp 3 (eL l4 Qab.enc)]
theorem QjZ {l} {rv:List Qab} (h:QfW l=some rv):AFn Tryz.prog 158 [.one (lL 2 l Qan.enc)] [] (one (lL 2 rv Qab.enc)) []:=by
 refine QaQ Tryz.func158 (by kernel_rfl) (by kernel_rfl) (fun Γ=>?_)
 unfold QfW at h
 rcases Qah h with ⟨h0,h⟩|⟨h0,h⟩
 ·obtain ⟨h1,h⟩:=Qau h
  exact gn 9 [0,3] [1] [nL Qan.enc l,hP,hP,oI ((ltI (lenI l) 1)=false),nL Qan.enc l,hP,hP,oI ((ltI (lenI l) 1)=false),oR True ((ltI (lenI l) 1)=false),bT h0,oO (Eq.refl ([(Qab.mk 4 ByteArray.empty)].map Qab.enc).length),aN (l:=([(Qab.mk 4 ByteArray.empty)]:List Qab)) Qab.enc h1] (Qli Γ rv h)
 ·exact gn 9 [0,3] [0] [nL Qan.enc l,hP,hP,oI ((ltI (lenI l) 1)=false),nL Qan.enc l,hP,hP,oI ((ltI (lenI l) 1)=false),oR True ((ltI (lenI l) 1)=false),bF h0,hW 1,hH (.adopt 3 2 151)] (Qli Γ rv h)
theorem Qdi {t} {rv:Bool} (h:QhJ t=some rv):AFn Tryz.prog 159 [.one (lI t)] [] (one (.bool rv)) []:=by
 refine QaQ Tryz.func159 (by kernel_rfl) (by kernel_rfl) (fun Γ=>?_)
 unfold QhJ at h
 obtain rfl:=Option.some.inj h
 exact gr 4 [] [hP,hP,hP,oI ((geI t 0)=true),oR True ((geI t 0)=true)]
def QbV (Γ:Gam) (rv:List Qab) (cf:Cf):Prop:=Go Tryz.prog Tryz.f110 [] Γ (one (lL 2 rv Qab.enc)) [] cf
def Qj0 (Γ:Gam) (rv:List Qab) (n:Qal) (i:Int) (r:ByteArray) (x0:Qas) (l:List Qab) (l1:List Qab) (twice:Bool) (k:Int):Prop:=QbV Γ rv ⟨[.c 4084,.l 4084,.b 0,.c 511],⟨192,[vI 1 i,vP 2 0 2,vO 5 1 2 l1 Qab.enc,vS 6 (catS Qa2 r),vP 7 2 6,vB 8 twice,vI 9 k],[oX 2 25 (Qal.enc n),oS 2 151 l1 Qab.enc,oX 6 120 (Qas.enc x0)]⟩⟩
def QjH (Γ:Gam) (rv:List Qab) (n:Qal) (i:Int) (r:ByteArray) (x0:Qas) (l:List Qab) (l1:List Qab) (twice1:Bool):Prop:=QbV Γ rv ⟨[.c 511],⟨192,[vO 5 0 2 l1 Qab.enc,vS 6 (catS Qa2 r),vP 7 1 6,vB 8 twice1],[oS 2 151 l1 Qab.enc,oX 6 120 (Qas.enc x0)]⟩⟩
def Qj1 (Γ:Gam) (rv:List Qab) (r:ByteArray) (x0:Qas) (l:List Qab) (r1:List Qab) (l3:List Qab) (k1:Int):Prop:=QbV Γ rv ⟨[.c 32756,.l 32756,.b 2,.c 4095],⟨192,[vO 5 0 2 l3 Qab.enc,vS 6 (catS Qa2 r),vP 7 1 6,vL 11 2 r1 Qab.enc,vI 12 k1],[oS 2 151 l3 Qab.enc,oX 6 120 (Qas.enc x0)]⟩⟩
def QjI (Γ:Gam) (rv:List Qab) (r:ByteArray) (x0:Qas) (l:List Qab) (r1:List Qab) (l4:List Qab):Prop:=QbV Γ rv ⟨[.c 4095],⟨192,[vO 5 0 2 l4 Qab.enc,vS 6 (catS Qa2 r),vP 7 1 6],[oS 2 151 l4 Qab.enc,oX 6 120 (Qas.enc x0)]⟩⟩
def Qj2 (Γ:Gam) (rv:List Qab) (r:ByteArray) (x0:Qas) (l:List Qab) (l6:List Qab) (k2:Int):Prop:=QbV Γ rv ⟨[.c 131060,.l 131060,.b 4,.c 16383],⟨192,[vO 5 0 2 l6 Qab.enc,vS 6 (catS Qa2 r),vP 7 1 6,vI 13 k2],[oS 2 151 l6 Qab.enc,oX 6 120 (Qas.enc x0)]⟩⟩
def QjJ (Γ:Gam) (rv:List Qab) (r:ByteArray) (x0:Qas) (l:List Qab) (l7:List Qab):Prop:=QbV Γ rv ⟨[.c 16383],⟨192,[vO 5 0 2 l7 Qab.enc],[oS 2 151 l7 Qab.enc]⟩⟩
theorem QpU (Γ:Gam) (rv:List Qab) {n i r x0 l l1} {s:Bool×Int} {e:Bool} (h:QaW (fun s=>Qcq n i r x0 l l1 s.1 s.2) s=some e) (hD:QjH Γ rv n i r x0 l l1 e):Qj0 Γ rv n i r x0 l l1 s.1 s.2:=by
 refine QaA (C:=fun (s:Bool×Int)=>Qj0 Γ rv n i r x0 l l1 s.1 s.2) (D:=fun (e:Bool)=>QjH Γ rv n i r x0 l l1 e) ?_ h hD
 clear h hD s e
 rintro ⟨twice,k⟩ z_ h hI hE
 replace h:Qcq n i r x0 l l1 twice k=_:=h
 unfold Qcq at h
 rcases Qah h with ⟨h7,h⟩|⟨h7,h⟩
 ·obtain ⟨x1,h8,h⟩:=Qae h
  exact gn 13 [1,2,5,6,7,8,9] [0,1,2] [bT h7,cE Qas.enc h8,rp 22 hP,rp 5 (oI (twice=false)),rp 4 (oI ((twice=false)∧(eqI x0.from_ x1.from_)=true)),oI (twice=false),oI ((twice=false)∧(eqI x0.from_ x1.from_)=true),oI (twice=false),rp 4 (oI ((twice=false)∧((eqI x0.from_ x1.from_)&&(eqI x0.to_ x1.to_))=true)),oI (twice=false),oI ((twice=false)∧((eqI x0.from_ x1.from_)&&(eqI x0.to_ x1.to_))=true),oR True (twice=false)] (hI _ (oJ h))
 ·exact gn 5 [5,6,7,8] [1,2] [bF h7] (hE _ (oJ h))
theorem QpV (Γ:Gam) (rv:List Qab) {r x0 l r1} {s:List Qab×Int} {e:List Qab} (h:QaW (fun s=>Qcr r x0 l r1 s.1 s.2) s=some e) (hD:QjI Γ rv r x0 l r1 e):Qj1 Γ rv r x0 l r1 s.1 s.2:=by
 refine QaA (C:=fun (s:List Qab×Int)=>Qj1 Γ rv r x0 l r1 s.1 s.2) (D:=fun (e:List Qab)=>QjI Γ rv r x0 l r1 e) ?_ h hD
 clear h hD s e
 rintro ⟨l3,k1⟩ z_ h hI hE
 replace h:Qcr r x0 l r1 l3 k1=_:=h
 unfold Qcr at h
 rcases Qah h with ⟨h13,h⟩|⟨h13,h⟩
 ·obtain ⟨x2,h14,h⟩:=Qae h
  obtain ⟨h15,h⟩:=Qau h
  exact gn 11 [5,6,7,11,12] [3,1] [nL Qab.enc r1,bT h13,cE Qab.enc h14,oO (Eq.refl ([(Qab.mk x2.err (catS Qa2 r))].map Qab.enc).length),aO Qab.enc h15] (hI _ (oJ h))
 ·exact gn 5 [5,6,7] [0,1] [nL Qab.enc r1,bF h13] (hE _ (oJ h))
theorem QpW (Γ:Gam) (rv:List Qab) {r x0 l} {s:List Qab×Int} {e:List Qab} (h:QaW (fun s=>Qcs r x0 l s.1 s.2) s=some e) (hD:QjJ Γ rv r x0 l e):Qj2 Γ rv r x0 l s.1 s.2:=by
 refine QaA (C:=fun (s:List Qab×Int)=>Qj2 Γ rv r x0 l s.1 s.2) (D:=fun (e:List Qab)=>QjJ Γ rv r x0 l e) ?_ h hD
 clear h hD s e
 rintro ⟨l6,k2⟩ z_ h hI hE
 replace h:Qcs r x0 l l6 k2=_:=h
 unfold Qcs at h
 rcases Qah h with ⟨h19,h⟩|⟨h19,h⟩
 ·obtain ⟨x3,h20,h⟩:=Qae h
  obtain ⟨r2,h21,h⟩:=Qae h
  rcases Qah h with ⟨h22,h⟩|⟨h22,h⟩
  ·obtain ⟨r3,h23,h⟩:=Qae h
   rcases Qah h with ⟨h24,h⟩|⟨h24,h⟩
   ·rcases Qah h with ⟨h25,h⟩|⟨h25,h⟩
    ·obtain ⟨x4,h26,h⟩:=Qae h
     rcases Qah h with ⟨h27,h⟩|⟨h27,h⟩
     ·obtain ⟨h28,h⟩:=Qau h
      exact gn 16 [5,6,7,13] [4,1] [nL Qan.enc x0.slow,bT h19,cE Qan.enc h20,hH (.draw 26 []),cC (Qdi h21),rp 3 (nF h22),cC (Qdi h23),rp 2 (nF h22),rp 3 (nF h24),rp 7 (bT h25),cE Qan.enc h26,rp 3 (bT h25),nF h24,bT h25,nF h24,bT h27,oO (Eq.refl ([(Qab.mk 2 (catS Qa2 r))].map Qab.enc).length),aO Qab.enc h28] (hI _ (oJ h))
     ·exact gn 16 [5,6,7,13] [0,1] [nL Qan.enc x0.slow,bT h19,cE Qan.enc h20,hH (.draw 26 []),cC (Qdi h21),rp 3 (nF h22),cC (Qdi h23),rp 2 (nF h22),rp 3 (nF h24),rp 7 (bT h25),cE Qan.enc h26,rp 3 (bT h25),nF h24,bT h25,nF h24,bF h27] (hI _ (oJ h))
    ·exact gn 16 [5,6,7,13] [0,1] [nL Qan.enc x0.slow,bT h19,cE Qan.enc h20,hH (.draw 26 []),cC (Qdi h21),rp 3 (nF h22),cC (Qdi h23),rp 2 (nF h22),rp 3 (nF h24),rp 10 (bF h25),nF h24,bF h25,nF h24,fF] (hI _ (oJ h))
   ·obtain ⟨h29,h⟩:=Qau h
    exact gn 16 [5,6,7,13] [4,1] [nL Qan.enc x0.slow,bT h19,cE Qan.enc h20,hH (.draw 26 []),cC (Qdi h21),rp 3 (nF h22),cC (Qdi h23),rp 2 (nF h22),rp 3 (nT h24),rp 10 kF,rp 2 (nT h24),tT,oO (Eq.refl ([(Qab.mk 2 (catS Qa2 r))].map Qab.enc).length),aO Qab.enc h29] (hI _ (oJ h))
  ·obtain ⟨h30,h⟩:=Qau h
   exact gn 16 [5,6,7,13] [4,1] [nL Qan.enc x0.slow,bT h19,cE Qan.enc h20,hH (.draw 26 []),cC (Qdi h21),rp 5 (nT h22),tT,tT,tT,rp 10 kF,tT,tT,tT,oO (Eq.refl ([(Qab.mk 2 (catS Qa2 r))].map Qab.enc).length),aO Qab.enc h30] (hI _ (oJ h))
 ·exact gn 5 [5] [0] [nL Qan.enc x0.slow,bF h19] (hE _ (oJ h))
theorem QjG (Γ:Gam) (rv:List Qab) {r x0 l l5} (h:Qb2 r x0 l l5=some rv):QbV Γ rv ⟨[.c 8191],⟨192,[vO 5 0 2 l5 Qab.enc,vS 6 (catS Qa2 r),vP 7 1 6],[oS 2 151 l5 Qab.enc,oX 6 120 (Qas.enc x0)]⟩⟩:=by
 unfold Qb2 at h
 obtain ⟨e2,h31,h⟩:=Qae h
 refine gn 5 [5,6,7,13] [0,1] [] (QpW Γ rv h31 ?_)
 obtain ⟨l7,rfl⟩:∃ x,x=e2:=⟨_,rfl⟩
 replace h:(some l7:Option (List Qab))=some _:=h
 obtain rfl:=Option.some.inj h
 exact gr 2 [] [hW 4,hH (.frz 0),rp 3 (eL l7 Qab.enc)]
theorem QjF (Γ:Gam) (rv:List Qab) {r x0 l l2} (h:Qcp r x0 l l2=some rv):QbV Γ rv ⟨[.c 1023],⟨192,[vO 5 0 2 l2 Qab.enc,vS 6 (catS Qa2 r),vP 7 1 6],[oS 2 151 l2 Qab.enc,oX 6 120 (Qas.enc x0)]⟩⟩:=by
 unfold Qcp at h
 obtain ⟨r1,h12,h⟩:=Qae h
 obtain ⟨e1,h16,h⟩:=Qae h
 refine gn 7 [5,6,7,11,12] [0,1] [cC (QjZ h12)] (QpV Γ rv h16 ?_)
 obtain ⟨l4,rfl⟩:∃ x,x=e1:=⟨_,rfl⟩
 replace h:(br (gtI (lenI x0.slow) 16) (chk (okN (l4++[(Qab.mk 4 (catS Qa2 r))]).length 24) (Qb2 r x0 l (l4++[(Qab.mk 4 (catS Qa2 r))]))) (Qb2 r x0 l l4):Option (List Qab))=some _:=h
 rcases Qah h with ⟨h17,h⟩|⟨h17,h⟩
 ·obtain ⟨h18,h⟩:=Qau h
  exact gn 5 [5,6,7] [3,1] [nL Qan.enc x0.slow,bT h17,oO (Eq.refl ([(Qab.mk 4 (catS Qa2 r))].map Qab.enc).length),aO Qab.enc h18] (QjG Γ rv h)
 ·exact gn 5 [5,6,7] [0,1] [nL Qan.enc x0.slow,bF h17] (QjG Γ rv h)
theorem QjE (Γ:Gam) (rv:List Qab) {n i r x0 l l1} (h:QdT n i r x0 l l1=some rv):QbV Γ rv ⟨[.c 127],⟨192,[vI 1 i,vP 2 0 2,vO 5 1 2 l1 Qab.enc,vS 6 (catS Qa2 r),vP 7 2 6],[oX 2 25 (Qal.enc n),oS 2 151 l1 Qab.enc,oX 6 120 (Qas.enc x0)]⟩⟩:=by
 unfold QdT at h
 obtain ⟨e0,h9,h⟩:=Qae h
 refine gn 7 [1,2,5,6,7,8,9] [0,1,2] [] (QpU Γ rv h9 ?_)
 obtain ⟨twice1,rfl⟩:∃ x,x=e0:=⟨_,rfl⟩
 replace h:(br twice1 (chk (okN (l1++[(Qab.mk 6 (catS Qa2 r))]).length 24) (Qcp r x0 l (l1++[(Qab.mk 6 (catS Qa2 r))]))) (Qcp r x0 l l1):Option (List Qab))=some _:=h
 rcases Qah h with ⟨h10,h⟩|⟨h10,h⟩
 ·obtain ⟨h11,h⟩:=Qau h
  exact gn 5 [5,6,7] [3,1] [bT h10,oO (Eq.refl ([(Qab.mk 6 (catS Qa2 r))].map Qab.enc).length),aO Qab.enc h11] (QjF Γ rv h)
 ·exact gn 5 [5,6,7] [0,1] [bF h10] (QjF Γ rv h)
theorem QjD (Γ:Gam) (rv:List Qab) {n i r x0 l} (h:QdS n i r x0 l=some rv):QbV Γ rv ⟨[.c 63],⟨192,[vI 1 i,vP 2 0 2,vO 5 1 2 l Qab.enc,vS 6 (catS Qa2 r),vP 7 2 6],[oX 2 25 (Qal.enc n),oS 2 151 l Qab.enc,oX 6 120 (Qas.enc x0)]⟩⟩:=by
 unfold QdS at h
 rcases Qah h with ⟨h5,h⟩|⟨h5,h⟩
 ·obtain ⟨h6,h⟩:=Qau h
  exact gn 5 [1,2,5,6,7] [0,4,2] [rp 18 hP,rp 2 (oI ((ltI x0.profile 0)=false)),oR True ((ltI x0.profile 0)=false),rp 2 (oI (((ltI x0.profile 0)||(gtI x0.profile 7))=false)),oR True (((ltI x0.profile 0)||(gtI x0.profile 7))=false),rp 2 (oI ((((ltI x0.profile 0)||(gtI x0.profile 7))||(ltI x0.miles 0))=false)),oR True ((((ltI x0.profile 0)||(gtI x0.profile 7))||(ltI x0.miles 0))=false),rp 4 (oI (((((ltI x0.profile 0)||(gtI x0.profile 7))||(ltI x0.miles 0))||(gtI x0.miles 10000))=false)),oR True (((((ltI x0.profile 0)||(gtI x0.profile 7))||(ltI x0.miles 0))||(gtI x0.miles 10000))=false),bT h5,oO (Eq.refl ([(Qab.mk 2 (catS Qa2 r))].map Qab.enc).length),aO Qab.enc h6] (QjE Γ rv h)
 ·exact gn 5 [1,2,5,6,7] [0,1,2] [rp 18 hP,rp 2 (oI ((ltI x0.profile 0)=false)),oR True ((ltI x0.profile 0)=false),rp 2 (oI (((ltI x0.profile 0)||(gtI x0.profile 7))=false)),oR True (((ltI x0.profile 0)||(gtI x0.profile 7))=false),rp 2 (oI ((((ltI x0.profile 0)||(gtI x0.profile 7))||(ltI x0.miles 0))=false)),oR True ((((ltI x0.profile 0)||(gtI x0.profile 7))||(ltI x0.miles 0))=false),rp 4 (oI (((((ltI x0.profile 0)||(gtI x0.profile 7))||(ltI x0.miles 0))||(gtI x0.miles 10000))=false)),oR True (((((ltI x0.profile 0)||(gtI x0.profile 7))||(ltI x0.miles 0))||(gtI x0.miles 10000))=false),bF h5] (QjE Γ rv h)
theorem QrR {n i} {rv:List Qab} (h:Qgp n i=some rv):AFn Tryz.prog 110 [.agg (Qal.enc n),.one (lI i)] [] (one (lL 2 rv Qab.enc)) []:=by
 refine QaQ Tryz.func110 (by kernel_rfl) (by kernel_rfl) (fun Γ=>?_)
 unfold Qgp at h
 obtain ⟨r,h0,h⟩:=Qae h
 obtain ⟨h1,h⟩:=Qau h
 obtain ⟨x0,h2,h⟩:=Qae h
 rcases Qah h with ⟨h3,h⟩|⟨h3,h⟩
 ·obtain ⟨h4,h⟩:=Qau h
  exact gn 13 [1,2,5,6,7] [0,3,1] [cC (Qcc h0),oO (h1),cE Qas.enc h2,rp 5 hP,rp 3 (oI ((ltI x0.from_ 0)=false)),nL QmE n.places,rp 11 hP,rp 2 (oI ((ltI x0.from_ 0)=false)),oR True ((ltI x0.from_ 0)=false),rp 2 (oI (((ltI x0.from_ 0)||(geI x0.from_ (lenI n.places)))=false)),oR True (((ltI x0.from_ 0)||(geI x0.from_ (lenI n.places)))=false),rp 3 (oI ((((ltI x0.from_ 0)||(geI x0.from_ (lenI n.places)))||(ltI x0.to_ 0))=false)),nL QmE n.places,hP,hP,rp 2 (oI ((((ltI x0.from_ 0)||(geI x0.from_ (lenI n.places)))||(ltI x0.to_ 0))=false)),oR True ((((ltI x0.from_ 0)||(geI x0.from_ (lenI n.places)))||(ltI x0.to_ 0))=false),bT h3,oO (Eq.refl ([(Qab.mk 11 (catS Qa2 r))].map Qab.enc).length),aN (l:=([(Qab.mk 11 (catS Qa2 r))]:List Qab)) Qab.enc h4] (QjD Γ rv h)
 ·exact gn 13 [1,2,5,6,7] [0,2,1] [cC (Qcc h0),oO (h1),cE Qas.enc h2,rp 5 hP,rp 3 (oI ((ltI x0.from_ 0)=false)),nL QmE n.places,rp 11 hP,rp 2 (oI ((ltI x0.from_ 0)=false)),oR True ((ltI x0.from_ 0)=false),rp 2 (oI (((ltI x0.from_ 0)||(geI x0.from_ (lenI n.places)))=false)),oR True (((ltI x0.from_ 0)||(geI x0.from_ (lenI n.places)))=false),rp 3 (oI ((((ltI x0.from_ 0)||(geI x0.from_ (lenI n.places)))||(ltI x0.to_ 0))=false)),nL QmE n.places,hP,hP,rp 2 (oI ((((ltI x0.from_ 0)||(geI x0.from_ (lenI n.places)))||(ltI x0.to_ 0))=false)),oR True ((((ltI x0.from_ 0)||(geI x0.from_ (lenI n.places)))||(ltI x0.to_ 0))=false),bF h3,hW 1,hH (.adopt 5 2 151)] (QjD Γ rv h)
def QcZ (Γ:Gam) (rv:List Qab) (cf:Cf):Prop:=Go Tryz.prog Tryz.f109 [] Γ (one (lO 0 2 rv Qab.enc)) [oS 2 151 rv Qab.enc] cf
def Qhg (Γ:Gam) (rv:List Qab) (n:Qal) (l:List Qab) (l1:List Qab) (i:Int) (r:ByteArray) (twice:Bool) (k:Int):Prop:=QcZ Γ rv ⟨[.c 250484,.l 250484,.b 2,.c 31311,.b 1,.c 979,.l 244,.b 0,.c 31],⟨64,[vP 1 0 2,vO 3 1 2 l1 Qab.enc,vI 4 i,vS 5 (catS Qeh r),vB 6 twice,vI 7 k],[oX 2 25 (Qal.enc n),oS 2 151 l1 Qab.enc]⟩⟩
def Qg2 (Γ:Gam) (rv:List Qab) (n:Qal) (l:List Qab) (l1:List Qab) (i:Int) (r:ByteArray) (twice1:Bool):Prop:=QcZ Γ rv ⟨[.c 31311,.b 1,.c 979,.l 244,.b 0,.c 31],⟨64,[vP 1 0 2,vO 3 1 2 l1 Qab.enc,vI 4 i,vS 5 (catS Qeh r),vB 6 twice1],[oX 2 25 (Qal.enc n),oS 2 151 l1 Qab.enc]⟩⟩
def Qhf (Γ:Gam) (rv:List Qab) (n:Qal) (l:List Qab) (l1:List Qab) (i:Int):Prop:=QcZ Γ rv ⟨[.c 244,.l 244,.b 0,.c 31],⟨64,[vP 1 0 2,vO 3 1 2 l1 Qab.enc,vI 4 i],[oX 2 25 (Qal.enc n),oS 2 151 l1 Qab.enc]⟩⟩
def Qg1 (Γ:Gam) (rv:List Qab) (n:Qal) (l:List Qab) (l2:List Qab):Prop:=QcZ Γ rv ⟨[.c 31],⟨64,[vO 3 0 2 l2 Qab.enc],[oS 2 151 l2 Qab.enc]⟩⟩
theorem QkY (Γ:Gam) (rv:List Qab) {n l l1 i r} {s:Bool×Int} {e:Bool} (h:QaW (fun s=>Qbt n l l1 i r s.1 s.2) s=some e) (hD:Qg2 Γ rv n l l1 i r e):Qhg Γ rv n l l1 i r s.1 s.2:=by
 refine QaA (C:=fun (s:Bool×Int)=>Qhg Γ rv n l l1 i r s.1 s.2) (D:=fun (e:Bool)=>Qg2 Γ rv n l l1 i r e) ?_ h hD
 clear h hD s e
 rintro ⟨twice,k⟩ z_ h hI hE
 replace h:Qbt n l l1 i r twice k=_:=h
 unfold Qbt at h
 rcases Qah h with ⟨h8,h⟩|⟨h8,h⟩
 ·rcases Qah h with ⟨h9,h⟩|⟨h9,h⟩
  ·exact gn 11 [1,3,4,5,6,7] [0,1] [bT h8,hH (.draw 14 []),rp 12 (bT h9)] (hI _ (oJ h))
  ·obtain ⟨x1,h10,h⟩:=Qae h
   obtain ⟨x2,h11,h⟩:=Qae h
   exact gn 11 [1,3,4,5,6,7] [0,1] [bT h8,hH (.draw 14 []),rp 4 (bF h9),cE QmE h10,rp 5 (bF h9),cE QmE h11,rp 3 (bF h9)] (hI _ (oJ h))
 ·exact gn 5 [1,3,4,5,6] [0,1] [bF h8] (hE _ (oJ h))
theorem QkX (Γ:Gam) (rv:List Qab) {n l} {s:List Qab×Int} {e:List Qab} (h:QaW (fun s=>Qbs n l s.1 s.2) s=some e) (hD:Qg1 Γ rv n l e):Qhf Γ rv n l s.1 s.2:=by
 refine QaA (C:=fun (s:List Qab×Int)=>Qhf Γ rv n l s.1 s.2) (D:=fun (e:List Qab)=>Qg1 Γ rv n l e) ?_ h hD
 clear h hD s e
 rintro ⟨l1,i⟩ z_ h hI hE
 replace h:Qbs n l l1 i=_:=h
 unfold Qbs at h
 rcases Qah h with ⟨h2,h⟩|⟨h2,h⟩
 ·obtain ⟨r,h3,h⟩:=Qae h
  obtain ⟨h4,h⟩:=Qau h
  obtain ⟨x0,h5,h⟩:=Qae h
  obtain ⟨r1,h6,h⟩:=Qae h
  rcases Qah h with ⟨h7,h⟩|⟨h7,h⟩
  ·obtain ⟨e0,h12,h⟩:=Qae h
   refine gn 21 [1,3,4,5,6,7] [0,1] [nL QmE n.places,bT h2,cC (Qcc h3),oO (h4),cE QmE h5,cC (QfJ h6),nF h7] (QkY Γ rv h12 ?_)
   obtain ⟨twice1,rfl⟩:∃ x,x=e0:=⟨_,rfl⟩
   replace h:(br twice1 (chk (okN (l1++[(Qab.mk 6 (catS Qeh r))]).length 24) (some (.inl ((l1++[(Qab.mk 6 (catS Qeh r))]),(addK .i64 i 1))))) (some (.inl (l1,(addK .i64 i 1)))):Option ((List Qab×Int)⊕(List Qab)))=some _:=h
   rcases Qah h with ⟨h13,h⟩|⟨h13,h⟩
   ·obtain ⟨h14,h⟩:=Qau h
    exact gn 7 [1,3,4] [0,3] [bT h13,oO (Eq.refl ([(Qab.mk 6 (catS Qeh r))].map Qab.enc).length),aO Qab.enc h14] (hI _ (oJ h))
   ·exact gn 7 [1,3,4] [0,1] [bF h13] (hI _ (oJ h))
  ·obtain ⟨h15,h⟩:=Qau h
   exact gn 18 [1,3,4] [0,3] [nL QmE n.places,bT h2,cC (Qcc h3),oO (h4),cE QmE h5,cC (QfJ h6),nT h7,oO (Eq.refl ([(Qab.mk 5 (catS Qeh r))].map Qab.enc).length),aO Qab.enc h15] (hI _ (oJ h))
 ·exact gn 5 [3] [1] [nL QmE n.places,bF h2] (hE _ (oJ h))
theorem Qg0 (Γ:Gam) (rv:List Qab) {n l} (h:QcL n l=some rv):QcZ Γ rv ⟨[.c 15],⟨64,[vP 1 0 2,vO 3 1 2 l Qab.enc],[oX 2 25 (Qal.enc n),oS 2 151 l Qab.enc]⟩⟩:=by
 unfold QcL at h
 obtain ⟨e1,h16,h⟩:=Qae h
 refine gn 5 [1,3,4] [0,1] [] (QkX Γ rv h16 ?_)
 obtain ⟨l2,rfl⟩:∃ x,x=e1:=⟨_,rfl⟩
 replace h:(some l2:Option (List Qab))=some _:=h
 obtain rfl:=Option.some.inj h
 exact gr 2 [0] []
theorem Qh0 {n} {rv:List Qab} (h:QdG n=some rv):AFn Tryz.prog 109 [.agg (Qal.enc n)] [] (one (lO 0 2 rv Qab.enc)) [oS 2 151 rv Qab.enc]:=by
 refine QaQ Tryz.func109 (by kernel_rfl) (by kernel_rfl) (fun Γ=>?_)
 unfold QdG at h
 rcases Qah h with ⟨h0,h⟩|⟨h0,h⟩
 ·obtain ⟨h1,h⟩:=Qau h
  exact gn 9 [1,3] [0,2] [nL QmE n.places,bT h0,oO (Eq.refl ([(Qab.mk 4 Qmf)].map Qab.enc).length),aN (l:=([(Qab.mk 4 Qmf)]:List Qab)) Qab.enc h1] (Qg0 Γ rv h)
 ·exact gn 9 [1,3] [0,1] [nL QmE n.places,bF h0,hW 1,hH (.adopt 3 2 151)] (Qg0 Γ rv h)
def QkW (Γ:Gam) (rv:List Qab) (cf:Cf):Prop:=Go Tryz.prog Tryz.f72 [] Γ (one (lL 2 rv Qab.enc)) [] cf
def QmK (Γ:Gam) (rv:List Qab) (n:Qal) (l:List Qab) (l1:List Qab) (i:Int):Prop:=QkW Γ rv ⟨[.c 244,.l 244,.b 0,.c 31],⟨28,[vP 1 0 2,vO 3 1 2 l1 Qab.enc,vI 4 i],[oX 2 25 (Qal.enc n),oS 2 151 l1 Qab.enc]⟩⟩
def Qlm (Γ:Gam) (rv:List Qab) (n:Qal) (l:List Qab) (l2:List Qab):Prop:=QkW Γ rv ⟨[.c 31],⟨28,[vO 3 0 2 l2 Qab.enc],[oS 2 151 l2 Qab.enc]⟩⟩
theorem QrQ (Γ:Gam) (rv:List Qab) {n l} {s:List Qab×Int} {e:List Qab} (h:QaW (fun s=>Qdv n l s.1 s.2) s=some e) (hD:Qlm Γ rv n l e):QmK Γ rv n l s.1 s.2:=by
 refine QaA (C:=fun (s:List Qab×Int)=>QmK Γ rv n l s.1 s.2) (D:=fun (e:List Qab)=>Qlm Γ rv n l e) ?_ h hD
 clear h hD s e
 rintro ⟨l1,i⟩ z_ h hI hE
 replace h:Qdv n l l1 i=_:=h
 unfold Qdv at h
 rcases Qah h with ⟨h3,h⟩|⟨h3,h⟩
 ·obtain ⟨r1,h4,h⟩:=Qae h
  obtain ⟨h5,h⟩:=Qau h
  exact gn 11 [1,3,4] [0,2] [nL Qas.enc n.arcs,bT h3,cC (QrR h4),aO Qab.enc h5] (hI _ (oJ h))
 ·exact gn 5 [3] [1] [nL Qas.enc n.arcs,bF h3] (hE _ (oJ h))
theorem Qll (Γ:Gam) (rv:List Qab) {n l} (h:Qgo n l=some rv):QkW Γ rv ⟨[.c 15],⟨28,[vP 1 0 2,vO 3 1 2 l Qab.enc],[oX 2 25 (Qal.enc n),oS 2 151 l Qab.enc]⟩⟩:=by
 unfold Qgo at h
 obtain ⟨e0,h6,h⟩:=Qae h
 refine gn 5 [1,3,4] [0,1] [] (QrQ Γ rv h6 ?_)
 obtain ⟨l2,rfl⟩:∃ x,x=e0:=⟨_,rfl⟩
 replace h:(some l2:Option (List Qab))=some _:=h
 obtain rfl:=Option.some.inj h
 exact gr 2 [] [hW 4,hH (.frz 0),rp 3 (eL l2 Qab.enc)]
theorem Qt9 {n} {rv:List Qab} (h:Qih n=some rv):AFn Tryz.prog 72 [.agg (Qal.enc n)] [] (one (lL 2 rv Qab.enc)) []:=by
 refine QaQ Tryz.func72 (by kernel_rfl) (by kernel_rfl) (fun Γ=>?_)
 unfold Qih at h
 obtain ⟨r,h0,h⟩:=Qae h
 rcases Qah h with ⟨h1,h⟩|⟨h1,h⟩
 ·obtain ⟨h2,h⟩:=Qau h
  exact gn 9 [1,3] [0,3] [cC (Qh0 h0),nL Qas.enc n.arcs,bT h1,oO (Eq.refl ([(Qab.mk 4 QsI)].map Qab.enc).length),aO Qab.enc h2] (Qll Γ rv h)
 ·exact gn 9 [1,3] [0,1] [cC (Qh0 h0),nL Qas.enc n.arcs,bF h1] (Qll Γ rv h)
theorem Qam {n lo hi} {rv:Bool} (h:Qa1 n lo hi=some rv):AFn Tryz.prog 111 [.one (lI n),.one (lI lo),.one (lI hi)] [] (one (.bool rv)) []:=by
 refine QaQ Tryz.func111 (by kernel_rfl) (by kernel_rfl) (fun Γ=>?_)
 unfold Qa1 at h
 obtain rfl:=Option.some.inj h
 exact gr 4 [] [rp 4 hP,rp 2 (oI ((geI n lo)=true)),oR True ((geI n lo)=true)]
theorem Qg4 {l} {rv:Int} (h:QgL l=some rv):AFn Tryz.prog 75 [.one (lL 14 l Qak.enc)] [] (one (lI rv)) []:=by
 refine QaQ Tryz.func75 (by kernel_rfl) (by kernel_rfl) (fun Γ=>?_)
 unfold QgL at h
 rcases Qah h with ⟨h0,h⟩|⟨h0,h⟩
 ·obtain rfl:=Option.some.inj h
  exact gr 8 [] [nL Qak.enc l,bT h0]
 ·obtain ⟨x0,h1,h⟩:=Qae h
  obtain rfl:=Option.some.inj h
  exact gr 9 [] [nL Qak.enc l,bF h0,cE Qak.enc h1,nL QaM x0.cap]
def QpZ (Γ:Gam) (rv:Bool) (cf:Cf):Prop:=Go Tryz.prog Tryz.f160 [] Γ (one (.bool rv)) [] cf
def QmQ (Γ:Gam) (rv:Bool) (l:List Qak) (at_:Int) (name:ByteArray) (i:Int):Prop:=QpZ Γ rv ⟨[.c 52,.l 52,.b 0,.c 7],⟨20,[vL 0 14 l Qak.enc,vI 1 at_,vS 2 name,vI 7 i],[]⟩⟩
def Qlq (Γ:Gam) (rv:Bool) (l:List Qak) (at_:Int) (name:ByteArray):Prop:=QpZ Γ rv ⟨[.c 7],⟨20,[],[]⟩⟩
theorem QrU (Γ:Gam) (rv:Bool) {l at_ name} {s:Int} {e:(Unit)⊕(Bool)} (h:QaW (fun s=>QcM l at_ name s) s=some e) (hD:sel e (fun e=>Qlq Γ rv l at_ name) (fun e=>e=rv)):QmQ Γ rv l at_ name s:=by
 refine QaA (C:=fun (s:Int)=>QmQ Γ rv l at_ name s) (D:=fun (e:(Unit)⊕(Bool))=>sel e (fun e=>Qlq Γ rv l at_ name) (fun e=>e=rv)) ?_ h hD
 clear h hD s e
 intro i z_ h hI hE
 replace h:QcM l at_ name i=_:=h
 unfold QcM at h
 rcases Qah h with ⟨h0,h⟩|⟨h0,h⟩
 ·obtain ⟨x0,h1,h⟩:=Qae h
  rcases Qah h with ⟨h2,h⟩|⟨h2,h⟩
  ·obtain rfl:=(hE _ (oJ h):_=rv)
   exact gr 12 [] [bT h0,cE Qak.enc h1,bT h2]
  ·exact gn 14 [0,1,2,7] [] [bT h0,cE Qak.enc h1,bF h2] (hI _ (oJ h))
 ·exact gn 5 [] [] [bF h0] (hE _ (oJ h))
theorem QoS {l at_ name} {rv:Bool} (h:Qij l at_ name=some rv):AFn Tryz.prog 160 [.one (lL 14 l Qak.enc),.one (lI at_),.one (.str name)] [] (one (.bool rv)) []:=by
 refine QaQ Tryz.func160 (by kernel_rfl) (by kernel_rfl) (fun Γ=>?_)
 unfold Qij at h
 obtain ⟨e0,h3,h⟩:=Qae h
 refine gn 7 [0,1,2,7] [] [] (QrU Γ rv h3 ?_)
 rcases e0 with e0|e0
 ·replace h:(some false:Option Bool)=some _:=h
  obtain rfl:=Option.some.inj h
  exact gr 2 [] []
 ·obtain ⟨r,rfl⟩:∃ x,x=e0:=⟨_,rfl⟩
  replace h:(some r:Option Bool)=some _:=h
  exact Option.some.inj h
def QmP (Γ:Gam) (rv:Bool) (cf:Cf):Prop:=Go Tryz.prog Tryz.f161 [] Γ (one (.bool rv)) [] cf
def Qj3 (Γ:Gam) (rv:Bool) (l:List Int) (i:Int):Prop:=QmP Γ rv ⟨[.c 116,.l 116,.b 0,.c 15],⟨28,[vL 0 1 l QaM,vI 5 i],[]⟩⟩
def QjK (Γ:Gam) (rv:Bool) (l:List Int):Prop:=QmP Γ rv ⟨[.c 15],⟨28,[],[]⟩⟩
theorem QpY (Γ:Gam) (rv:Bool) {l} {s:Int} {e:(Unit)⊕(Bool)} (h:QaW (fun s=>Qb3 l s) s=some e) (hD:sel e (fun e=>QjK Γ rv l) (fun e=>e=rv)):Qj3 Γ rv l s:=by
 refine QaA (C:=fun (s:Int)=>Qj3 Γ rv l s) (D:=fun (e:(Unit)⊕(Bool))=>sel e (fun e=>QjK Γ rv l) (fun e=>e=rv)) ?_ h hD
 clear h hD s e
 intro i z_ h hI hE
 replace h:Qb3 l i=_:=h
 unfold Qb3 at h
 rcases Qah h with ⟨h2,h⟩|⟨h2,h⟩
 ·obtain ⟨x0,h3,h⟩:=Qae h
  obtain ⟨r1,h4,h⟩:=Qae h
  rcases Qah h with ⟨h5,h⟩|⟨h5,h⟩
  ·exact gn 14 [0,5] [] [nL QaM l,bT h2,cE QaM h3,cC (Qam h4),nF h5] (hI _ (oJ h))
  ·obtain rfl:=(hE _ (oJ h):_=rv)
   exact gr 12 [] [nL QaM l,bT h2,cE QaM h3,cC (Qam h4),nT h5]
 ·exact gn 5 [] [] [nL QaM l,bF h2] (hE _ (oJ h))
theorem Qgr {l dims} {rv:Bool} (h:Qe5 l dims=some rv):AFn Tryz.prog 161 [.one (lL 1 l QaM),.one (lI dims)] [] (one (.bool rv)) []:=by
 refine QaQ Tryz.func161 (by kernel_rfl) (by kernel_rfl) (fun Γ=>?_)
 unfold Qe5 at h
 obtain ⟨r,h0,h⟩:=Qae h
 rcases Qah h with ⟨h1,h⟩|⟨h1,h⟩
 ·obtain rfl:=Option.some.inj h
  exact gr 8 [] [nL QaM l,cC (Qam h0),hP,hP,oI ((!r)=false),nL QaM l,hP,hP,hP,rp 2 (oI ((!r)=false)),oR True ((!r)=false),bT h1]
 ·obtain ⟨e0,h6,h⟩:=Qae h
  refine gn 12 [0,5] [] [nL QaM l,cC (Qam h0),hP,hP,oI ((!r)=false),nL QaM l,hP,hP,hP,rp 2 (oI ((!r)=false)),oR True ((!r)=false),bF h1] (QpY Γ rv h6 ?_)
  rcases e0 with e0|e0
  ·replace h:(some true:Option Bool)=some _:=h
   obtain rfl:=Option.some.inj h
   exact gr 2 [] []
  ·obtain ⟨r2,rfl⟩:∃ x,x=e0:=⟨_,rfl⟩
   replace h:(some r2:Option Bool)=some _:=h
   exact Option.some.inj h
def QbZ (Γ:Gam) (rv:List Int) (cf:Cf):Prop:=Go Tryz.prog Tryz.f112 [] Γ (one (lL 1 rv QaM)) [] cf
theorem Qly (Γ:Gam) (rv:List Int) {x0 l8} (h:Qfd x0 l8=some rv):QbZ Γ rv ⟨[.c 4095],⟨125,[vP 7 0 14,vO 8 1 1 l8 QaM],[oX 14 94 (Qak.enc x0),oS 1 40 l8 QaM]⟩⟩:=by
 unfold Qfd at h
 obtain ⟨r11,h30,h⟩:=Qae h
 rcases Qah h with ⟨h31,h⟩|⟨h31,h⟩
 ·obtain ⟨r12,h32,h⟩:=Qae h
  rcases Qah h with ⟨h33,h⟩|⟨h33,h⟩
  ·obtain ⟨r13,h34,h⟩:=Qae h
   rcases Qah h with ⟨h35,h⟩|⟨h35,h⟩
   ·obtain ⟨r14,h36,h⟩:=Qae h
    rcases Qah h with ⟨h37,h⟩|⟨h37,h⟩
    ·obtain rfl:=Option.some.inj h
     exact gr 7 [] [cC (Qam h30),rp 3 (nF h31),cC (Qam h32),rp 2 (nF h31),rp 3 (nF h33),cC (Qam h34),rp 2 (nF h33),rp 3 (nF h35),cC (Qam h36),rp 2 (nF h35),nF h37,hW 5,hH (.frz 1),rp 3 (eL l8 QaM)]
    ·obtain ⟨h38,h⟩:=Qau h
     obtain rfl:=Option.some.inj h
     exact gr 7 [] [cC (Qam h30),rp 3 (nF h31),cC (Qam h32),rp 2 (nF h31),rp 3 (nF h33),cC (Qam h34),rp 2 (nF h33),rp 3 (nF h35),cC (Qam h36),rp 2 (nF h35),nT h37,oO (Eq.refl ([2].map QaM).length),aO QaM h38,hW 5,hH (.frz 3),rp 4 (oO (Eq.refl ((l8++[2]).map QaM).length))]
   ·obtain ⟨h39,h⟩:=Qau h
    obtain rfl:=Option.some.inj h
    exact gr 7 [] [cC (Qam h30),rp 3 (nF h31),cC (Qam h32),rp 2 (nF h31),rp 3 (nF h33),cC (Qam h34),rp 2 (nF h33),rp 5 (nT h35),tT,oO (Eq.refl ([2].map QaM).length),aO QaM h39,hW 5,hH (.frz 3),rp 4 (oO (Eq.refl ((l8++[2]).map QaM).length))]
  ·obtain ⟨h40,h⟩:=Qau h
   obtain rfl:=Option.some.inj h
   exact gr 7 [] [cC (Qam h30),rp 3 (nF h31),cC (Qam h32),rp 2 (nF h31),rp 5 (nT h33),rp 6 tT,oO (Eq.refl ([2].map QaM).length),aO QaM h40,hW 5,hH (.frz 3),rp 4 (oO (Eq.refl ((l8++[2]).map QaM).length))]
 ·obtain ⟨h41,h⟩:=Qau h
  obtain rfl:=Option.some.inj h
  exact gr 7 [] [cC (Qam h30),rp 5 (nT h31),rp 11 tT,oO (Eq.refl ([2].map QaM).length),aO QaM h41,hW 5,hH (.frz 3),rp 4 (oO (Eq.refl ((l8++[2]).map QaM).length))]
theorem Qlx (Γ:Gam) (rv:List Int) {x0 l7} (h:Qfc x0 l7=some rv):QbZ Γ rv ⟨[.c 2047],⟨125,[vP 7 0 14,vO 8 1 1 l7 QaM],[oX 14 94 (Qak.enc x0),oS 1 40 l7 QaM]⟩⟩:=by
 unfold Qfc at h
 obtain ⟨r9,h25,h⟩:=Qae h
 rcases Qah h with ⟨h26,h⟩|⟨h26,h⟩
 ·obtain ⟨r10,h27,h⟩:=Qae h
  rcases Qah h with ⟨h28,h⟩|⟨h28,h⟩
  ·exact gn 5 [7,8] [0,1] [cC (Qam h25),rp 3 (nF h26),cC (Qam h27),rp 2 (nF h26),nF h28] (Qly Γ rv h)
  ·obtain ⟨h29,h⟩:=Qau h
   exact gn 5 [7,8] [0,3] [cC (Qam h25),rp 3 (nF h26),cC (Qam h27),rp 2 (nF h26),nT h28,oO (Eq.refl ([16].map QaM).length),aO QaM h29] (Qly Γ rv h)
 ·obtain ⟨h42,h⟩:=Qau h
  obtain ⟨r15,h43,h⟩:=Qae h
  rcases Qah h with ⟨h44,h⟩|⟨h44,h⟩
  ·obtain ⟨r16,h45,h⟩:=Qae h
   rcases Qah h with ⟨h46,h⟩|⟨h46,h⟩
   ·obtain ⟨r17,h47,h⟩:=Qae h
    rcases Qah h with ⟨h48,h⟩|⟨h48,h⟩
    ·obtain ⟨r18,h49,h⟩:=Qae h
     rcases Qah h with ⟨h50,h⟩|⟨h50,h⟩
     ·obtain rfl:=Option.some.inj h
      exact gr 12 [] [cC (Qam h25),rp 5 (nT h26),tT,oO (Eq.refl ([16].map QaM).length),aO QaM h42,cC (Qam h43),rp 3 (nF h44),cC (Qam h45),rp 2 (nF h44),rp 3 (nF h46),cC (Qam h47),rp 2 (nF h46),rp 3 (nF h48),cC (Qam h49),rp 2 (nF h48),nF h50,hW 5,hH (.frz 3),rp 4 (oO (Eq.refl ((l7++[16]).map QaM).length))]
     ·obtain ⟨h51,h⟩:=Qau h
      obtain rfl:=Option.some.inj h
      exact gr 12 [] [cC (Qam h25),rp 5 (nT h26),tT,oO (Eq.refl ([16].map QaM).length),aO QaM h42,cC (Qam h43),rp 3 (nF h44),cC (Qam h45),rp 2 (nF h44),rp 3 (nF h46),cC (Qam h47),rp 2 (nF h46),rp 3 (nF h48),cC (Qam h49),rp 2 (nF h48),nT h50,oO (Eq.refl ([2].map QaM).length),aO QaM h51,hW 5,hH (.frz 5),rp 4 (oO (Eq.refl (((l7++[16])++[2]).map QaM).length))]
    ·obtain ⟨h52,h⟩:=Qau h
     obtain rfl:=Option.some.inj h
     exact gr 12 [] [cC (Qam h25),rp 5 (nT h26),tT,oO (Eq.refl ([16].map QaM).length),aO QaM h42,cC (Qam h43),rp 3 (nF h44),cC (Qam h45),rp 2 (nF h44),rp 3 (nF h46),cC (Qam h47),rp 2 (nF h46),rp 5 (nT h48),tT,oO (Eq.refl ([2].map QaM).length),aO QaM h52,hW 5,hH (.frz 5),rp 4 (oO (Eq.refl (((l7++[16])++[2]).map QaM).length))]
   ·obtain ⟨h53,h⟩:=Qau h
    obtain rfl:=Option.some.inj h
    exact gr 12 [] [cC (Qam h25),rp 5 (nT h26),tT,oO (Eq.refl ([16].map QaM).length),aO QaM h42,cC (Qam h43),rp 3 (nF h44),cC (Qam h45),rp 2 (nF h44),rp 5 (nT h46),rp 6 tT,oO (Eq.refl ([2].map QaM).length),aO QaM h53,hW 5,hH (.frz 5),rp 4 (oO (Eq.refl (((l7++[16])++[2]).map QaM).length))]
  ·obtain ⟨h54,h⟩:=Qau h
   obtain rfl:=Option.some.inj h
   exact gr 12 [] [cC (Qam h25),rp 5 (nT h26),tT,oO (Eq.refl ([16].map QaM).length),aO QaM h42,cC (Qam h43),rp 5 (nT h44),rp 11 tT,oO (Eq.refl ([2].map QaM).length),aO QaM h54,hW 5,hH (.frz 5),rp 4 (oO (Eq.refl (((l7++[16])++[2]).map QaM).length))]
theorem Qlw (Γ:Gam) (rv:List Int) {x0 l6} (h:Qfb x0 l6=some rv):QbZ Γ rv ⟨[.c 1023],⟨125,[vP 7 0 14,vO 8 1 1 l6 QaM],[oX 14 94 (Qak.enc x0),oS 1 40 l6 QaM]⟩⟩:=by
 unfold Qfb at h
 obtain ⟨r8,h22,h⟩:=Qae h
 rcases Qah h with ⟨h23,h⟩|⟨h23,h⟩
 ·obtain ⟨h24,h⟩:=Qau h
  exact gn 5 [7,8] [0,3] [cC (Qam h22),rp 4 hP,rp 2 (oI ((!r8)=false)),oR True ((!r8)=false),bT h23,oO (Eq.refl ([15].map QaM).length),aO QaM h24] (Qlx Γ rv h)
 ·exact gn 5 [7,8] [0,1] [cC (Qam h22),rp 4 hP,rp 2 (oI ((!r8)=false)),oR True ((!r8)=false),bF h23] (Qlx Γ rv h)
theorem Qlv (Γ:Gam) (rv:List Int) {x0 l5} (h:Qfa x0 l5=some rv):QbZ Γ rv ⟨[.c 511],⟨125,[vP 7 0 14,vO 8 1 1 l5 QaM],[oX 14 94 (Qak.enc x0),oS 1 40 l5 QaM]⟩⟩:=by
 unfold Qfa at h
 obtain ⟨r7,h19,h⟩:=Qae h
 rcases Qah h with ⟨h20,h⟩|⟨h20,h⟩
 ·exact gn 5 [7,8] [0,1] [cC (Qam h19),nF h20] (Qlw Γ rv h)
 ·obtain ⟨h21,h⟩:=Qau h
  exact gn 5 [7,8] [0,3] [cC (Qam h19),nT h20,oO (Eq.refl ([18].map QaM).length),aO QaM h21] (Qlw Γ rv h)
theorem Qlu (Γ:Gam) (rv:List Int) {l x0 l4} (h:Qe9 l x0 l4=some rv):QbZ Γ rv ⟨[.c 255],⟨125,[vL 1 14 l Qak.enc,vP 7 0 14,vO 8 1 1 l4 QaM],[oX 14 94 (Qak.enc x0),oS 1 40 l4 QaM]⟩⟩:=by
 unfold Qe9 at h
 obtain ⟨r5,h15,h⟩:=Qae h
 obtain ⟨r6,h16,h⟩:=Qae h
 rcases Qah h with ⟨h17,h⟩|⟨h17,h⟩
 ·exact gn 5 [7,8] [0,1] [hH (.draw 6 []),cC (Qg4 h15),cC (Qgr h16),nF h17] (Qlv Γ rv h)
 ·obtain ⟨h18,h⟩:=Qau h
  exact gn 5 [7,8] [0,3] [hH (.draw 6 []),cC (Qg4 h15),cC (Qgr h16),nT h17,oO (Eq.refl ([17].map QaM).length),aO QaM h18] (Qlv Γ rv h)
theorem QkA (Γ:Gam) (rv:List Int) {x0 l12} (h:Qhq x0 l12=some rv):QbZ Γ rv ⟨[.c 4095],⟨125,[vP 7 0 14,vO 8 1 1 l12 QaM],[oX 14 94 (Qak.enc x0),oS 1 40 l12 QaM]⟩⟩:=by
 unfold Qhq at h
 obtain ⟨r25,h71,h⟩:=Qae h
 rcases Qah h with ⟨h72,h⟩|⟨h72,h⟩
 ·obtain ⟨r26,h73,h⟩:=Qae h
  rcases Qah h with ⟨h74,h⟩|⟨h74,h⟩
  ·obtain ⟨r27,h75,h⟩:=Qae h
   rcases Qah h with ⟨h76,h⟩|⟨h76,h⟩
   ·obtain ⟨r28,h77,h⟩:=Qae h
    rcases Qah h with ⟨h78,h⟩|⟨h78,h⟩
    ·obtain rfl:=Option.some.inj h
     exact gr 7 [] [cC (Qam h71),rp 3 (nF h72),cC (Qam h73),rp 2 (nF h72),rp 3 (nF h74),cC (Qam h75),rp 2 (nF h74),rp 3 (nF h76),cC (Qam h77),rp 2 (nF h76),nF h78,hW 5,hH (.frz 1),rp 3 (eL l12 QaM)]
    ·obtain ⟨h79,h⟩:=Qau h
     obtain rfl:=Option.some.inj h
     exact gr 7 [] [cC (Qam h71),rp 3 (nF h72),cC (Qam h73),rp 2 (nF h72),rp 3 (nF h74),cC (Qam h75),rp 2 (nF h74),rp 3 (nF h76),cC (Qam h77),rp 2 (nF h76),nT h78,oO (Eq.refl ([2].map QaM).length),aO QaM h79,hW 5,hH (.frz 3),rp 4 (oO (Eq.refl ((l12++[2]).map QaM).length))]
   ·obtain ⟨h80,h⟩:=Qau h
    obtain rfl:=Option.some.inj h
    exact gr 7 [] [cC (Qam h71),rp 3 (nF h72),cC (Qam h73),rp 2 (nF h72),rp 3 (nF h74),cC (Qam h75),rp 2 (nF h74),rp 5 (nT h76),tT,oO (Eq.refl ([2].map QaM).length),aO QaM h80,hW 5,hH (.frz 3),rp 4 (oO (Eq.refl ((l12++[2]).map QaM).length))]
  ·obtain ⟨h81,h⟩:=Qau h
   obtain rfl:=Option.some.inj h
   exact gr 7 [] [cC (Qam h71),rp 3 (nF h72),cC (Qam h73),rp 2 (nF h72),rp 5 (nT h74),rp 6 tT,oO (Eq.refl ([2].map QaM).length),aO QaM h81,hW 5,hH (.frz 3),rp 4 (oO (Eq.refl ((l12++[2]).map QaM).length))]
 ·obtain ⟨h82,h⟩:=Qau h
  obtain rfl:=Option.some.inj h
  exact gr 7 [] [cC (Qam h71),rp 5 (nT h72),rp 11 tT,oO (Eq.refl ([2].map QaM).length),aO QaM h82,hW 5,hH (.frz 3),rp 4 (oO (Eq.refl ((l12++[2]).map QaM).length))]
theorem Qkz (Γ:Gam) (rv:List Int) {x0 l11} (h:Qhp x0 l11=some rv):QbZ Γ rv ⟨[.c 2047],⟨125,[vP 7 0 14,vO 8 1 1 l11 QaM],[oX 14 94 (Qak.enc x0),oS 1 40 l11 QaM]⟩⟩:=by
 unfold Qhp at h
 obtain ⟨r23,h66,h⟩:=Qae h
 rcases Qah h with ⟨h67,h⟩|⟨h67,h⟩
 ·obtain ⟨r24,h68,h⟩:=Qae h
  rcases Qah h with ⟨h69,h⟩|⟨h69,h⟩
  ·exact gn 5 [7,8] [0,1] [cC (Qam h66),rp 3 (nF h67),cC (Qam h68),rp 2 (nF h67),nF h69] (QkA Γ rv h)
  ·obtain ⟨h70,h⟩:=Qau h
   exact gn 5 [7,8] [0,3] [cC (Qam h66),rp 3 (nF h67),cC (Qam h68),rp 2 (nF h67),nT h69,oO (Eq.refl ([16].map QaM).length),aO QaM h70] (QkA Γ rv h)
 ·obtain ⟨h83,h⟩:=Qau h
  obtain ⟨r29,h84,h⟩:=Qae h
  rcases Qah h with ⟨h85,h⟩|⟨h85,h⟩
  ·obtain ⟨r30,h86,h⟩:=Qae h
   rcases Qah h with ⟨h87,h⟩|⟨h87,h⟩
   ·obtain ⟨r31,h88,h⟩:=Qae h
    rcases Qah h with ⟨h89,h⟩|⟨h89,h⟩
    ·obtain ⟨r32,h90,h⟩:=Qae h
     rcases Qah h with ⟨h91,h⟩|⟨h91,h⟩
     ·obtain rfl:=Option.some.inj h
      exact gr 12 [] [cC (Qam h66),rp 5 (nT h67),tT,oO (Eq.refl ([16].map QaM).length),aO QaM h83,cC (Qam h84),rp 3 (nF h85),cC (Qam h86),rp 2 (nF h85),rp 3 (nF h87),cC (Qam h88),rp 2 (nF h87),rp 3 (nF h89),cC (Qam h90),rp 2 (nF h89),nF h91,hW 5,hH (.frz 3),rp 4 (oO (Eq.refl ((l11++[16]).map QaM).length))]
     ·obtain ⟨h92,h⟩:=Qau h
      obtain rfl:=Option.some.inj h
      exact gr 12 [] [cC (Qam h66),rp 5 (nT h67),tT,oO (Eq.refl ([16].map QaM).length),aO QaM h83,cC (Qam h84),rp 3 (nF h85),cC (Qam h86),rp 2 (nF h85),rp 3 (nF h87),cC (Qam h88),rp 2 (nF h87),rp 3 (nF h89),cC (Qam h90),rp 2 (nF h89),nT h91,oO (Eq.refl ([2].map QaM).length),aO QaM h92,hW 5,hH (.frz 5),rp 4 (oO (Eq.refl (((l11++[16])++[2]).map QaM).length))]
    ·obtain ⟨h93,h⟩:=Qau h
     obtain rfl:=Option.some.inj h
     exact gr 12 [] [cC (Qam h66),rp 5 (nT h67),tT,oO (Eq.refl ([16].map QaM).length),aO QaM h83,cC (Qam h84),rp 3 (nF h85),cC (Qam h86),rp 2 (nF h85),rp 3 (nF h87),cC (Qam h88),rp 2 (nF h87),rp 5 (nT h89),tT,oO (Eq.refl ([2].map QaM).length),aO QaM h93,hW 5,hH (.frz 5),rp 4 (oO (Eq.refl (((l11++[16])++[2]).map QaM).length))]
   ·obtain ⟨h94,h⟩:=Qau h
    obtain rfl:=Option.some.inj h
    exact gr 12 [] [cC (Qam h66),rp 5 (nT h67),tT,oO (Eq.refl ([16].map QaM).length),aO QaM h83,cC (Qam h84),rp 3 (nF h85),cC (Qam h86),rp 2 (nF h85),rp 5 (nT h87),rp 6 tT,oO (Eq.refl ([2].map QaM).length),aO QaM h94,hW 5,hH (.frz 5),rp 4 (oO (Eq.refl (((l11++[16])++[2]).map QaM).length))]
  ·obtain ⟨h95,h⟩:=Qau h
   obtain rfl:=Option.some.inj h
   exact gr 12 [] [cC (Qam h66),rp 5 (nT h67),tT,oO (Eq.refl ([16].map QaM).length),aO QaM h83,cC (Qam h84),rp 5 (nT h85),rp 11 tT,oO (Eq.refl ([2].map QaM).length),aO QaM h95,hW 5,hH (.frz 5),rp 4 (oO (Eq.refl (((l11++[16])++[2]).map QaM).length))]
theorem Qky (Γ:Gam) (rv:List Int) {x0 l10} (h:Qho x0 l10=some rv):QbZ Γ rv ⟨[.c 1023],⟨125,[vP 7 0 14,vO 8 1 1 l10 QaM],[oX 14 94 (Qak.enc x0),oS 1 40 l10 QaM]⟩⟩:=by
 unfold Qho at h
 obtain ⟨r22,h63,h⟩:=Qae h
 rcases Qah h with ⟨h64,h⟩|⟨h64,h⟩
 ·obtain ⟨h65,h⟩:=Qau h
  exact gn 5 [7,8] [0,3] [cC (Qam h63),rp 4 hP,rp 2 (oI ((!r22)=false)),oR True ((!r22)=false),bT h64,oO (Eq.refl ([15].map QaM).length),aO QaM h65] (Qkz Γ rv h)
 ·exact gn 5 [7,8] [0,1] [cC (Qam h63),rp 4 hP,rp 2 (oI ((!r22)=false)),oR True ((!r22)=false),bF h64] (Qkz Γ rv h)
theorem Qlz (Γ:Gam) (rv:List Int) {x0 l9} (h:Qh2 x0 l9=some rv):QbZ Γ rv ⟨[.c 511],⟨125,[vP 7 0 14,vO 8 1 1 l9 QaM],[oX 14 94 (Qak.enc x0),oS 1 40 l9 QaM]⟩⟩:=by
 unfold Qh2 at h
 obtain ⟨r21,h60,h⟩:=Qae h
 rcases Qah h with ⟨h61,h⟩|⟨h61,h⟩
 ·exact gn 5 [7,8] [0,1] [cC (Qam h60),nF h61] (Qky Γ rv h)
 ·obtain ⟨h62,h⟩:=Qau h
  exact gn 5 [7,8] [0,3] [cC (Qam h60),nT h61,oO (Eq.refl ([18].map QaM).length),aO QaM h62] (Qky Γ rv h)
theorem Qlt (Γ:Gam) (rv:List Int) {n l x0 l3} (h:Qe8 n l x0 l3=some rv):QbZ Γ rv ⟨[.c 127],⟨125,[vL 1 14 l Qak.enc,vP 3 0 2,vP 7 1 14,vO 8 2 1 l3 QaM],[oX 2 25 (Qal.enc n),oX 14 94 (Qak.enc x0),oS 1 40 l3 QaM]⟩⟩:=by
 unfold Qe8 at h
 obtain ⟨r3,h10,h⟩:=Qae h
 rcases Qah h with ⟨h11,h⟩|⟨h11,h⟩
 ·obtain ⟨r4,h12,h⟩:=Qae h
  rcases Qah h with ⟨h13,h⟩|⟨h13,h⟩
  ·exact gn 5 [1,7,8] [1,2] [nL QmE n.places,cC (Qam h10),rp 5 (nF h11),nL QmE n.places,rp 2 (nF h11),cC (Qam h12),rp 2 (nF h11),nF h13] (Qlu Γ rv h)
  ·obtain ⟨h14,h⟩:=Qau h
   exact gn 5 [1,7,8] [1,4] [nL QmE n.places,cC (Qam h10),rp 5 (nF h11),nL QmE n.places,rp 2 (nF h11),cC (Qam h12),rp 2 (nF h11),nT h13,oO (Eq.refl ([11].map QaM).length),aO QaM h14] (Qlu Γ rv h)
 ·obtain ⟨h55,h⟩:=Qau h
  obtain ⟨r19,h56,h⟩:=Qae h
  obtain ⟨r20,h57,h⟩:=Qae h
  rcases Qah h with ⟨h58,h⟩|⟨h58,h⟩
  ·exact gn 10 [7,8] [1,4] [nL QmE n.places,cC (Qam h10),rp 9 (nT h11),tT,oO (Eq.refl ([11].map QaM).length),aO QaM h55,hH (.draw 6 []),cC (Qg4 h56),cC (Qgr h57),nF h58] (Qlz Γ rv h)
  ·obtain ⟨h59,h⟩:=Qau h
   exact gn 10 [7,8] [1,6] [nL QmE n.places,cC (Qam h10),rp 9 (nT h11),tT,oO (Eq.refl ([11].map QaM).length),aO QaM h55,hH (.draw 6 []),cC (Qg4 h56),cC (Qgr h57),nT h58,oO (Eq.refl ([17].map QaM).length),aO QaM h59] (Qlz Γ rv h)
theorem Qls (Γ:Gam) (rv:List Int) {n l x0 l2} (h:Qe7 n l x0 l2=some rv):QbZ Γ rv ⟨[.c 63],⟨125,[vL 1 14 l Qak.enc,vP 3 0 2,vP 7 1 14,vO 8 2 1 l2 QaM],[oX 2 25 (Qal.enc n),oX 14 94 (Qak.enc x0),oS 1 40 l2 QaM]⟩⟩:=by
 unfold Qe7 at h
 obtain ⟨r2,h7,h⟩:=Qae h
 rcases Qah h with ⟨h8,h⟩|⟨h8,h⟩
 ·exact gn 5 [1,3,7,8] [0,1,2] [cC (Qam h7),nF h8] (Qlt Γ rv h)
 ·obtain ⟨h9,h⟩:=Qau h
  exact gn 5 [1,3,7,8] [0,1,4] [cC (Qam h7),nT h8,oO (Eq.refl ([22].map QaM).length),aO QaM h9] (Qlt Γ rv h)
theorem Qlr (Γ:Gam) (rv:List Int) {n l at_ x0 l1} (h:Qe6 n l at_ x0 l1=some rv):QbZ Γ rv ⟨[.c 31],⟨125,[vL 1 14 l Qak.enc,vI 2 at_,vP 3 0 2,vP 7 1 14,vO 8 2 1 l1 QaM],[oX 2 25 (Qal.enc n),oX 14 94 (Qak.enc x0),oS 1 40 l1 QaM]⟩⟩:=by
 unfold Qe6 at h
 obtain ⟨r1,h4,h⟩:=Qae h
 rcases Qah h with ⟨h5,h⟩|⟨h5,h⟩
 ·obtain ⟨h6,h⟩:=Qau h
  exact gn 5 [1,3,7,8] [0,1,4] [cC (QoS h4),bT h5,oO (Eq.refl ([6].map QaM).length),aO QaM h6] (Qls Γ rv h)
 ·exact gn 5 [1,3,7,8] [0,1,2] [cC (QoS h4),bF h5] (Qls Γ rv h)
theorem Qub {n l at_} {rv:List Int} (h:Qik n l at_=some rv):AFn Tryz.prog 112 [.agg (Qal.enc n),.one (lL 14 l Qak.enc),.one (lI at_)] [] (one (lL 1 rv QaM)) []:=by
 refine QaQ Tryz.func112 (by kernel_rfl) (by kernel_rfl) (fun Γ=>?_)
 unfold Qik at h
 obtain ⟨x0,h0,h⟩:=Qae h
 obtain ⟨r,h1,h⟩:=Qae h
 rcases Qah h with ⟨h2,h⟩|⟨h2,h⟩
 ·exact gn 11 [1,2,3,7,8] [0,1,2] [cE Qak.enc h0,cC (QfJ h1),nF h2,hW 1,hH (.adopt 8 1 40)] (Qlr Γ rv h)
 ·obtain ⟨h3,h⟩:=Qau h
  exact gn 11 [1,2,3,7,8] [0,1,3] [cE Qak.enc h0,cC (QfJ h1),nT h2,oO (Eq.refl ([5].map QaM).length),aN (l:=([5]:List Int)) QaM h3] (Qlr Γ rv h)
def Qg3 (Γ:Gam) (rv:List Qab) (cf:Cf):Prop:=Go Tryz.prog Tryz.f73 [] Γ (one (lL 2 rv Qab.enc)) [] cf
def QmO (Γ:Gam) (rv:List Qab) (n:Qal) (l:List Qak) (i:Int) (r1:List Int) (l3:List Qab) (k:Int):Prop:=Qg3 Γ rv ⟨[.c 31308,.l 31308,.b 2,.b 1,.c 979,.l 244,.b 0,.c 31],⟨44,[vL 1 14 l Qak.enc,vP 2 0 2,vO 5 1 2 l3 Qab.enc,vI 6 i,vL 7 1 r1 QaM,vI 8 k],[oX 2 25 (Qal.enc n),oS 2 151 l3 Qab.enc]⟩⟩
def Qlp (Γ:Gam) (rv:List Qab) (n:Qal) (l:List Qak) (i:Int) (r1:List Int) (l4:List Qab):Prop:=Qg3 Γ rv ⟨[.b 1,.c 979,.l 244,.b 0,.c 31],⟨44,[vL 1 14 l Qak.enc,vP 2 0 2,vO 5 1 2 l4 Qab.enc,vI 6 i],[oX 2 25 (Qal.enc n),oS 2 151 l4 Qab.enc]⟩⟩
def QmN (Γ:Gam) (rv:List Qab) (n:Qal) (l:List Qak) (l2:List Qab) (i:Int):Prop:=Qg3 Γ rv ⟨[.c 244,.l 244,.b 0,.c 31],⟨44,[vL 1 14 l Qak.enc,vP 2 0 2,vO 5 1 2 l2 Qab.enc,vI 6 i],[oX 2 25 (Qal.enc n),oS 2 151 l2 Qab.enc]⟩⟩
def Qlo (Γ:Gam) (rv:List Qab) (n:Qal) (l:List Qak) (l5:List Qab):Prop:=Qg3 Γ rv ⟨[.c 31],⟨44,[vO 5 0 2 l5 Qab.enc],[oS 2 151 l5 Qab.enc]⟩⟩
theorem QrT (Γ:Gam) (rv:List Qab) {n l i r1} {s:List Qab×Int} {e:List Qab} (h:QaW (fun s=>Qh1 n l i r1 s.1 s.2) s=some e) (hD:Qlp Γ rv n l i r1 e):QmO Γ rv n l i r1 s.1 s.2:=by
 refine QaA (C:=fun (s:List Qab×Int)=>QmO Γ rv n l i r1 s.1 s.2) (D:=fun (e:List Qab)=>Qlp Γ rv n l i r1 e) ?_ h hD
 clear h hD s e
 rintro ⟨l3,k⟩ z_ h hI hE
 replace h:Qh1 n l i r1 l3 k=_:=h
 unfold Qh1 at h
 rcases Qah h with ⟨h5,h⟩|⟨h5,h⟩
 ·obtain ⟨x0,h6,h⟩:=Qae h
  obtain ⟨r2,h7,h⟩:=Qae h
  obtain ⟨h8,h⟩:=Qau h
  exact gn 11 [1,2,5,6,7,8] [0,3] [nL QaM r1,bT h5,hH (.draw 9 []),cE QaM h6,cC (Qcc h7),oO (Eq.refl ([(Qab.mk x0 r2)].map Qab.enc).length),aO Qab.enc h8] (hI _ (oJ h))
 ·exact gn 5 [1,2,5,6] [0,1] [nL QaM r1,bF h5] (hE _ (oJ h))
theorem QrS (Γ:Gam) (rv:List Qab) {n l} {s:List Qab×Int} {e:List Qab} (h:QaW (fun s=>Qdw n l s.1 s.2) s=some e) (hD:Qlo Γ rv n l e):QmN Γ rv n l s.1 s.2:=by
 refine QaA (C:=fun (s:List Qab×Int)=>QmN Γ rv n l s.1 s.2) (D:=fun (e:List Qab)=>Qlo Γ rv n l e) ?_ h hD
 clear h hD s e
 rintro ⟨l2,i⟩ z_ h hI hE
 replace h:Qdw n l l2 i=_:=h
 unfold Qdw at h
 rcases Qah h with ⟨h3,h⟩|⟨h3,h⟩
 ·obtain ⟨r1,h4,h⟩:=Qae h
  obtain ⟨e0,h9,h⟩:=Qae h
  refine gn 13 [1,2,5,6,7,8] [0,1] [nL Qak.enc l,bT h3,cC (Qub h4)] (QrT Γ rv h9 ?_)
  obtain ⟨l4,rfl⟩:∃ x,x=e0:=⟨_,rfl⟩
  replace h:(some (.inl (l4,(addK .i64 i 1))):Option ((List Qab×Int)⊕(List Qab)))=some _:=h
  exact gn 3 [1,2,5,6] [0,1] [] (hI _ (oJ h))
 ·exact gn 5 [5] [1] [nL Qak.enc l,bF h3] (hE _ (oJ h))
theorem Qln (Γ:Gam) (rv:List Qab) {n l l1} (h:Qgq n l l1=some rv):Qg3 Γ rv ⟨[.c 15],⟨44,[vL 1 14 l Qak.enc,vP 2 0 2,vO 5 1 2 l1 Qab.enc],[oX 2 25 (Qal.enc n),oS 2 151 l1 Qab.enc]⟩⟩:=by
 unfold Qgq at h
 obtain ⟨e1,h10,h⟩:=Qae h
 refine gn 5 [1,2,5,6] [0,1] [] (QrS Γ rv h10 ?_)
 obtain ⟨l5,rfl⟩:∃ x,x=e1:=⟨_,rfl⟩
 replace h:(some l5:Option (List Qab))=some _:=h
 obtain rfl:=Option.some.inj h
 exact gr 2 [] [hW 4,hH (.frz 0),rp 3 (eL l5 Qab.enc)]
theorem Qua {n l} {rv:List Qab} (h:Qii n l=some rv):AFn Tryz.prog 73 [.agg (Qal.enc n),.one (lL 14 l Qak.enc)] [] (one (lL 2 rv Qab.enc)) []:=by
 refine QaQ Tryz.func73 (by kernel_rfl) (by kernel_rfl) (fun Γ=>?_)
 unfold Qii at h
 obtain ⟨r,h0,h⟩:=Qae h
 rcases Qah h with ⟨h1,h⟩|⟨h1,h⟩
 ·exact gn 9 [1,2,5] [0,1] [nL Qak.enc l,cC (Qam h0),nF h1,hW 1,hH (.adopt 5 2 151)] (Qln Γ rv h)
 ·obtain ⟨h2,h⟩:=Qau h
  exact gn 9 [1,2,5] [0,2] [nL Qak.enc l,cC (Qam h0),nT h1,oO (Eq.refl ([(Qab.mk 4 ByteArray.empty)].map Qab.enc).length),aN (l:=([(Qab.mk 4 ByteArray.empty)]:List Qab)) Qab.enc h2] (Qln Γ rv h)
def QpR (Γ:Gam) (rv:Bool) (cf:Cf):Prop:=Go Tryz.prog Tryz.f162 [] Γ (one (.bool rv)) [] cf
def QmI (Γ:Gam) (rv:Bool) (a:List Int) (i:Int):Prop:=QpR Γ rv ⟨[.c 116,.l 116,.b 0,.c 15],⟨28,[vL 0 1 a QaM,vI 5 i],[]⟩⟩
def Qlg (Γ:Gam) (rv:Bool) (a:List Int):Prop:=QpR Γ rv ⟨[.c 15],⟨28,[],[]⟩⟩
theorem QrO (Γ:Gam) (rv:Bool) {a} {s:Int} {e:(Unit)⊕(Bool)} (h:QaW (fun s=>QcJ a s) s=some e) (hD:sel e (fun e=>Qlg Γ rv a) (fun e=>e=rv)):QmI Γ rv a s:=by
 refine QaA (C:=fun (s:Int)=>QmI Γ rv a s) (D:=fun (e:(Unit)⊕(Bool))=>sel e (fun e=>Qlg Γ rv a) (fun e=>e=rv)) ?_ h hD
 clear h hD s e
 intro i z_ h hI hE
 replace h:QcJ a i=_:=h
 unfold QcJ at h
 rcases Qah h with ⟨h1,h⟩|⟨h1,h⟩
 ·obtain ⟨x0,h2,h⟩:=Qae h
  rcases Qah h with ⟨h3,h⟩|⟨h3,h⟩
  ·obtain rfl:=(hE _ (oJ h):_=rv)
   exact gr 12 [] [nL QaM a,bT h1,cE QaM h2,rp 6 (bT h3),tT]
  ·rcases Qah h with ⟨h4,h⟩|⟨h4,h⟩
   ·obtain rfl:=(hE _ (oJ h):_=rv)
    exact gr 12 [] [nL QaM a,bT h1,cE QaM h2,rp 3 (bF h3),cE QaM h2,rp 3 (bF h3),bT h4]
   ·exact gn 14 [0,5] [] [nL QaM a,bT h1,cE QaM h2,rp 3 (bF h3),cE QaM h2,rp 3 (bF h3),bF h4] (hI _ (oJ h))
 ·exact gn 5 [] [] [nL QaM a,bF h1] (hE _ (oJ h))
theorem QoN {a dims} {rv:Bool} (h:QfV a dims=some rv):AFn Tryz.prog 162 [.one (lL 1 a QaM),.one (lI dims)] [] (one (.bool rv)) []:=by
 refine QaQ Tryz.func162 (by kernel_rfl) (by kernel_rfl) (fun Γ=>?_)
 unfold QfV at h
 rcases Qah h with ⟨h0,h⟩|⟨h0,h⟩
 ·obtain rfl:=Option.some.inj h
  exact gr 8 [] [nL QaM a,bT h0]
 ·obtain ⟨e0,h5,h⟩:=Qae h
  refine gn 12 [0,5] [] [nL QaM a,bF h0] (QrO Γ rv h5 ?_)
  rcases e0 with e0|e0
  ·replace h:(some true:Option Bool)=some _:=h
   obtain rfl:=Option.some.inj h
   exact gr 2 [] []
  ·obtain ⟨r,rfl⟩:∃ x,x=e0:=⟨_,rfl⟩
   replace h:(some r:Option Bool)=some _:=h
   exact Option.some.inj h
theorem QaH {n low high} {rv:Bool} (h:Qb4 n low high=some rv):AFn Tryz.prog 163 [.one (lI n),.one (lI low),.one (lI high)] [] (one (.bool rv)) []:=by
 refine QaQ Tryz.func163 (by kernel_rfl) (by kernel_rfl) (fun Γ=>?_)
 unfold Qb4 at h
 obtain rfl:=Option.some.inj h
 exact gr 4 [] [rp 4 hP,rp 2 (oI ((geI n low)=true)),oR True ((geI n low)=true)]
theorem QbQ {s0} {rv:Int} (h:QeS s0=some rv):AFn Tryz.prog 164 [.agg (Qaw.enc s0)] [] (one (lI rv)) []:=by
 refine QaQ Tryz.func164 (by kernel_rfl) (by kernel_rfl) (fun Γ=>?_)
 unfold QeS at h
 rcases Qah h with ⟨h0,h⟩|⟨h0,h⟩
 ·obtain rfl:=Option.some.inj h
  exact gr 8 [] [rp 12 hP,rp 2 (oI ((eqI s0.place (-1))=true)),oR True ((eqI s0.place (-1))=true),rp 2 (oI (((eqI s0.place (-1))&&(eqI s0.open_ 0))=true)),oR True (((eqI s0.place (-1))&&(eqI s0.open_ 0))=true),rp 2 (oI ((((eqI s0.place (-1))&&(eqI s0.open_ 0))&&(eqI s0.close 0))=true)),oR True ((((eqI s0.place (-1))&&(eqI s0.open_ 0))&&(eqI s0.close 0))=true),bT h0]
 ·rcases Qah h with ⟨h1,h⟩|⟨h1,h⟩
  ·obtain rfl:=Option.some.inj h
   exact gr 13 [] [rp 12 hP,rp 2 (oI ((eqI s0.place (-1))=true)),oR True ((eqI s0.place (-1))=true),rp 2 (oI (((eqI s0.place (-1))&&(eqI s0.open_ 0))=true)),oR True (((eqI s0.place (-1))&&(eqI s0.open_ 0))=true),rp 2 (oI ((((eqI s0.place (-1))&&(eqI s0.open_ 0))&&(eqI s0.close 0))=true)),oR True ((((eqI s0.place (-1))&&(eqI s0.open_ 0))&&(eqI s0.close 0))=true),bF h0,rp 22 hP,rp 2 (oI ((ltI s0.place 0)=false)),oR True ((ltI s0.place 0)=false),rp 4 (oI (((ltI s0.place 0)||(ltI s0.open_ 0))=false)),oR True (((ltI s0.place 0)||(ltI s0.open_ 0))=false),rp 2 (oI ((((ltI s0.place 0)||(ltI s0.open_ 0))||(gtI s0.open_ s0.close))=false)),oR True ((((ltI s0.place 0)||(ltI s0.open_ 0))||(gtI s0.open_ s0.close))=false),rp 2 (oI (((((ltI s0.place 0)||(ltI s0.open_ 0))||(gtI s0.open_ s0.close))||(gtI s0.close 4096))=false)),oR True (((((ltI s0.place 0)||(ltI s0.open_ 0))||(gtI s0.open_ s0.close))||(gtI s0.close 4096))=false),rp 2 (oI ((((((ltI s0.place 0)||(ltI s0.open_ 0))||(gtI s0.open_ s0.close))||(gtI s0.close 4096))||(ltI s0.service 0))=false)),oR True ((((((ltI s0.place 0)||(ltI s0.open_ 0))||(gtI s0.open_ s0.close))||(gtI s0.close 4096))||(ltI s0.service 0))=false),bT h1]
  ·obtain rfl:=Option.some.inj h
   exact gr 14 [] [rp 12 hP,rp 2 (oI ((eqI s0.place (-1))=true)),oR True ((eqI s0.place (-1))=true),rp 2 (oI (((eqI s0.place (-1))&&(eqI s0.open_ 0))=true)),oR True (((eqI s0.place (-1))&&(eqI s0.open_ 0))=true),rp 2 (oI ((((eqI s0.place (-1))&&(eqI s0.open_ 0))&&(eqI s0.close 0))=true)),oR True ((((eqI s0.place (-1))&&(eqI s0.open_ 0))&&(eqI s0.close 0))=true),bF h0,rp 22 hP,rp 2 (oI ((ltI s0.place 0)=false)),oR True ((ltI s0.place 0)=false),rp 4 (oI (((ltI s0.place 0)||(ltI s0.open_ 0))=false)),oR True (((ltI s0.place 0)||(ltI s0.open_ 0))=false),rp 2 (oI ((((ltI s0.place 0)||(ltI s0.open_ 0))||(gtI s0.open_ s0.close))=false)),oR True ((((ltI s0.place 0)||(ltI s0.open_ 0))||(gtI s0.open_ s0.close))=false),rp 2 (oI (((((ltI s0.place 0)||(ltI s0.open_ 0))||(gtI s0.open_ s0.close))||(gtI s0.close 4096))=false)),oR True (((((ltI s0.place 0)||(ltI s0.open_ 0))||(gtI s0.open_ s0.close))||(gtI s0.close 4096))=false),rp 2 (oI ((((((ltI s0.place 0)||(ltI s0.open_ 0))||(gtI s0.open_ s0.close))||(gtI s0.close 4096))||(ltI s0.service 0))=false)),oR True ((((((ltI s0.place 0)||(ltI s0.open_ 0))||(gtI s0.open_ s0.close))||(gtI s0.close 4096))||(ltI s0.service 0))=false),bF h1]
def QbO (Γ:Gam) (rv:List Int) (cf:Cf):Prop:=Go Tryz.prog Tryz.f114 [] Γ (one (lL 1 rv QaM)) [] cf
def QmT (Γ:Gam) (rv:List Int) (places:Int) (dims:Int) (types:Int) (l:List Qai) (at_:Int) (x0:Qai) (l1:List Int) (i:Int):Prop:=QbO Γ rv ⟨[.c 500,.l 500,.b 0,.c 63],⟨156,[vI 0 places,vI 1 dims,vI 2 types,vL 3 16 l Qai.enc,vI 4 at_,vO 11 0 1 l1 QaM,vP 12 1 16,vI 13 i],[oS 1 40 l1 QaM,oX 16 124 (Qai.enc x0)]⟩⟩
def QlM (Γ:Gam) (rv:List Int) (places:Int) (dims:Int) (types:Int) (l:List Qai) (at_:Int) (x0:Qai) (l1:List Int) (l2:List Int):Prop:=QbO Γ rv ⟨[.c 63],⟨156,[vI 0 places,vI 1 dims,vI 2 types,vO 11 0 1 l2 QaM,vP 12 1 16],[oS 1 40 l2 QaM,oX 16 124 (Qai.enc x0)]⟩⟩
theorem QrX (Γ:Gam) (rv:List Int) {places dims types l at_ x0 l1} {s:Int} {e:List Int} (h:QaW (fun s=>QcN places dims types l at_ x0 l1 s) s=some e) (hD:QlM Γ rv places dims types l at_ x0 l1 e):QmT Γ rv places dims types l at_ x0 l1 s:=by
 refine QaA (C:=fun (s:Int)=>QmT Γ rv places dims types l at_ x0 l1 s) (D:=fun (e:List Int)=>QlM Γ rv places dims types l at_ x0 l1 e) ?_ h hD
 clear h hD s e
 intro i z_ h hI hE
 replace h:QcN places dims types l at_ x0 l1 i=_:=h
 unfold QcN at h
 rcases Qah h with ⟨h4,h⟩|⟨h4,h⟩
 ·obtain ⟨x1,h5,h⟩:=Qae h
  rcases Qah h with ⟨h6,h⟩|⟨h6,h⟩
  ·obtain ⟨h7,h⟩:=Qau h
   exact gn 13 [0,1,2,11,12] [3,1] [bT h4,hH (.draw 8 []),cE Qai.enc h5,bT h6,oO (Eq.refl ([6].map QaM).length),aO QaM h7] (hE _ (oJ h))
  ·exact gn 14 [0,1,2,3,4,11,12,13] [0,1] [bT h4,hH (.draw 8 []),cE Qai.enc h5,bF h6] (hI _ (oJ h))
 ·exact gn 5 [0,1,2,11,12] [0,1] [bF h4] (hE _ (oJ h))
theorem QlH (Γ:Gam) (rv:List Int) {types x0 l6} (h:Qfh types x0 l6=some rv):QbO Γ rv ⟨[.c 2047],⟨156,[vI 2 types,vO 11 0 1 l6 QaM,vP 12 1 16],[oS 1 40 l6 QaM,oX 16 124 (Qai.enc x0)]⟩⟩:=by
 unfold Qfh at h
 obtain ⟨r6,h25,h⟩:=Qae h
 rcases Qah h with ⟨h26,h⟩|⟨h26,h⟩
 ·obtain ⟨r7,h27,h⟩:=Qae h
  rcases Qah h with ⟨h28,h⟩|⟨h28,h⟩
  ·obtain ⟨h29,h⟩:=Qau h
   obtain rfl:=Option.some.inj h
   exact gr 9 [] [rp 5 hP,rp 3 (oI ((neI x0.pick.place (-1))=true)),oR True ((neI x0.pick.place (-1))=true),cC (QaH h25),rp 3 (nF h26),cC (QaH h27),rp 2 (nF h26),rp 26 hP,rp 4 (oI ((!r7)=false)),oI (((!r7)=false)∧(gtI x0.split 1)=true),oR True ((!r7)=false),rp 2 (oI (((!r7)||((gtI x0.split 1)&&((neI x0.pick.place (-1))&&(neI x0.drop.place (-1)))))=false)),oR True (((!r7)||((gtI x0.split 1)&&((neI x0.pick.place (-1))&&(neI x0.drop.place (-1)))))=false),rp 3 (oI ((((!r7)||((gtI x0.split 1)&&((neI x0.pick.place (-1))&&(neI x0.drop.place (-1)))))||(ltI x0.last_ (-1)))=false)),oR True ((((!r7)||((gtI x0.split 1)&&((neI x0.pick.place (-1))&&(neI x0.drop.place (-1)))))||(ltI x0.last_ (-1)))=false),rp 2 (oI (((((!r7)||((gtI x0.split 1)&&((neI x0.pick.place (-1))&&(neI x0.drop.place (-1)))))||(ltI x0.last_ (-1)))||(geI x0.last_ types))=false)),oR True (((((!r7)||((gtI x0.split 1)&&((neI x0.pick.place (-1))&&(neI x0.drop.place (-1)))))||(ltI x0.last_ (-1)))||(geI x0.last_ types))=false),rp 3 (oI ((((((!r7)||((gtI x0.split 1)&&((neI x0.pick.place (-1))&&(neI x0.drop.place (-1)))))||(ltI x0.last_ (-1)))||(geI x0.last_ types))||(ltI x0.now (-1)))=false)),oR True ((((((!r7)||((gtI x0.split 1)&&((neI x0.pick.place (-1))&&(neI x0.drop.place (-1)))))||(ltI x0.last_ (-1)))||(geI x0.last_ types))||(ltI x0.now (-1)))=false),bT h28,oO (Eq.refl ([2].map QaM).length),aO QaM h29,hW 5,hH (.frz 3),rp 4 (oO (Eq.refl ((l6++[2]).map QaM).length))]
  ·obtain rfl:=Option.some.inj h
   exact gr 9 [] [rp 5 hP,rp 3 (oI ((neI x0.pick.place (-1))=true)),oR True ((neI x0.pick.place (-1))=true),cC (QaH h25),rp 3 (nF h26),cC (QaH h27),rp 2 (nF h26),rp 26 hP,rp 4 (oI ((!r7)=false)),oI (((!r7)=false)∧(gtI x0.split 1)=true),oR True ((!r7)=false),rp 2 (oI (((!r7)||((gtI x0.split 1)&&((neI x0.pick.place (-1))&&(neI x0.drop.place (-1)))))=false)),oR True (((!r7)||((gtI x0.split 1)&&((neI x0.pick.place (-1))&&(neI x0.drop.place (-1)))))=false),rp 3 (oI ((((!r7)||((gtI x0.split 1)&&((neI x0.pick.place (-1))&&(neI x0.drop.place (-1)))))||(ltI x0.last_ (-1)))=false)),oR True ((((!r7)||((gtI x0.split 1)&&((neI x0.pick.place (-1))&&(neI x0.drop.place (-1)))))||(ltI x0.last_ (-1)))=false),rp 2 (oI (((((!r7)||((gtI x0.split 1)&&((neI x0.pick.place (-1))&&(neI x0.drop.place (-1)))))||(ltI x0.last_ (-1)))||(geI x0.last_ types))=false)),oR True (((((!r7)||((gtI x0.split 1)&&((neI x0.pick.place (-1))&&(neI x0.drop.place (-1)))))||(ltI x0.last_ (-1)))||(geI x0.last_ types))=false),rp 3 (oI ((((((!r7)||((gtI x0.split 1)&&((neI x0.pick.place (-1))&&(neI x0.drop.place (-1)))))||(ltI x0.last_ (-1)))||(geI x0.last_ types))||(ltI x0.now (-1)))=false)),oR True ((((((!r7)||((gtI x0.split 1)&&((neI x0.pick.place (-1))&&(neI x0.drop.place (-1)))))||(ltI x0.last_ (-1)))||(geI x0.last_ types))||(ltI x0.now (-1)))=false),bF h28,hW 5,hH (.frz 0),rp 3 (eL l6 QaM)]
 ·obtain ⟨h30,h⟩:=Qau h
  obtain rfl:=Option.some.inj h
  exact gr 9 [] [rp 5 hP,rp 3 (oI ((neI x0.pick.place (-1))=true)),oR True ((neI x0.pick.place (-1))=true),cC (QaH h25),rp 5 (nT h26),rp 4 tT,kF,rp 21 tT,oO (Eq.refl ([2].map QaM).length),aO QaM h30,hW 5,hH (.frz 3),rp 4 (oO (Eq.refl ((l6++[2]).map QaM).length))]
theorem QlJ (Γ:Gam) (rv:List Int) {types x0 l8} (h:Qh4 types x0 l8=some rv):QbO Γ rv ⟨[.c 2047],⟨156,[vI 2 types,vO 11 0 1 l8 QaM,vP 12 1 16],[oS 1 40 l8 QaM,oX 16 124 (Qai.enc x0)]⟩⟩:=by
 unfold Qh4 at h
 obtain ⟨r10,h37,h⟩:=Qae h
 rcases Qah h with ⟨h38,h⟩|⟨h38,h⟩
 ·obtain ⟨r11,h39,h⟩:=Qae h
  rcases Qah h with ⟨h40,h⟩|⟨h40,h⟩
  ·obtain ⟨h41,h⟩:=Qau h
   obtain rfl:=Option.some.inj h
   exact gr 9 [] [rp 5 hP,rp 3 (oI ((neI x0.pick.place (-1))=true)),oR True ((neI x0.pick.place (-1))=true),cC (QaH h37),rp 3 (nF h38),cC (QaH h39),rp 2 (nF h38),rp 26 hP,rp 4 (oI ((!r11)=false)),oI (((!r11)=false)∧(gtI x0.split 1)=true),oR True ((!r11)=false),rp 2 (oI (((!r11)||((gtI x0.split 1)&&((neI x0.pick.place (-1))&&(neI x0.drop.place (-1)))))=false)),oR True (((!r11)||((gtI x0.split 1)&&((neI x0.pick.place (-1))&&(neI x0.drop.place (-1)))))=false),rp 3 (oI ((((!r11)||((gtI x0.split 1)&&((neI x0.pick.place (-1))&&(neI x0.drop.place (-1)))))||(ltI x0.last_ (-1)))=false)),oR True ((((!r11)||((gtI x0.split 1)&&((neI x0.pick.place (-1))&&(neI x0.drop.place (-1)))))||(ltI x0.last_ (-1)))=false),rp 2 (oI (((((!r11)||((gtI x0.split 1)&&((neI x0.pick.place (-1))&&(neI x0.drop.place (-1)))))||(ltI x0.last_ (-1)))||(geI x0.last_ types))=false)),oR True (((((!r11)||((gtI x0.split 1)&&((neI x0.pick.place (-1))&&(neI x0.drop.place (-1)))))||(ltI x0.last_ (-1)))||(geI x0.last_ types))=false),rp 3 (oI ((((((!r11)||((gtI x0.split 1)&&((neI x0.pick.place (-1))&&(neI x0.drop.place (-1)))))||(ltI x0.last_ (-1)))||(geI x0.last_ types))||(ltI x0.now (-1)))=false)),oR True ((((((!r11)||((gtI x0.split 1)&&((neI x0.pick.place (-1))&&(neI x0.drop.place (-1)))))||(ltI x0.last_ (-1)))||(geI x0.last_ types))||(ltI x0.now (-1)))=false),bT h40,oO (Eq.refl ([2].map QaM).length),aO QaM h41,hW 5,hH (.frz 3),rp 4 (oO (Eq.refl ((l8++[2]).map QaM).length))]
  ·obtain rfl:=Option.some.inj h
   exact gr 9 [] [rp 5 hP,rp 3 (oI ((neI x0.pick.place (-1))=true)),oR True ((neI x0.pick.place (-1))=true),cC (QaH h37),rp 3 (nF h38),cC (QaH h39),rp 2 (nF h38),rp 26 hP,rp 4 (oI ((!r11)=false)),oI (((!r11)=false)∧(gtI x0.split 1)=true),oR True ((!r11)=false),rp 2 (oI (((!r11)||((gtI x0.split 1)&&((neI x0.pick.place (-1))&&(neI x0.drop.place (-1)))))=false)),oR True (((!r11)||((gtI x0.split 1)&&((neI x0.pick.place (-1))&&(neI x0.drop.place (-1)))))=false),rp 3 (oI ((((!r11)||((gtI x0.split 1)&&((neI x0.pick.place (-1))&&(neI x0.drop.place (-1)))))||(ltI x0.last_ (-1)))=false)),oR True ((((!r11)||((gtI x0.split 1)&&((neI x0.pick.place (-1))&&(neI x0.drop.place (-1)))))||(ltI x0.last_ (-1)))=false),rp 2 (oI (((((!r11)||((gtI x0.split 1)&&((neI x0.pick.place (-1))&&(neI x0.drop.place (-1)))))||(ltI x0.last_ (-1)))||(geI x0.last_ types))=false)),oR True (((((!r11)||((gtI x0.split 1)&&((neI x0.pick.place (-1))&&(neI x0.drop.place (-1)))))||(ltI x0.last_ (-1)))||(geI x0.last_ types))=false),rp 3 (oI ((((((!r11)||((gtI x0.split 1)&&((neI x0.pick.place (-1))&&(neI x0.drop.place (-1)))))||(ltI x0.last_ (-1)))||(geI x0.last_ types))||(ltI x0.now (-1)))=false)),oR True ((((((!r11)||((gtI x0.split 1)&&((neI x0.pick.place (-1))&&(neI x0.drop.place (-1)))))||(ltI x0.last_ (-1)))||(geI x0.last_ types))||(ltI x0.now (-1)))=false),bF h40,hW 5,hH (.frz 0),rp 3 (eL l8 QaM)]
 ·obtain ⟨h42,h⟩:=Qau h
  obtain rfl:=Option.some.inj h
  exact gr 9 [] [rp 5 hP,rp 3 (oI ((neI x0.pick.place (-1))=true)),oR True ((neI x0.pick.place (-1))=true),cC (QaH h37),rp 5 (nT h38),rp 4 tT,kF,rp 21 tT,oO (Eq.refl ([2].map QaM).length),aO QaM h42,hW 5,hH (.frz 3),rp 4 (oO (Eq.refl ((l8++[2]).map QaM).length))]
theorem QlI (Γ:Gam) (rv:List Int) {types x0 l7} (h:Qfi types x0 l7=some rv):QbO Γ rv ⟨[.c 1023],⟨156,[vI 2 types,vO 11 0 1 l7 QaM,vP 12 1 16],[oS 1 40 l7 QaM,oX 16 124 (Qai.enc x0)]⟩⟩:=by
 unfold Qfi at h
 obtain ⟨r9,h34,h⟩:=Qae h
 rcases Qah h with ⟨h35,h⟩|⟨h35,h⟩
 ·exact gn 5 [2,11,12] [0,1] [cC (QaH h34),nF h35] (QlJ Γ rv h)
 ·obtain ⟨h36,h⟩:=Qau h
  exact gn 5 [2,11,12] [3,1] [cC (QaH h34),nT h35,oO (Eq.refl ([18].map QaM).length),aO QaM h36] (QlJ Γ rv h)
theorem QlG (Γ:Gam) (rv:List Int) {types x0 l5} (h:Qfg types x0 l5=some rv):QbO Γ rv ⟨[.c 511],⟨156,[vI 2 types,vO 11 0 1 l5 QaM,vP 12 1 16],[oS 1 40 l5 QaM,oX 16 124 (Qai.enc x0)]⟩⟩:=by
 unfold Qfg at h
 obtain ⟨r4,h19,h⟩:=Qae h
 rcases Qah h with ⟨h20,h⟩|⟨h20,h⟩
 ·obtain ⟨h21,h⟩:=Qau h
  obtain ⟨r5,h22,h⟩:=Qae h
  rcases Qah h with ⟨h23,h⟩|⟨h23,h⟩
  ·exact gn 10 [2,11,12] [3,1] [cC (QbQ h19),rp 5 (bT h20),tT,oO (Eq.refl ([14].map QaM).length),aO QaM h21,cC (QaH h22),nF h23] (QlH Γ rv h)
  ·obtain ⟨h24,h⟩:=Qau h
   exact gn 10 [2,11,12] [5,1] [cC (QbQ h19),rp 5 (bT h20),tT,oO (Eq.refl ([14].map QaM).length),aO QaM h21,cC (QaH h22),nT h23,oO (Eq.refl ([18].map QaM).length),aO QaM h24] (QlH Γ rv h)
 ·obtain ⟨r8,h31,h⟩:=Qae h
  rcases Qah h with ⟨h32,h⟩|⟨h32,h⟩
  ·obtain ⟨h33,h⟩:=Qau h
   exact gn 5 [2,11,12] [3,1] [cC (QbQ h19),rp 3 (bF h20),cC (QbQ h31),rp 2 (bF h20),bT h32,oO (Eq.refl ([14].map QaM).length),aO QaM h33] (QlI Γ rv h)
  ·exact gn 5 [2,11,12] [0,1] [cC (QbQ h19),rp 3 (bF h20),cC (QbQ h31),rp 2 (bF h20),bF h32] (QlI Γ rv h)
theorem QlF (Γ:Gam) (rv:List Int) {types x0 l4} (h:Qff types x0 l4=some rv):QbO Γ rv ⟨[.c 255],⟨156,[vI 2 types,vO 11 0 1 l4 QaM,vP 12 1 16],[oS 1 40 l4 QaM,oX 16 124 (Qai.enc x0)]⟩⟩:=by
 unfold Qff at h
 rcases Qah h with ⟨h17,h⟩|⟨h17,h⟩
 ·obtain ⟨h18,h⟩:=Qau h
  exact gn 5 [2,11,12] [3,1] [rp 5 hP,rp 3 (oI ((eqI x0.pick.place (-1))=true)),oR True ((eqI x0.pick.place (-1))=true),bT h17,oO (Eq.refl ([19].map QaM).length),aO QaM h18] (QlG Γ rv h)
 ·exact gn 5 [2,11,12] [0,1] [rp 5 hP,rp 3 (oI ((eqI x0.pick.place (-1))=true)),oR True ((eqI x0.pick.place (-1))=true),bF h17] (QlG Γ rv h)
theorem QlL (Γ:Gam) (rv:List Int) {types x0 l10} (h:Qh6 types x0 l10=some rv):QbO Γ rv ⟨[.c 2047],⟨156,[vI 2 types,vO 11 0 1 l10 QaM,vP 12 1 16],[oS 1 40 l10 QaM,oX 16 124 (Qai.enc x0)]⟩⟩:=by
 unfold Qh6 at h
 obtain ⟨r14,h52,h⟩:=Qae h
 rcases Qah h with ⟨h53,h⟩|⟨h53,h⟩
 ·obtain ⟨r15,h54,h⟩:=Qae h
  rcases Qah h with ⟨h55,h⟩|⟨h55,h⟩
  ·obtain ⟨h56,h⟩:=Qau h
   obtain rfl:=Option.some.inj h
   exact gr 9 [] [rp 5 hP,rp 3 (oI ((neI x0.pick.place (-1))=true)),oR True ((neI x0.pick.place (-1))=true),cC (QaH h52),rp 3 (nF h53),cC (QaH h54),rp 2 (nF h53),rp 26 hP,rp 4 (oI ((!r15)=false)),oI (((!r15)=false)∧(gtI x0.split 1)=true),oR True ((!r15)=false),rp 2 (oI (((!r15)||((gtI x0.split 1)&&((neI x0.pick.place (-1))&&(neI x0.drop.place (-1)))))=false)),oR True (((!r15)||((gtI x0.split 1)&&((neI x0.pick.place (-1))&&(neI x0.drop.place (-1)))))=false),rp 3 (oI ((((!r15)||((gtI x0.split 1)&&((neI x0.pick.place (-1))&&(neI x0.drop.place (-1)))))||(ltI x0.last_ (-1)))=false)),oR True ((((!r15)||((gtI x0.split 1)&&((neI x0.pick.place (-1))&&(neI x0.drop.place (-1)))))||(ltI x0.last_ (-1)))=false),rp 2 (oI (((((!r15)||((gtI x0.split 1)&&((neI x0.pick.place (-1))&&(neI x0.drop.place (-1)))))||(ltI x0.last_ (-1)))||(geI x0.last_ types))=false)),oR True (((((!r15)||((gtI x0.split 1)&&((neI x0.pick.place (-1))&&(neI x0.drop.place (-1)))))||(ltI x0.last_ (-1)))||(geI x0.last_ types))=false),rp 3 (oI ((((((!r15)||((gtI x0.split 1)&&((neI x0.pick.place (-1))&&(neI x0.drop.place (-1)))))||(ltI x0.last_ (-1)))||(geI x0.last_ types))||(ltI x0.now (-1)))=false)),oR True ((((((!r15)||((gtI x0.split 1)&&((neI x0.pick.place (-1))&&(neI x0.drop.place (-1)))))||(ltI x0.last_ (-1)))||(geI x0.last_ types))||(ltI x0.now (-1)))=false),bT h55,oO (Eq.refl ([2].map QaM).length),aO QaM h56,hW 5,hH (.frz 3),rp 4 (oO (Eq.refl ((l10++[2]).map QaM).length))]
  ·obtain rfl:=Option.some.inj h
   exact gr 9 [] [rp 5 hP,rp 3 (oI ((neI x0.pick.place (-1))=true)),oR True ((neI x0.pick.place (-1))=true),cC (QaH h52),rp 3 (nF h53),cC (QaH h54),rp 2 (nF h53),rp 26 hP,rp 4 (oI ((!r15)=false)),oI (((!r15)=false)∧(gtI x0.split 1)=true),oR True ((!r15)=false),rp 2 (oI (((!r15)||((gtI x0.split 1)&&((neI x0.pick.place (-1))&&(neI x0.drop.place (-1)))))=false)),oR True (((!r15)||((gtI x0.split 1)&&((neI x0.pick.place (-1))&&(neI x0.drop.place (-1)))))=false),rp 3 (oI ((((!r15)||((gtI x0.split 1)&&((neI x0.pick.place (-1))&&(neI x0.drop.place (-1)))))||(ltI x0.last_ (-1)))=false)),oR True ((((!r15)||((gtI x0.split 1)&&((neI x0.pick.place (-1))&&(neI x0.drop.place (-1)))))||(ltI x0.last_ (-1)))=false),rp 2 (oI (((((!r15)||((gtI x0.split 1)&&((neI x0.pick.place (-1))&&(neI x0.drop.place (-1)))))||(ltI x0.last_ (-1)))||(geI x0.last_ types))=false)),oR True (((((!r15)||((gtI x0.split 1)&&((neI x0.pick.place (-1))&&(neI x0.drop.place (-1)))))||(ltI x0.last_ (-1)))||(geI x0.last_ types))=false),rp 3 (oI ((((((!r15)||((gtI x0.split 1)&&((neI x0.pick.place (-1))&&(neI x0.drop.place (-1)))))||(ltI x0.last_ (-1)))||(geI x0.last_ types))||(ltI x0.now (-1)))=false)),oR True ((((((!r15)||((gtI x0.split 1)&&((neI x0.pick.place (-1))&&(neI x0.drop.place (-1)))))||(ltI x0.last_ (-1)))||(geI x0.last_ types))||(ltI x0.now (-1)))=false),bF h55,hW 5,hH (.frz 0),rp 3 (eL l10 QaM)]
 ·obtain ⟨h57,h⟩:=Qau h
  obtain rfl:=Option.some.inj h
  exact gr 9 [] [rp 5 hP,rp 3 (oI ((neI x0.pick.place (-1))=true)),oR True ((neI x0.pick.place (-1))=true),cC (QaH h52),rp 5 (nT h53),rp 4 tT,kF,rp 21 tT,oO (Eq.refl ([2].map QaM).length),aO QaM h57,hW 5,hH (.frz 3),rp 4 (oO (Eq.refl ((l10++[2]).map QaM).length))]
theorem QkD (Γ:Gam) (rv:List Int) {types x0 l12} (h:Qhs types x0 l12=some rv):QbO Γ rv ⟨[.c 2047],⟨156,[vI 2 types,vO 11 0 1 l12 QaM,vP 12 1 16],[oS 1 40 l12 QaM,oX 16 124 (Qai.enc x0)]⟩⟩:=by
 unfold Qhs at h
 obtain ⟨r18,h64,h⟩:=Qae h
 rcases Qah h with ⟨h65,h⟩|⟨h65,h⟩
 ·obtain ⟨r19,h66,h⟩:=Qae h
  rcases Qah h with ⟨h67,h⟩|⟨h67,h⟩
  ·obtain ⟨h68,h⟩:=Qau h
   obtain rfl:=Option.some.inj h
   exact gr 9 [] [rp 5 hP,rp 3 (oI ((neI x0.pick.place (-1))=true)),oR True ((neI x0.pick.place (-1))=true),cC (QaH h64),rp 3 (nF h65),cC (QaH h66),rp 2 (nF h65),rp 26 hP,rp 4 (oI ((!r19)=false)),oI (((!r19)=false)∧(gtI x0.split 1)=true),oR True ((!r19)=false),rp 2 (oI (((!r19)||((gtI x0.split 1)&&((neI x0.pick.place (-1))&&(neI x0.drop.place (-1)))))=false)),oR True (((!r19)||((gtI x0.split 1)&&((neI x0.pick.place (-1))&&(neI x0.drop.place (-1)))))=false),rp 3 (oI ((((!r19)||((gtI x0.split 1)&&((neI x0.pick.place (-1))&&(neI x0.drop.place (-1)))))||(ltI x0.last_ (-1)))=false)),oR True ((((!r19)||((gtI x0.split 1)&&((neI x0.pick.place (-1))&&(neI x0.drop.place (-1)))))||(ltI x0.last_ (-1)))=false),rp 2 (oI (((((!r19)||((gtI x0.split 1)&&((neI x0.pick.place (-1))&&(neI x0.drop.place (-1)))))||(ltI x0.last_ (-1)))||(geI x0.last_ types))=false)),oR True (((((!r19)||((gtI x0.split 1)&&((neI x0.pick.place (-1))&&(neI x0.drop.place (-1)))))||(ltI x0.last_ (-1)))||(geI x0.last_ types))=false),rp 3 (oI ((((((!r19)||((gtI x0.split 1)&&((neI x0.pick.place (-1))&&(neI x0.drop.place (-1)))))||(ltI x0.last_ (-1)))||(geI x0.last_ types))||(ltI x0.now (-1)))=false)),oR True ((((((!r19)||((gtI x0.split 1)&&((neI x0.pick.place (-1))&&(neI x0.drop.place (-1)))))||(ltI x0.last_ (-1)))||(geI x0.last_ types))||(ltI x0.now (-1)))=false),bT h67,oO (Eq.refl ([2].map QaM).length),aO QaM h68,hW 5,hH (.frz 3),rp 4 (oO (Eq.refl ((l12++[2]).map QaM).length))]
  ·obtain rfl:=Option.some.inj h
   exact gr 9 [] [rp 5 hP,rp 3 (oI ((neI x0.pick.place (-1))=true)),oR True ((neI x0.pick.place (-1))=true),cC (QaH h64),rp 3 (nF h65),cC (QaH h66),rp 2 (nF h65),rp 26 hP,rp 4 (oI ((!r19)=false)),oI (((!r19)=false)∧(gtI x0.split 1)=true),oR True ((!r19)=false),rp 2 (oI (((!r19)||((gtI x0.split 1)&&((neI x0.pick.place (-1))&&(neI x0.drop.place (-1)))))=false)),oR True (((!r19)||((gtI x0.split 1)&&((neI x0.pick.place (-1))&&(neI x0.drop.place (-1)))))=false),rp 3 (oI ((((!r19)||((gtI x0.split 1)&&((neI x0.pick.place (-1))&&(neI x0.drop.place (-1)))))||(ltI x0.last_ (-1)))=false)),oR True ((((!r19)||((gtI x0.split 1)&&((neI x0.pick.place (-1))&&(neI x0.drop.place (-1)))))||(ltI x0.last_ (-1)))=false),rp 2 (oI (((((!r19)||((gtI x0.split 1)&&((neI x0.pick.place (-1))&&(neI x0.drop.place (-1)))))||(ltI x0.last_ (-1)))||(geI x0.last_ types))=false)),oR True (((((!r19)||((gtI x0.split 1)&&((neI x0.pick.place (-1))&&(neI x0.drop.place (-1)))))||(ltI x0.last_ (-1)))||(geI x0.last_ types))=false),rp 3 (oI ((((((!r19)||((gtI x0.split 1)&&((neI x0.pick.place (-1))&&(neI x0.drop.place (-1)))))||(ltI x0.last_ (-1)))||(geI x0.last_ types))||(ltI x0.now (-1)))=false)),oR True ((((((!r19)||((gtI x0.split 1)&&((neI x0.pick.place (-1))&&(neI x0.drop.place (-1)))))||(ltI x0.last_ (-1)))||(geI x0.last_ types))||(ltI x0.now (-1)))=false),bF h67,hW 5,hH (.frz 0),rp 3 (eL l12 QaM)]
 ·obtain ⟨h69,h⟩:=Qau h
  obtain rfl:=Option.some.inj h
  exact gr 9 [] [rp 5 hP,rp 3 (oI ((neI x0.pick.place (-1))=true)),oR True ((neI x0.pick.place (-1))=true),cC (QaH h64),rp 5 (nT h65),rp 4 tT,kF,rp 21 tT,oO (Eq.refl ([2].map QaM).length),aO QaM h69,hW 5,hH (.frz 3),rp 4 (oO (Eq.refl ((l12++[2]).map QaM).length))]
theorem QkC (Γ:Gam) (rv:List Int) {types x0 l11} (h:Qhr types x0 l11=some rv):QbO Γ rv ⟨[.c 1023],⟨156,[vI 2 types,vO 11 0 1 l11 QaM,vP 12 1 16],[oS 1 40 l11 QaM,oX 16 124 (Qai.enc x0)]⟩⟩:=by
 unfold Qhr at h
 obtain ⟨r17,h61,h⟩:=Qae h
 rcases Qah h with ⟨h62,h⟩|⟨h62,h⟩
 ·exact gn 5 [2,11,12] [0,1] [cC (QaH h61),nF h62] (QkD Γ rv h)
 ·obtain ⟨h63,h⟩:=Qau h
  exact gn 5 [2,11,12] [3,1] [cC (QaH h61),nT h62,oO (Eq.refl ([18].map QaM).length),aO QaM h63] (QkD Γ rv h)
theorem QlK (Γ:Gam) (rv:List Int) {types x0 l9} (h:Qh5 types x0 l9=some rv):QbO Γ rv ⟨[.c 511],⟨156,[vI 2 types,vO 11 0 1 l9 QaM,vP 12 1 16],[oS 1 40 l9 QaM,oX 16 124 (Qai.enc x0)]⟩⟩:=by
 unfold Qh5 at h
 obtain ⟨r12,h46,h⟩:=Qae h
 rcases Qah h with ⟨h47,h⟩|⟨h47,h⟩
 ·obtain ⟨h48,h⟩:=Qau h
  obtain ⟨r13,h49,h⟩:=Qae h
  rcases Qah h with ⟨h50,h⟩|⟨h50,h⟩
  ·exact gn 10 [2,11,12] [3,1] [cC (QbQ h46),rp 5 (bT h47),tT,oO (Eq.refl ([14].map QaM).length),aO QaM h48,cC (QaH h49),nF h50] (QlL Γ rv h)
  ·obtain ⟨h51,h⟩:=Qau h
   exact gn 10 [2,11,12] [5,1] [cC (QbQ h46),rp 5 (bT h47),tT,oO (Eq.refl ([14].map QaM).length),aO QaM h48,cC (QaH h49),nT h50,oO (Eq.refl ([18].map QaM).length),aO QaM h51] (QlL Γ rv h)
 ·obtain ⟨r16,h58,h⟩:=Qae h
  rcases Qah h with ⟨h59,h⟩|⟨h59,h⟩
  ·obtain ⟨h60,h⟩:=Qau h
   exact gn 5 [2,11,12] [3,1] [cC (QbQ h46),rp 3 (bF h47),cC (QbQ h58),rp 2 (bF h47),bT h59,oO (Eq.refl ([14].map QaM).length),aO QaM h60] (QkC Γ rv h)
  ·exact gn 5 [2,11,12] [0,1] [cC (QbQ h46),rp 3 (bF h47),cC (QbQ h58),rp 2 (bF h47),bF h59] (QkC Γ rv h)
theorem QlE (Γ:Gam) (rv:List Int) {places types x0 l3} (h:Qcj places types x0 l3=some rv):QbO Γ rv ⟨[.c 127],⟨156,[vI 0 places,vI 2 types,vO 11 0 1 l3 QaM,vP 12 1 16],[oS 1 40 l3 QaM,oX 16 124 (Qai.enc x0)]⟩⟩:=by
 unfold Qcj at h
 obtain ⟨r2,h12,h⟩:=Qae h
 rcases Qah h with ⟨h13,h⟩|⟨h13,h⟩
 ·obtain ⟨r3,h14,h⟩:=Qae h
  rcases Qah h with ⟨h15,h⟩|⟨h15,h⟩
  ·exact gn 5 [2,11,12] [0,1] [cC (QaH h12),rp 6 (nF h13),cC (QaH h14),rp 2 (nF h13),nF h15] (QlF Γ rv h)
  ·obtain ⟨h16,h⟩:=Qau h
   exact gn 5 [2,11,12] [3,1] [cC (QaH h12),rp 6 (nF h13),cC (QaH h14),rp 2 (nF h13),nT h15,oO (Eq.refl ([11].map QaM).length),aO QaM h16] (QlF Γ rv h)
 ·obtain ⟨h43,h⟩:=Qau h
  rcases Qah h with ⟨h44,h⟩|⟨h44,h⟩
  ·obtain ⟨h45,h⟩:=Qau h
   exact gn 10 [2,11,12] [5,1] [cC (QaH h12),rp 8 (nT h13),tT,oO (Eq.refl ([11].map QaM).length),aO QaM h43,rp 5 hP,rp 3 (oI ((eqI x0.pick.place (-1))=true)),oR True ((eqI x0.pick.place (-1))=true),bT h44,oO (Eq.refl ([19].map QaM).length),aO QaM h45] (QlK Γ rv h)
  ·exact gn 10 [2,11,12] [3,1] [cC (QaH h12),rp 8 (nT h13),tT,oO (Eq.refl ([11].map QaM).length),aO QaM h43,rp 5 hP,rp 3 (oI ((eqI x0.pick.place (-1))=true)),oR True ((eqI x0.pick.place (-1))=true),bF h44] (QlK Γ rv h)
theorem QlD (Γ:Gam) (rv:List Int) {places dims types l at_ x0 l1} (h:Qfe places dims types l at_ x0 l1=some rv):QbO Γ rv ⟨[.c 31],⟨156,[vI 0 places,vI 1 dims,vI 2 types,vL 3 16 l Qai.enc,vI 4 at_,vO 11 0 1 l1 QaM,vP 12 1 16],[oS 1 40 l1 QaM,oX 16 124 (Qai.enc x0)]⟩⟩:=by
 unfold Qfe at h
 obtain ⟨e0,h8,h⟩:=Qae h
 refine gn 5 [0,1,2,3,4,11,12,13] [0,1] [] (QrX Γ rv h8 ?_)
 obtain ⟨l2,rfl⟩:∃ x,x=e0:=⟨_,rfl⟩
 replace h:(bnd (QfV x0.load dims) fun r1=>br r1 (Qcj places types x0 l2) (chk (okN (l2++[17]).length 8) (Qcj places types x0 (l2++[17]))):Option (List Int))=some _:=h
 obtain ⟨r1,h9,h⟩:=Qae h
 rcases Qah h with ⟨h10,h⟩|⟨h10,h⟩
 ·exact gn 5 [0,2,11,12] [0,1] [cC (QoN h9),nF h10] (QlE Γ rv h)
 ·obtain ⟨h11,h⟩:=Qau h
  exact gn 5 [0,2,11,12] [3,1] [cC (QoN h9),nT h10,oO (Eq.refl ([17].map QaM).length),aO QaM h11] (QlE Γ rv h)
theorem Que {places dims types l at_} {rv:List Int} (h:Qim places dims types l at_=some rv):AFn Tryz.prog 114 [.one (lI places),.one (lI dims),.one (lI types),.one (lL 16 l Qai.enc),.one (lI at_)] [] (one (lL 1 rv QaM)) []:=by
 refine QaQ Tryz.func114 (by kernel_rfl) (by kernel_rfl) (fun Γ=>?_)
 unfold Qim at h
 obtain ⟨x0,h0,h⟩:=Qae h
 obtain ⟨r,h1,h⟩:=Qae h
 rcases Qah h with ⟨h2,h⟩|⟨h2,h⟩
 ·exact gn 11 [0,1,2,3,4,11,12] [1,0] [cE Qai.enc h0,cC (QfJ h1),nF h2,hW 1,hH (.adopt 11 1 40)] (QlD Γ rv h)
 ·obtain ⟨h3,h⟩:=Qau h
  exact gn 11 [0,1,2,3,4,11,12] [2,0] [cE Qai.enc h0,cC (QfJ h1),nT h2,oO (Eq.refl ([5].map QaM).length),aN (l:=([5]:List Int)) QaM h3] (QlD Γ rv h)
def Qg5 (Γ:Gam) (rv:List Qab) (cf:Cf):Prop:=Go Tryz.prog Tryz.f74 [] Γ (one (lL 2 rv Qab.enc)) [] cf
def QmS (Γ:Gam) (rv:List Qab) (n:Qal) (dims:Int) (types:Int) (l:List Qai) (i:Int) (r:List Int) (l3:List Qab) (k:Int):Prop:=Qg5 Γ rv ⟨[.c 31308,.l 31308,.b 2,.b 1,.c 979,.l 244,.b 0,.c 31],⟨51,[vI 1 dims,vI 2 types,vL 3 16 l Qai.enc,vP 4 0 2,vO 9 1 2 l3 Qab.enc,vI 10 i,vL 11 1 r QaM,vI 12 k],[oX 2 25 (Qal.enc n),oS 2 151 l3 Qab.enc]⟩⟩
def QlC (Γ:Gam) (rv:List Qab) (n:Qal) (dims:Int) (types:Int) (l:List Qai) (i:Int) (r:List Int) (l4:List Qab):Prop:=Qg5 Γ rv ⟨[.b 1,.c 979,.l 244,.b 0,.c 31],⟨51,[vI 1 dims,vI 2 types,vL 3 16 l Qai.enc,vP 4 0 2,vO 9 1 2 l4 Qab.enc,vI 10 i],[oX 2 25 (Qal.enc n),oS 2 151 l4 Qab.enc]⟩⟩
def QmR (Γ:Gam) (rv:List Qab) (n:Qal) (dims:Int) (types:Int) (l:List Qai) (l2:List Qab) (i:Int):Prop:=Qg5 Γ rv ⟨[.c 244,.l 244,.b 0,.c 31],⟨51,[vI 1 dims,vI 2 types,vL 3 16 l Qai.enc,vP 4 0 2,vO 9 1 2 l2 Qab.enc,vI 10 i],[oX 2 25 (Qal.enc n),oS 2 151 l2 Qab.enc]⟩⟩
def QlB (Γ:Gam) (rv:List Qab) (n:Qal) (dims:Int) (types:Int) (l:List Qai) (l5:List Qab):Prop:=Qg5 Γ rv ⟨[.c 31],⟨51,[vO 9 0 2 l5 Qab.enc],[oS 2 151 l5 Qab.enc]⟩⟩
theorem QrW (Γ:Gam) (rv:List Qab) {n dims types l i r} {s:List Qab×Int} {e:List Qab} (h:QaW (fun s=>Qh3 n dims types l i r s.1 s.2) s=some e) (hD:QlC Γ rv n dims types l i r e):QmS Γ rv n dims types l i r s.1 s.2:=by
 refine QaA (C:=fun (s:List Qab×Int)=>QmS Γ rv n dims types l i r s.1 s.2) (D:=fun (e:List Qab)=>QlC Γ rv n dims types l i r e) ?_ h hD
 clear h hD s e
 rintro ⟨l3,k⟩ z_ h hI hE
 replace h:Qh3 n dims types l i r l3 k=_:=h
 unfold Qh3 at h
 rcases Qah h with ⟨h4,h⟩|⟨h4,h⟩
 ·obtain ⟨x0,h5,h⟩:=Qae h
  obtain ⟨r1,h6,h⟩:=Qae h
  obtain ⟨h7,h⟩:=Qau h
  exact gn 11 [1,2,3,4,9,10,11,12] [0,3] [nL QaM r,bT h4,hH (.draw 9 []),cE QaM h5,cC (Qcc h6),oO (Eq.refl ([(Qab.mk x0 r1)].map Qab.enc).length),aO Qab.enc h7] (hI _ (oJ h))
 ·exact gn 5 [1,2,3,4,9,10] [0,1] [nL QaM r,bF h4] (hE _ (oJ h))
theorem QrV (Γ:Gam) (rv:List Qab) {n dims types l} {s:List Qab×Int} {e:List Qab} (h:QaW (fun s=>Qdx n dims types l s.1 s.2) s=some e) (hD:QlB Γ rv n dims types l e):QmR Γ rv n dims types l s.1 s.2:=by
 refine QaA (C:=fun (s:List Qab×Int)=>QmR Γ rv n dims types l s.1 s.2) (D:=fun (e:List Qab)=>QlB Γ rv n dims types l e) ?_ h hD
 clear h hD s e
 rintro ⟨l2,i⟩ z_ h hI hE
 replace h:Qdx n dims types l l2 i=_:=h
 unfold Qdx at h
 rcases Qah h with ⟨h2,h⟩|⟨h2,h⟩
 ·obtain ⟨r,h3,h⟩:=Qae h
  obtain ⟨e0,h8,h⟩:=Qae h
  refine gn 13 [1,2,3,4,9,10,11,12] [0,1] [nL Qai.enc l,bT h2,nL QmE n.places,cC (Que h3)] (QrW Γ rv h8 ?_)
  obtain ⟨l4,rfl⟩:∃ x,x=e0:=⟨_,rfl⟩
  replace h:(some (.inl (l4,(addK .i64 i 1))):Option ((List Qab×Int)⊕(List Qab)))=some _:=h
  exact gn 3 [1,2,3,4,9,10] [0,1] [] (hI _ (oJ h))
 ·exact gn 5 [9] [1] [nL Qai.enc l,bF h2] (hE _ (oJ h))
theorem QlA (Γ:Gam) (rv:List Qab) {n dims types l l1} (h:Qgs n dims types l l1=some rv):Qg5 Γ rv ⟨[.c 15],⟨51,[vI 1 dims,vI 2 types,vL 3 16 l Qai.enc,vP 4 0 2,vO 9 1 2 l1 Qab.enc],[oX 2 25 (Qal.enc n),oS 2 151 l1 Qab.enc]⟩⟩:=by
 unfold Qgs at h
 obtain ⟨e1,h9,h⟩:=Qae h
 refine gn 5 [1,2,3,4,9,10] [0,1] [] (QrV Γ rv h9 ?_)
 obtain ⟨l5,rfl⟩:∃ x,x=e1:=⟨_,rfl⟩
 replace h:(some l5:Option (List Qab))=some _:=h
 obtain rfl:=Option.some.inj h
 exact gr 2 [] [hW 4,hH (.frz 0),rp 3 (eL l5 Qab.enc)]
theorem Quc {n dims types l} {rv:List Qab} (h:Qil n dims types l=some rv):AFn Tryz.prog 74 [.agg (Qal.enc n),.one (lI dims),.one (lI types),.one (lL 16 l Qai.enc)] [] (one (lL 2 rv Qab.enc)) []:=by
 refine QaQ Tryz.func74 (by kernel_rfl) (by kernel_rfl) (fun Γ=>?_)
 unfold Qil at h
 rcases Qah h with ⟨h0,h⟩|⟨h0,h⟩
 ·obtain ⟨h1,h⟩:=Qau h
  exact gn 9 [1,2,3,4,9] [0,2] [nL Qai.enc l,bT h0,oO (Eq.refl ([(Qab.mk 4 ByteArray.empty)].map Qab.enc).length),aN (l:=([(Qab.mk 4 ByteArray.empty)]:List Qab)) Qab.enc h1] (QlA Γ rv h)
 ·exact gn 9 [1,2,3,4,9] [0,1] [nL Qai.enc l,bF h0,hW 1,hH (.adopt 9 2 151)] (QlA Γ rv h)
def QnQ (Γ:Gam) (rv:ByteArray) (cf:Cf):Prop:=Go Tryz.prog Tryz.f165 [] Γ (one (.str rv)) [] cf
def QkE (Γ:Gam) (rv:ByteArray) (n1:Int) (s0:ByteArray):Prop:=QnQ Γ rv ⟨[.c 56,.l 56,.b 0,.c 15],⟨23,[vI 0 n1,vS 3 s0],[]⟩⟩
def Qj4 (Γ:Gam) (rv:ByteArray) (n2:Int) (s1:ByteArray):Prop:=QnQ Γ rv ⟨[.c 15],⟨23,[vI 0 n2,vS 3 s1],[]⟩⟩
theorem QqA (Γ:Gam) (rv:ByteArray) {s:Int×ByteArray} {e:Int×ByteArray} (h:QaW (fun s=>Qea s.1 s.2) s=some e) (hD:Qj4 Γ rv e.1 e.2):QkE Γ rv s.1 s.2:=by
 refine QaA (C:=fun (s:Int×ByteArray)=>QkE Γ rv s.1 s.2) (D:=fun (e:Int×ByteArray)=>Qj4 Γ rv e.1 e.2) ?_ h hD
 clear h hD s e
 rintro ⟨n1,s0⟩ z_ h hI hE
 replace h:Qea n1 s0=_:=h
 unfold Qea at h
 rcases Qah h with ⟨h0,h⟩|⟨h0,h⟩
 ·obtain ⟨h1,h⟩:=Qau h
  exact gn 11 [0,3] [] [bT h0,hH (.ints [(cvK .u8 (addK .i64 48 (remK n1 10)))]),oO (oA (n:=10)),oO (Eq.refl ([(cvK .u8 (addK .i64 48 (remK n1 10)))].map e_u8).length),oO (Eq.refl (([(cvK .u8 (addK .i64 48 (remK n1 10)))].map e_u8):List (List Lf))),oO (h1),oO (oA (n:=10))] (hI _ (oJ h))
 ·exact gn 5 [0,3] [] [bF h0] (hE _ (oJ h))
theorem QgU {n} {rv:ByteArray} (h:QfL n=some rv):AFn Tryz.prog 165 [.one (lI n)] [] (one (.str rv)) []:=by
 refine QaQ Tryz.func165 (by kernel_rfl) (by kernel_rfl) (fun Γ=>?_)
 unfold QfL at h
 obtain ⟨e0,h2,h⟩:=Qae h
 refine gn 7 [0,3] [] [] (QqA Γ rv h2 ?_)
 obtain ⟨n2,s1⟩:=e0
 replace h:(chk ((Qts [(cvK .u8 (addK .i64 48 n2))]).size+s1.size≤9223372036854775807) (some (catS (Qts [(cvK .u8 (addK .i64 48 n2))]) s1)):Option ByteArray)=some _:=h
 obtain ⟨h3,h⟩:=Qau h
 obtain rfl:=Option.some.inj h
 exact gr 2 [] [hH (.ints [(cvK .u8 (addK .i64 48 n2))]),oO (Eq.refl ([(cvK .u8 (addK .i64 48 n2))].map e_u8).length),oO (Eq.refl (([(cvK .u8 (addK .i64 48 n2))].map e_u8):List (List Lf))),oO (h3)]
def Qgt (Γ:Gam) (rv:List Qab) (cf:Cf):Prop:=Go Tryz.prog Tryz.f115 [] Γ (one (lL 2 rv Qab.enc)) [] cf
def QlO (Γ:Gam) (rv:List Qab) (orders:Int) (l:List QaO) (word:ByteArray) (turned:Bool) (l2:List Qab) (i:Int) (x0:QaO) (r:ByteArray) (twice:Bool) (k:Int):Prop:=Qgt Γ rv ⟨[.c 1001972,.l 1001972,.b 2,.c 125247,.b 1,.c 979,.l 244,.b 0,.c 31],⟨123,[vI 0 orders,vL 1 2 l QaO.enc,vS 2 word,vB 3 turned,vO 9 0 2 l2 Qab.enc,vI 10 i,vI 11 x0.x0,vI 12 x0.x1,vS 13 (catS (catS word Qdt) r),vB 14 twice,vI 15 k],[oS 2 151 l2 Qab.enc]⟩⟩
def QkH (Γ:Gam) (rv:List Qab) (orders:Int) (l:List QaO) (word:ByteArray) (turned:Bool) (l2:List Qab) (i:Int) (x0:QaO) (r:ByteArray) (twice1:Bool):Prop:=Qgt Γ rv ⟨[.c 125247,.b 1,.c 979,.l 244,.b 0,.c 31],⟨123,[vI 0 orders,vL 1 2 l QaO.enc,vS 2 word,vB 3 turned,vO 9 0 2 l2 Qab.enc,vI 10 i,vS 13 (catS (catS word Qdt) r),vB 14 twice1],[oS 2 151 l2 Qab.enc]⟩⟩
def QlN (Γ:Gam) (rv:List Qab) (orders:Int) (l:List QaO) (word:ByteArray) (turned:Bool) (l2:List Qab) (i:Int):Prop:=Qgt Γ rv ⟨[.c 244,.l 244,.b 0,.c 31],⟨123,[vI 0 orders,vL 1 2 l QaO.enc,vS 2 word,vB 3 turned,vO 9 0 2 l2 Qab.enc,vI 10 i],[oS 2 151 l2 Qab.enc]⟩⟩
def QkG (Γ:Gam) (rv:List Qab) (orders:Int) (l:List QaO) (word:ByteArray) (turned:Bool) (l3:List Qab):Prop:=Qgt Γ rv ⟨[.c 31],⟨123,[vO 9 0 2 l3 Qab.enc],[oS 2 151 l3 Qab.enc]⟩⟩
theorem Qrf (Γ:Gam) (rv:List Qab) {orders l word turned l2 i x0 r} {s:Bool×Int} {e:Bool} (h:QaW (fun s=>Qer orders l word turned l2 i x0 r s.1 s.2) s=some e) (hD:QkH Γ rv orders l word turned l2 i x0 r e):QlO Γ rv orders l word turned l2 i x0 r s.1 s.2:=by
 refine QaA (C:=fun (s:Bool×Int)=>QlO Γ rv orders l word turned l2 i x0 r s.1 s.2) (D:=fun (e:Bool)=>QkH Γ rv orders l word turned l2 i x0 r e) ?_ h hD
 clear h hD s e
 rintro ⟨twice,k⟩ z_ h hI hE
 replace h:Qer orders l word turned l2 i x0 r twice k=_:=h
 unfold Qer at h
 rcases Qah h with ⟨h9,h⟩|⟨h9,h⟩
 ·rcases Qah h with ⟨h10,h⟩|⟨h10,h⟩
  ·exact gn 11 [0,1,2,3,9,10,11,12,13,14,15] [0] [bT h9,rp 8 (bT h10),rp 7 kF,rp 2 (bT h10),tT,tT,rp 7 kF,tT,tT,rp 7 kF,tT,tT] (hI _ (oJ h))
  ·obtain ⟨x1,h11,h⟩:=Qae h
   rcases Qah h with ⟨h12,h⟩|⟨h12,h⟩
   ·rcases Qah h with ⟨h13,h⟩|⟨h13,h⟩
    ·exact gn 11 [0,1,2,3,9,10,11,12,13,14,15] [0] [bT h9,rp 3 (bF h10),cE QaO.enc h11,bF h10,oO (zL 0),oO (lT 0 2),rp 4 (bF h10),rp 3 (bT h12),cE QaO.enc h11,bT h12,oO (zL 1),oO (lT 1 2),rp 3 (bT h12),bF h10,bT h12,bF h10,rp 2 (bT h13),rp 7 kF,rp 2 (bT h13),rp 7 kF,rp 2 (bT h13)] (hI _ (oJ h))
    ·rcases Qah h with ⟨h14,h⟩|⟨h14,h⟩
     ·rcases Qah h with ⟨h15,h⟩|⟨h15,h⟩
      ·exact gn 11 [0,1,2,3,9,10,11,12,13,14,15] [0] [bT h9,rp 3 (bF h10),cE QaO.enc h11,bF h10,oO (zL 0),oO (lT 0 2),rp 4 (bF h10),rp 3 (bT h12),cE QaO.enc h11,bT h12,oO (zL 1),oO (lT 1 2),rp 3 (bT h12),bF h10,bT h12,bF h10,rp 2 (bF h13),rp 3 (bT h14),cE QaO.enc h11,bT h14,oO (zL 0),oO (lT 0 2),rp 3 (bT h14),bF h13,bT h14,bF h13,rp 3 (bT h15),cE QaO.enc h11,bT h15,oO (zL 1),oO (lT 1 2),rp 3 (bT h15),bF h13,bT h15,bF h13] (hI _ (oJ h))
      ·exact gn 11 [0,1,2,3,9,10,11,12,13,14,15] [0] [bT h9,rp 3 (bF h10),cE QaO.enc h11,bF h10,oO (zL 0),oO (lT 0 2),rp 4 (bF h10),rp 3 (bT h12),cE QaO.enc h11,bT h12,oO (zL 1),oO (lT 1 2),rp 3 (bT h12),bF h10,bT h12,bF h10,rp 2 (bF h13),rp 3 (bT h14),cE QaO.enc h11,bT h14,oO (zL 0),oO (lT 0 2),rp 3 (bT h14),bF h13,bT h14,bF h13,rp 7 (bF h15),bF h13,bF h15,bF h13] (hI _ (oJ h))
     ·exact gn 11 [0,1,2,3,9,10,11,12,13,14,15] [0] [bT h9,rp 3 (bF h10),cE QaO.enc h11,bF h10,oO (zL 0),oO (lT 0 2),rp 4 (bF h10),rp 3 (bT h12),cE QaO.enc h11,bT h12,oO (zL 1),oO (lT 1 2),rp 3 (bT h12),bF h10,bT h12,bF h10,rp 2 (bF h13),rp 7 (bF h14),bF h13,bF h14,bF h13,rp 7 fF,bF h13,fF,bF h13] (hI _ (oJ h))
   ·rcases Qah h with ⟨h16,h⟩|⟨h16,h⟩
    ·rcases Qah h with ⟨h17,h⟩|⟨h17,h⟩
     ·exact gn 11 [0,1,2,3,9,10,11,12,13,14,15] [0] [bT h9,rp 3 (bF h10),cE QaO.enc h11,bF h10,oO (zL 0),oO (lT 0 2),rp 4 (bF h10),rp 7 (bF h12),bF h10,bF h12,bF h10,fF,fF,rp 3 (bT h16),cE QaO.enc h11,bT h16,oO (zL 0),oO (lT 0 2),rp 3 (bT h16),fF,bT h16,fF,rp 3 (bT h17),cE QaO.enc h11,bT h17,oO (zL 1),oO (lT 1 2),rp 3 (bT h17),fF,bT h17,fF] (hI _ (oJ h))
     ·exact gn 11 [0,1,2,3,9,10,11,12,13,14,15] [0] [bT h9,rp 3 (bF h10),cE QaO.enc h11,bF h10,oO (zL 0),oO (lT 0 2),rp 4 (bF h10),rp 7 (bF h12),bF h10,bF h12,bF h10,fF,fF,rp 3 (bT h16),cE QaO.enc h11,bT h16,oO (zL 0),oO (lT 0 2),rp 3 (bT h16),fF,bT h16,fF,rp 7 (bF h17),fF,bF h17,fF] (hI _ (oJ h))
    ·exact gn 11 [0,1,2,3,9,10,11,12,13,14,15] [0] [bT h9,rp 3 (bF h10),cE QaO.enc h11,bF h10,oO (zL 0),oO (lT 0 2),rp 4 (bF h10),rp 7 (bF h12),bF h10,bF h12,bF h10,fF,fF,rp 7 (bF h16),fF,bF h16,rp 11 fF] (hI _ (oJ h))
 ·exact gn 5 [0,1,2,3,9,10,13,14] [0] [bF h9] (hE _ (oJ h))
theorem Qre (Γ:Gam) (rv:List Qab) {orders l word turned} {s:List Qab×Int} {e:List Qab} (h:QaW (fun s=>Qc0 orders l word turned s.1 s.2) s=some e) (hD:QkG Γ rv orders l word turned e):QlN Γ rv orders l word turned s.1 s.2:=by
 refine QaA (C:=fun (s:List Qab×Int)=>QlN Γ rv orders l word turned s.1 s.2) (D:=fun (e:List Qab)=>QkG Γ rv orders l word turned e) ?_ h hD
 clear h hD s e
 rintro ⟨l2,i⟩ z_ h hI hE
 replace h:Qc0 orders l word turned l2 i=_:=h
 unfold Qc0 at h
 rcases Qah h with ⟨h2,h⟩|⟨h2,h⟩
 ·obtain ⟨x0,h3,h⟩:=Qae h
  obtain ⟨h4,h⟩:=Qau h
  obtain ⟨r,h5,h⟩:=Qae h
  obtain ⟨h6,h⟩:=Qau h
  rcases Qah h with ⟨h7,h⟩|⟨h7,h⟩
  ·obtain ⟨h8,h⟩:=Qau h
   exact gn 22 [0,1,2,3,9,10] [2] [nL QaO.enc l,bT h2,cE QaO.enc h3,oO (zL 0),oO (lT 0 2),cE QaO.enc h3,oO (zL 1),oO (lT 1 2),oO (h4),cC (QgU h5),rp 15 hP,oO (h6),rp 2 (oI ((ltI x0.x0 0)=false)),oR True ((ltI x0.x0 0)=false),oI (((ltI x0.x0 0)||(geI x0.x0 orders))=false),oR True (((ltI x0.x0 0)||(geI x0.x0 orders))=false),rp 2 (oI ((((ltI x0.x0 0)||(geI x0.x0 orders))||(ltI x0.x1 0))=false)),oR True ((((ltI x0.x0 0)||(geI x0.x0 orders))||(ltI x0.x1 0))=false),rp 2 (oI (((((ltI x0.x0 0)||(geI x0.x0 orders))||(ltI x0.x1 0))||(geI x0.x1 orders))=false)),oR True (((((ltI x0.x0 0)||(geI x0.x0 orders))||(ltI x0.x1 0))||(geI x0.x1 orders))=false),bT h7,oO (Eq.refl ([(Qab.mk 2 (catS (catS word Qdt) r))].map Qab.enc).length),aO Qab.enc h8] (hI _ (oJ h))
  ·obtain ⟨e0,h18,h⟩:=Qae h
   refine gn 25 [0,1,2,3,9,10,11,12,13,14,15] [0] [nL QaO.enc l,bT h2,cE QaO.enc h3,oO (zL 0),oO (lT 0 2),cE QaO.enc h3,oO (zL 1),oO (lT 1 2),oO (h4),cC (QgU h5),rp 15 hP,oO (h6),rp 2 (oI ((ltI x0.x0 0)=false)),oR True ((ltI x0.x0 0)=false),oI (((ltI x0.x0 0)||(geI x0.x0 orders))=false),oR True (((ltI x0.x0 0)||(geI x0.x0 orders))=false),rp 2 (oI ((((ltI x0.x0 0)||(geI x0.x0 orders))||(ltI x0.x1 0))=false)),oR True ((((ltI x0.x0 0)||(geI x0.x0 orders))||(ltI x0.x1 0))=false),rp 2 (oI (((((ltI x0.x0 0)||(geI x0.x0 orders))||(ltI x0.x1 0))||(geI x0.x1 orders))=false)),oR True (((((ltI x0.x0 0)||(geI x0.x0 orders))||(ltI x0.x1 0))||(geI x0.x1 orders))=false),bF h7] (Qrf Γ rv h18 ?_)
   obtain ⟨twice1,rfl⟩:∃ x,x=e0:=⟨_,rfl⟩
   replace h:(br twice1 (chk (okN (l2++[(Qab.mk 6 (catS (catS word Qdt) r))]).length 24) (some (.inl ((l2++[(Qab.mk 6 (catS (catS word Qdt) r))]),(addK .i64 i 1))))) (some (.inl (l2,(addK .i64 i 1)))):Option ((List Qab×Int)⊕(List Qab)))=some _:=h
   rcases Qah h with ⟨h19,h⟩|⟨h19,h⟩
   ·obtain ⟨h20,h⟩:=Qau h
    exact gn 7 [0,1,2,3,9,10] [2] [bT h19,oO (Eq.refl ([(Qab.mk 6 (catS (catS word Qdt) r))].map Qab.enc).length),aO Qab.enc h20] (hI _ (oJ h))
   ·exact gn 7 [0,1,2,3,9,10] [0] [bF h19] (hI _ (oJ h))
 ·exact gn 5 [9] [0] [nL QaO.enc l,bF h2] (hE _ (oJ h))
theorem QkF (Γ:Gam) (rv:List Qab) {orders l word turned l1} (h:QfX orders l word turned l1=some rv):Qgt Γ rv ⟨[.c 15],⟨123,[vI 0 orders,vL 1 2 l QaO.enc,vS 2 word,vB 3 turned,vO 9 0 2 l1 Qab.enc],[oS 2 151 l1 Qab.enc]⟩⟩:=by
 unfold QfX at h
 obtain ⟨e1,h21,h⟩:=Qae h
 refine gn 5 [0,1,2,3,9,10] [0] [] (Qre Γ rv h21 ?_)
 obtain ⟨l3,rfl⟩:∃ x,x=e1:=⟨_,rfl⟩
 replace h:(some l3:Option (List Qab))=some _:=h
 obtain rfl:=Option.some.inj h
 exact gr 2 [] [hW 4,hH (.frz 0),rp 3 (eL l3 Qab.enc)]
theorem QtC {orders l word turned} {rv:List Qab} (h:QhC orders l word turned=some rv):AFn Tryz.prog 115 [.one (lI orders),.one (lL 2 l QaO.enc),.one (.str word),.one (.bool turned)] [] (one (lL 2 rv Qab.enc)) []:=by
 refine QaQ Tryz.func115 (by kernel_rfl) (by kernel_rfl) (fun Γ=>?_)
 unfold QhC at h
 rcases Qah h with ⟨h0,h⟩|⟨h0,h⟩
 ·obtain ⟨h1,h⟩:=Qau h
  exact gn 9 [0,1,2,3,9] [1] [nL QaO.enc l,bT h0,oO (Eq.refl ([(Qab.mk 4 word)].map Qab.enc).length),aN (l:=([(Qab.mk 4 word)]:List Qab)) Qab.enc h1] (QkF Γ rv h)
 ·exact gn 9 [0,1,2,3,9] [0] [nL QaO.enc l,bF h0,hW 1,hH (.adopt 9 2 151)] (QkF Γ rv h)
def Qel (Γ:Gam) (rv:List Qab) (cf:Cf):Prop:=Go Tryz.prog Tryz.f115 [] Γ (one (lO 0 2 rv Qab.enc)) [oS 2 151 rv Qab.enc] cf
def Qi7 (Γ:Gam) (rv:List Qab) (orders:Int) (l:List QaO) (word:ByteArray) (turned:Bool) (l2:List Qab) (i:Int) (x0:QaO) (r:ByteArray) (twice:Bool) (k:Int):Prop:=Qel Γ rv ⟨[.c 1001972,.l 1001972,.b 2,.c 125247,.b 1,.c 979,.l 244,.b 0,.c 31],⟨123,[vI 0 orders,vL 1 2 l QaO.enc,vS 2 word,vB 3 turned,vO 9 0 2 l2 Qab.enc,vI 10 i,vI 11 x0.x0,vI 12 x0.x1,vS 13 (catS (catS word Qdt) r),vB 14 twice,vI 15 k],[oS 2 151 l2 Qab.enc]⟩⟩
def QiQ (Γ:Gam) (rv:List Qab) (orders:Int) (l:List QaO) (word:ByteArray) (turned:Bool) (l2:List Qab) (i:Int) (x0:QaO) (r:ByteArray) (twice1:Bool):Prop:=Qel Γ rv ⟨[.c 125247,.b 1,.c 979,.l 244,.b 0,.c 31],⟨123,[vI 0 orders,vL 1 2 l QaO.enc,vS 2 word,vB 3 turned,vO 9 0 2 l2 Qab.enc,vI 10 i,vS 13 (catS (catS word Qdt) r),vB 14 twice1],[oS 2 151 l2 Qab.enc]⟩⟩
def Qi6 (Γ:Gam) (rv:List Qab) (orders:Int) (l:List QaO) (word:ByteArray) (turned:Bool) (l2:List Qab) (i:Int):Prop:=Qel Γ rv ⟨[.c 244,.l 244,.b 0,.c 31],⟨123,[vI 0 orders,vL 1 2 l QaO.enc,vS 2 word,vB 3 turned,vO 9 0 2 l2 Qab.enc,vI 10 i],[oS 2 151 l2 Qab.enc]⟩⟩
def QiP (Γ:Gam) (rv:List Qab) (orders:Int) (l:List QaO) (word:ByteArray) (turned:Bool) (l3:List Qab):Prop:=Qel Γ rv ⟨[.c 31],⟨123,[vO 9 0 2 l3 Qab.enc],[oS 2 151 l3 Qab.enc]⟩⟩
theorem QoD (Γ:Gam) (rv:List Qab) {orders l word turned l2 i x0 r} {s:Bool×Int} {e:Bool} (h:QaW (fun s=>Qfs orders l word turned l2 i x0 r s.1 s.2) s=some e) (hD:QiQ Γ rv orders l word turned l2 i x0 r e):Qi7 Γ rv orders l word turned l2 i x0 r s.1 s.2:=by
 refine QaA (C:=fun (s:Bool×Int)=>Qi7 Γ rv orders l word turned l2 i x0 r s.1 s.2) (D:=fun (e:Bool)=>QiQ Γ rv orders l word turned l2 i x0 r e) ?_ h hD
 clear h hD s e
 rintro ⟨twice,k⟩ z_ h hI hE
 replace h:Qfs orders l word turned l2 i x0 r twice k=_:=h
 unfold Qfs at h
 rcases Qah h with ⟨h9,h⟩|⟨h9,h⟩
 ·rcases Qah h with ⟨h10,h⟩|⟨h10,h⟩
  ·exact gn 11 [0,1,2,3,9,10,11,12,13,14,15] [0] [bT h9,rp 8 (bT h10),rp 7 kF,rp 2 (bT h10),tT,tT,rp 7 kF,tT,tT,rp 7 kF,tT,tT] (hI _ (oJ h))
  ·obtain ⟨x1,h11,h⟩:=Qae h
   rcases Qah h with ⟨h12,h⟩|⟨h12,h⟩
   ·rcases Qah h with ⟨h13,h⟩|⟨h13,h⟩
    ·exact gn 11 [0,1,2,3,9,10,11,12,13,14,15] [0] [bT h9,rp 3 (bF h10),cE QaO.enc h11,bF h10,oO (zL 0),oO (lT 0 2),rp 4 (bF h10),rp 3 (bT h12),cE QaO.enc h11,bT h12,oO (zL 1),oO (lT 1 2),rp 3 (bT h12),bF h10,bT h12,bF h10,rp 2 (bT h13),rp 7 kF,rp 2 (bT h13),rp 7 kF,rp 2 (bT h13)] (hI _ (oJ h))
    ·rcases Qah h with ⟨h14,h⟩|⟨h14,h⟩
     ·rcases Qah h with ⟨h15,h⟩|⟨h15,h⟩
      ·exact gn 11 [0,1,2,3,9,10,11,12,13,14,15] [0] [bT h9,rp 3 (bF h10),cE QaO.enc h11,bF h10,oO (zL 0),oO (lT 0 2),rp 4 (bF h10),rp 3 (bT h12),cE QaO.enc h11,bT h12,oO (zL 1),oO (lT 1 2),rp 3 (bT h12),bF h10,bT h12,bF h10,rp 2 (bF h13),rp 3 (bT h14),cE QaO.enc h11,bT h14,oO (zL 0),oO (lT 0 2),rp 3 (bT h14),bF h13,bT h14,bF h13,rp 3 (bT h15),cE QaO.enc h11,bT h15,oO (zL 1),oO (lT 1 2),rp 3 (bT h15),bF h13,bT h15,bF h13] (hI _ (oJ h))
      ·exact gn 11 [0,1,2,3,9,10,11,12,13,14,15] [0] [bT h9,rp 3 (bF h10),cE QaO.enc h11,bF h10,oO (zL 0),oO (lT 0 2),rp 4 (bF h10),rp 3 (bT h12),cE QaO.enc h11,bT h12,oO (zL 1),oO (lT 1 2),rp 3 (bT h12),bF h10,bT h12,bF h10,rp 2 (bF h13),rp 3 (bT h14),cE QaO.enc h11,bT h14,oO (zL 0),oO (lT 0 2),rp 3 (bT h14),bF h13,bT h14,bF h13,rp 7 (bF h15),bF h13,bF h15,bF h13] (hI _ (oJ h))
     ·exact gn 11 [0,1,2,3,9,10,11,12,13,14,15] [0] [bT h9,rp 3 (bF h10),cE QaO.enc h11,bF h10,oO (zL 0),oO (lT 0 2),rp 4 (bF h10),rp 3 (bT h12),cE QaO.enc h11,bT h12,oO (zL 1),oO (lT 1 2),rp 3 (bT h12),bF h10,bT h12,bF h10,rp 2 (bF h13),rp 7 (bF h14),bF h13,bF h14,bF h13,rp 7 fF,bF h13,fF,bF h13] (hI _ (oJ h))
   ·rcases Qah h with ⟨h16,h⟩|⟨h16,h⟩
    ·rcases Qah h with ⟨h17,h⟩|⟨h17,h⟩
     ·exact gn 11 [0,1,2,3,9,10,11,12,13,14,15] [0] [bT h9,rp 3 (bF h10),cE QaO.enc h11,bF h10,oO (zL 0),oO (lT 0 2),rp 4 (bF h10),rp 7 (bF h12),bF h10,bF h12,bF h10,fF,fF,rp 3 (bT h16),cE QaO.enc h11,bT h16,oO (zL 0),oO (lT 0 2),rp 3 (bT h16),fF,bT h16,fF,rp 3 (bT h17),cE QaO.enc h11,bT h17,oO (zL 1),oO (lT 1 2),rp 3 (bT h17),fF,bT h17,fF] (hI _ (oJ h))
     ·exact gn 11 [0,1,2,3,9,10,11,12,13,14,15] [0] [bT h9,rp 3 (bF h10),cE QaO.enc h11,bF h10,oO (zL 0),oO (lT 0 2),rp 4 (bF h10),rp 7 (bF h12),bF h10,bF h12,bF h10,fF,fF,rp 3 (bT h16),cE QaO.enc h11,bT h16,oO (zL 0),oO (lT 0 2),rp 3 (bT h16),fF,bT h16,fF,rp 7 (bF h17),fF,bF h17,fF] (hI _ (oJ h))
    ·exact gn 11 [0,1,2,3,9,10,11,12,13,14,15] [0] [bT h9,rp 3 (bF h10),cE QaO.enc h11,bF h10,oO (zL 0),oO (lT 0 2),rp 4 (bF h10),rp 7 (bF h12),bF h10,bF h12,bF h10,fF,fF,rp 7 (bF h16),fF,bF h16,rp 11 fF] (hI _ (oJ h))
 ·exact gn 5 [0,1,2,3,9,10,13,14] [0] [bF h9] (hE _ (oJ h))
theorem QoC (Γ:Gam) (rv:List Qab) {orders l word turned} {s:List Qab×Int} {e:List Qab} (h:QaW (fun s=>Qfr orders l word turned s.1 s.2) s=some e) (hD:QiP Γ rv orders l word turned e):Qi6 Γ rv orders l word turned s.1 s.2:=by
 refine QaA (C:=fun (s:List Qab×Int)=>Qi6 Γ rv orders l word turned s.1 s.2) (D:=fun (e:List Qab)=>QiP Γ rv orders l word turned e) ?_ h hD
 clear h hD s e
 rintro ⟨l2,i⟩ z_ h hI hE
 replace h:Qfr orders l word turned l2 i=_:=h
 unfold Qfr at h
 rcases Qah h with ⟨h2,h⟩|⟨h2,h⟩
 ·obtain ⟨x0,h3,h⟩:=Qae h
  obtain ⟨h4,h⟩:=Qau h
  obtain ⟨r,h5,h⟩:=Qae h
  obtain ⟨h6,h⟩:=Qau h
  rcases Qah h with ⟨h7,h⟩|⟨h7,h⟩
  ·obtain ⟨h8,h⟩:=Qau h
   exact gn 22 [0,1,2,3,9,10] [2] [nL QaO.enc l,bT h2,cE QaO.enc h3,oO (zL 0),oO (lT 0 2),cE QaO.enc h3,oO (zL 1),oO (lT 1 2),oO (h4),cC (QgU h5),rp 15 hP,oO (h6),rp 2 (oI ((ltI x0.x0 0)=false)),oR True ((ltI x0.x0 0)=false),oI (((ltI x0.x0 0)||(geI x0.x0 orders))=false),oR True (((ltI x0.x0 0)||(geI x0.x0 orders))=false),rp 2 (oI ((((ltI x0.x0 0)||(geI x0.x0 orders))||(ltI x0.x1 0))=false)),oR True ((((ltI x0.x0 0)||(geI x0.x0 orders))||(ltI x0.x1 0))=false),rp 2 (oI (((((ltI x0.x0 0)||(geI x0.x0 orders))||(ltI x0.x1 0))||(geI x0.x1 orders))=false)),oR True (((((ltI x0.x0 0)||(geI x0.x0 orders))||(ltI x0.x1 0))||(geI x0.x1 orders))=false),bT h7,oO (Eq.refl ([(Qab.mk 2 (catS (catS word Qdt) r))].map Qab.enc).length),aO Qab.enc h8] (hI _ (oJ h))
  ·obtain ⟨e0,h18,h⟩:=Qae h
   refine gn 25 [0,1,2,3,9,10,11,12,13,14,15] [0] [nL QaO.enc l,bT h2,cE QaO.enc h3,oO (zL 0),oO (lT 0 2),cE QaO.enc h3,oO (zL 1),oO (lT 1 2),oO (h4),cC (QgU h5),rp 15 hP,oO (h6),rp 2 (oI ((ltI x0.x0 0)=false)),oR True ((ltI x0.x0 0)=false),oI (((ltI x0.x0 0)||(geI x0.x0 orders))=false),oR True (((ltI x0.x0 0)||(geI x0.x0 orders))=false),rp 2 (oI ((((ltI x0.x0 0)||(geI x0.x0 orders))||(ltI x0.x1 0))=false)),oR True ((((ltI x0.x0 0)||(geI x0.x0 orders))||(ltI x0.x1 0))=false),rp 2 (oI (((((ltI x0.x0 0)||(geI x0.x0 orders))||(ltI x0.x1 0))||(geI x0.x1 orders))=false)),oR True (((((ltI x0.x0 0)||(geI x0.x0 orders))||(ltI x0.x1 0))||(geI x0.x1 orders))=false),bF h7] (QoD Γ rv h18 ?_)
   obtain ⟨twice1,rfl⟩:∃ x,x=e0:=⟨_,rfl⟩
   replace h:(br twice1 (chk (okN (l2++[(Qab.mk 6 (catS (catS word Qdt) r))]).length 24) (some (.inl ((l2++[(Qab.mk 6 (catS (catS word Qdt) r))]),(addK .i64 i 1))))) (some (.inl (l2,(addK .i64 i 1)))):Option ((List Qab×Int)⊕(List Qab)))=some _:=h
   rcases Qah h with ⟨h19,h⟩|⟨h19,h⟩
   ·obtain ⟨h20,h⟩:=Qau h
    exact gn 7 [0,1,2,3,9,10] [2] [bT h19,oO (Eq.refl ([(Qab.mk 6 (catS (catS word Qdt) r))].map Qab.enc).length),aO Qab.enc h20] (hI _ (oJ h))
   ·exact gn 7 [0,1,2,3,9,10] [0] [bF h19] (hI _ (oJ h))
 ·exact gn 5 [9] [0] [nL QaO.enc l,bF h2] (hE _ (oJ h))
theorem QiO (Γ:Gam) (rv:List Qab) {orders l word turned l1} (h:Qfq orders l word turned l1=some rv):Qel Γ rv ⟨[.c 15],⟨123,[vI 0 orders,vL 1 2 l QaO.enc,vS 2 word,vB 3 turned,vO 9 0 2 l1 Qab.enc],[oS 2 151 l1 Qab.enc]⟩⟩:=by
 unfold Qfq at h
 obtain ⟨e1,h21,h⟩:=Qae h
 refine gn 5 [0,1,2,3,9,10] [0] [] (QoC Γ rv h21 ?_)
 obtain ⟨l3,rfl⟩:∃ x,x=e1:=⟨_,rfl⟩
 replace h:(some l3:Option (List Qab))=some _:=h
 obtain rfl:=Option.some.inj h
 exact gr 2 [0] []
theorem QqB {orders l word turned} {rv:List Qab} (h:QiW orders l word turned=some rv):AFn Tryz.prog 115 [.one (lI orders),.one (lL 2 l QaO.enc),.one (.str word),.one (.bool turned)] [] (one (lO 0 2 rv Qab.enc)) [oS 2 151 rv Qab.enc]:=by
 refine QaQ Tryz.func115 (by kernel_rfl) (by kernel_rfl) (fun Γ=>?_)
 unfold QiW at h
 rcases Qah h with ⟨h0,h⟩|⟨h0,h⟩
 ·obtain ⟨h1,h⟩:=Qau h
  exact gn 9 [0,1,2,3,9] [1] [nL QaO.enc l,bT h0,oO (Eq.refl ([(Qab.mk 4 word)].map Qab.enc).length),aN (l:=([(Qab.mk 4 word)]:List Qab)) Qab.enc h1] (QiO Γ rv h)
 ·exact gn 9 [0,1,2,3,9] [0] [nL QaO.enc l,bF h0,hW 1,hH (.adopt 9 2 151)] (QiO Γ rv h)
theorem Quf {orders apart before} {rv:List Qab} (h:Qin orders apart before=some rv):AFn Tryz.prog 76 [.one (lI orders),.one (lL 2 apart QaO.enc),.one (lL 2 before QaO.enc)] [] (one (lL 2 rv Qab.enc)) []:=by
 refine QaQ Tryz.func76 (by kernel_rfl) (by kernel_rfl) (fun Γ=>?_)
 unfold Qin at h
 obtain ⟨r,h0,h⟩:=Qae h
 obtain ⟨r1,h1,h⟩:=Qae h
 obtain ⟨h2,h⟩:=Qau h
 obtain rfl:=Option.some.inj h
 exact gr 6 [] [cC (QqB h0),cC (QtC h1),aO Qab.enc h2,hW 1,hH (.frz 1),rp 2 (oO (Eq.refl ((r++r1).map Qab.enc).length))]
def Qiq (Γ:Gam) (rv:List Qab) (cf:Cf):Prop:=Go Tryz.prog Tryz.f71 [] Γ (one (lO 0 2 rv Qab.enc)) [oS 2 151 rv Qab.enc] cf
def Qg7 (Γ:Gam) (rv:List Qab) (word:ByteArray) (l:List Qab) (l1:List Qab) (i:Int):Prop:=Qiq Γ rv ⟨[.c 116,.l 116,.b 0,.c 15],⟨40,[vS 0 word,vL 1 2 l Qab.enc,vO 5 0 2 l1 Qab.enc,vI 6 i],[oS 2 151 l1 Qab.enc]⟩⟩
def QgM (Γ:Gam) (rv:List Qab) (word:ByteArray) (l:List Qab) (l2:List Qab):Prop:=Qiq Γ rv ⟨[.c 15],⟨40,[vO 5 0 2 l2 Qab.enc],[oS 2 151 l2 Qab.enc]⟩⟩
theorem Qi8 (Γ:Gam) (rv:List Qab) {word l l1 i at_} {x:(List Qab×Int)⊕(List Qab)} (h:Qf4 word l l1 i at_=some x) (hI:∀ s:List Qab×Int,x=.inl s→Qg7 Γ rv word l s.1 s.2) (hE:∀ e:List Qab,x=.inr e→QgM Γ rv word l e):Qiq Γ rv ⟨[.c 3731,.b 1,.c 467,.l 116,.b 0,.c 15],⟨40,[vS 0 word,vL 1 2 l Qab.enc,vO 5 0 2 l1 Qab.enc,vI 6 i,vS 7 at_],[oS 2 151 l1 Qab.enc]⟩⟩:=by
 unfold Qf4 at h
 obtain ⟨x1,h5,h⟩:=Qae h
 obtain ⟨h6,h⟩:=Qau h
 exact gn 4 [0,1,5,6] [2] [cE Qab.enc h5,oO (Eq.refl ([(Qab.mk x1.err at_)].map Qab.enc).length),aO Qab.enc h6] (hI _ (oJ h))
theorem Qpw (Γ:Gam) (rv:List Qab) {word l} {s:List Qab×Int} {e:List Qab} (h:QaW (fun s=>Qf5 word l s.1 s.2) s=some e) (hD:QgM Γ rv word l e):Qg7 Γ rv word l s.1 s.2:=by
 refine QaA (C:=fun (s:List Qab×Int)=>Qg7 Γ rv word l s.1 s.2) (D:=fun (e:List Qab)=>QgM Γ rv word l e) ?_ h hD
 clear h hD s e
 rintro ⟨l1,i⟩ z_ h hI hE
 replace h:Qf5 word l l1 i=_:=h
 unfold Qf5 at h
 rcases Qah h with ⟨h0,h⟩|⟨h0,h⟩
 ·obtain ⟨x0,h1,h⟩:=Qae h
  rcases Qah h with ⟨h2,h⟩|⟨h2,h⟩
  ·exact gn 14 [0,1,5,6,7] [0] [nL Qab.enc l,bT h0,cE Qab.enc h1,nF h2] (Qi8 Γ rv h hI hE)
  ·obtain ⟨h3,h⟩:=Qau h
   obtain ⟨h4,h⟩:=Qau h
   exact gn 14 [0,1,5,6,7] [0] [nL Qab.enc l,bT h0,cE Qab.enc h1,nT h2,oO (h3),cE Qab.enc h1,oO (h4)] (Qi8 Γ rv h hI hE)
 ·exact gn 5 [5] [0] [nL Qab.enc l,bF h0] (hE _ (oJ h))
theorem Qrg {word l} {rv:List Qab} (h:Qht word l=some rv):AFn Tryz.prog 71 [.one (.str word),.one (lL 2 l Qab.enc)] [] (one (lO 0 2 rv Qab.enc)) [oS 2 151 rv Qab.enc]:=by
 refine QaQ Tryz.func71 (by kernel_rfl) (by kernel_rfl) (fun Γ=>?_)
 unfold Qht at h
 obtain ⟨e0,h7,h⟩:=Qae h
 refine gn 9 [0,1,5,6] [0] [hW 12,hH (.adopt 5 2 151)] (Qpw Γ rv h7 ?_)
 obtain ⟨l2,rfl⟩:∃ x,x=e0:=⟨_,rfl⟩
 replace h:(some l2:Option (List Qab))=some _:=h
 obtain rfl:=Option.some.inj h
 exact gr 2 [0] []
theorem Qug {x0} {rv:List Qab} (h:Qio x0=some rv):AFn Tryz.prog 39 [.agg (Qad.enc x0)] [] (one (lL 2 rv Qab.enc)) []:=by
 refine QaQ Tryz.func39 (by kernel_rfl) (by kernel_rfl) (fun Γ=>?_)
 unfold Qio at h
 obtain ⟨r,h0,h⟩:=Qae h
 obtain ⟨r1,h1,h⟩:=Qae h
 obtain ⟨r2,h2,h⟩:=Qae h
 obtain ⟨r3,h3,h⟩:=Qae h
 obtain ⟨h4,h⟩:=Qau h
 obtain ⟨r4,h5,h⟩:=Qae h
 obtain ⟨r5,h6,h⟩:=Qae h
 obtain ⟨r6,h7,h⟩:=Qae h
 obtain ⟨h8,h⟩:=Qau h
 obtain ⟨r7,h9,h⟩:=Qae h
 obtain ⟨r8,h10,h⟩:=Qae h
 obtain ⟨h11,h⟩:=Qau h
 obtain rfl:=Option.some.inj h
 exact gr 12 [] [cC (Qt9 h0),cC (Qrg h1),cC (Qua h2),cC (Qj5 h3),aO Qab.enc h4,hH (.draw 13 []),cC (Qg4 h5),nL Qak.enc x0.types,cC (Quc h6),cC (Qj5 h7),aO Qab.enc h8,nL Qai.enc x0.orders,cC (Quf h9),cC (Qj5 h10),aO Qab.enc h11,hW 5,hH (.frz 4),rp 4 (oO (Eq.refl ((((r1++r3)++r6)++r8).map Qab.enc).length))]
theorem Qbc {x0} {rv:Bool} (h:QeR x0=some rv):AFn Tryz.prog 13 [.agg (Qad.enc x0)] [] (one (.bool rv)) []:=by
 refine QaQ Tryz.func13 (by kernel_rfl) (by kernel_rfl) (fun Γ=>?_)
 unfold QeR at h
 rcases Qah h with ⟨h0,h⟩|⟨h0,h⟩
 ·obtain ⟨r,h1,h⟩:=Qae h
  obtain rfl:=Option.some.inj h
  exact gr 4 [] [nL Qai.enc x0.orders,bT h0,bT h0,cC (Qug h1),bT h0,nL Qab.enc r,bT h0,bT h0]
 ·obtain rfl:=Option.some.inj h
  exact gr 4 [] [nL Qai.enc x0.orders,rp 5 (bF h0)]
def Qnj (Γ:Gam) (rv:Int) (cf:Cf):Prop:=Go Tryz.prog Tryz.f41 [] Γ (one (lI rv)) [] cf
def QqN (Γ:Gam) (rv:Int) (l:List Qac) (v:Int) (x0:Qac) (set_1:Int) (v1:Int):Prop:=Qnj Γ rv ⟨[.c 29900,.l 29900,.b 2,.b 1,.c 935,.l 116,.b 0,.c 15],⟨37,[vI 3 set_1,vL 8 4 l Qac.enc,vI 9 (lenI l),vI 10 v,vL 15 2 x0.visits Qaa.enc,vI 16 (lenI x0.visits),vI 17 v1],[]⟩⟩
def QpF (Γ:Gam) (rv:Int) (l:List Qac) (v:Int) (x0:Qac) (set_2:Int):Prop:=Qnj Γ rv ⟨[.b 1,.c 935,.l 116,.b 0,.c 15],⟨37,[vI 3 set_2,vL 8 4 l Qac.enc,vI 9 (lenI l),vI 10 v],[]⟩⟩
def QqM (Γ:Gam) (rv:Int) (l:List Qac) (set_:Int) (v:Int):Prop:=Qnj Γ rv ⟨[.c 116,.l 116,.b 0,.c 15],⟨37,[vI 3 set_,vL 8 4 l Qac.enc,vI 9 (lenI l),vI 10 v],[]⟩⟩
def QpE (Γ:Gam) (rv:Int) (l:List Qac) (set_3:Int):Prop:=Qnj Γ rv ⟨[.c 15],⟨37,[vI 3 set_3],[]⟩⟩
theorem QuH (Γ:Gam) (rv:Int) {l v x0} {s:Int×Int} {e:Int} (h:QaW (fun s=>QgI l v x0 s.1 s.2) s=some e) (hD:QpF Γ rv l v x0 e):QqN Γ rv l v x0 s.1 s.2:=by
 refine QaA (C:=fun (s:Int×Int)=>QqN Γ rv l v x0 s.1 s.2) (D:=fun (e:Int)=>QpF Γ rv l v x0 e) ?_ h hD
 clear h hD s e
 rintro ⟨set_1,v1⟩ z_ h hI hE
 replace h:QgI l v x0 set_1 v1=_:=h
 unfold QgI at h
 rcases Qah h with ⟨h2,h⟩|⟨h2,h⟩
 ·obtain ⟨x1,h3,h⟩:=Qae h
  rcases Qah h with ⟨h4,h⟩|⟨h4,h⟩
  ·obtain ⟨h5,h⟩:=Qau h
   exact gn 16 [3,8,9,10,15,16,17] [] [bT h2,cE Qaa.enc h3,rp 4 hP,rp 2 (oI ((geI x1.order 0)=true)),oR True ((geI x1.order 0)=true),bT h4,oO (h5)] (hI _ (oJ h))
  ·exact gn 16 [3,8,9,10,15,16,17] [] [bT h2,cE Qaa.enc h3,rp 4 hP,rp 2 (oI ((geI x1.order 0)=true)),oR True ((geI x1.order 0)=true),bF h4] (hI _ (oJ h))
 ·exact gn 5 [3,8,9,10] [] [bF h2] (hE _ (oJ h))
theorem QuG (Γ:Gam) (rv:Int) {l} {s:Int×Int} {e:Int} (h:QaW (fun s=>QhI l s.1 s.2) s=some e) (hD:QpE Γ rv l e):QqM Γ rv l s.1 s.2:=by
 refine QaA (C:=fun (s:Int×Int)=>QqM Γ rv l s.1 s.2) (D:=fun (e:Int)=>QpE Γ rv l e) ?_ h hD
 clear h hD s e
 rintro ⟨set_,v⟩ z_ h hI hE
 replace h:QhI l set_ v=_:=h
 unfold QhI at h
 rcases Qah h with ⟨h0,h⟩|⟨h0,h⟩
 ·obtain ⟨x0,h1,h⟩:=Qae h
  obtain ⟨e0,h6,h⟩:=Qae h
  refine gn 13 [3,8,9,10,15,16,17] [] [bT h0,cE Qac.enc h1,nL Qaa.enc x0.visits] (QuH Γ rv h6 ?_)
  obtain ⟨set_2,rfl⟩:∃ x,x=e0:=⟨_,rfl⟩
  replace h:(some (.inl (set_2,(addK .i64 v 1))):Option ((Int×Int)⊕(Int)))=some _:=h
  exact gn 3 [3,8,9,10] [] [] (hI _ (oJ h))
 ·exact gn 5 [3] [] [bF h0] (hE _ (oJ h))
theorem Qpr {l} {rv:Int} (h:QgH l=some rv):AFn Tryz.prog 41 [.one (lL 4 l Qac.enc)] [] (one (lI rv)) []:=by
 refine QaQ Tryz.func41 (by kernel_rfl) (by kernel_rfl) (fun Γ=>?_)
 unfold QgH at h
 obtain ⟨e1,h7,h⟩:=Qae h
 refine gn 9 [3,8,9,10] [] [nL Qac.enc l] (QuG Γ rv h7 ?_)
 obtain ⟨set_3,rfl⟩:∃ x,x=e1:=⟨_,rfl⟩
 replace h:(some set_3:Option Int)=some _:=h
 obtain rfl:=Option.some.inj h
 exact gr 2 [] []
theorem Qhe {n} {rv:List Qac} (h:Qbe n=some rv):AFn Tryz.prog 77 [.one (.nils),.one (lI n)] [] (one (lO 0 4 rv Qac.enc)) [oS 4 37 rv Qac.enc]:=by
 refine QaQ Tryz.func77 (by kernel_rfl) (by kernel_rfl) (fun Γ=>?_)
 unfold Qbe at h
 rcases Qah h with ⟨h0,h⟩|⟨h0,h⟩
 ·cases h
 ·rcases Qah h with ⟨h1,h⟩|⟨h1,h⟩
  ·obtain ⟨l,h2,h⟩:=Qae h
   obtain ⟨l1,h3,h⟩:=Qae h
   obtain rfl:=Option.some.inj h
   exact gr 16 [0] [bF h0,bT h1,hH (.cells [lI 0,lI 0,lL 1 ([]:List Bool) QaI,lL 2 ([]:List Qaa) Qaa.enc]),rp 3 (oO (Int.le_refl 0)),hH (.rows (l.map Qac.enc)),oO (mk1 h2),oO (mk3 h2),oO (mk4 h2),oO (mk5 Qac.enc h2),eL l Qac.enc,hH (.rows (l1.map Qac.enc)),oO (sl2 h3),oO (sl3 Qac.enc h3),oO (sl6c Qac.enc h3)]
  ·obtain rfl:=Option.some.inj h
   exact gr 16 [0] [bF h0,bF h1,hW 5,hH (.adopt 4 4 37)]
def Qcd (Γ:Gam) (rv:List Qac) (cf:Cf):Prop:=Go Tryz.prog Tryz.f42 [] Γ (one (lL 4 rv Qac.enc)) [] cf
def Qey (Γ:Gam) (rv:List Qac) (slices:List (List Qac)) (size:Int) (v:Int):Prop:=Qcd Γ rv ⟨[.c 116,.l 116,.b 0,.c 15],⟨36,[vL 0 1 slices es_T_api_Route.enc,vI 3 size,vL 9 1 slices es_T_api_Route.enc,vI 10 (lenI slices),vI 11 v],[]⟩⟩
def Qem (Γ:Gam) (rv:List Qac) (slices:List (List Qac)) (size1:Int):Prop:=Qcd Γ rv ⟨[.c 15],⟨36,[vL 0 1 slices es_T_api_Route.enc,vI 3 size1],[]⟩⟩
def Qez (Γ:Gam) (rv:List Qac) (slices:List (List Qac)) (l:List Qac) (v1:Int):Prop:=Qcd Γ rv ⟨[.c 500,.l 500,.b 2,.c 63],⟨36,[vO 6 0 4 l Qac.enc,vL 25 1 slices es_T_api_Route.enc,vI 26 (lenI slices),vI 27 v1],[oS 4 37 l Qac.enc]⟩⟩
def Qen (Γ:Gam) (rv:List Qac) (slices:List (List Qac)) (l1:List Qac):Prop:=Qcd Γ rv ⟨[.c 63],⟨36,[vO 6 0 4 l1 Qac.enc],[oS 4 37 l1 Qac.enc]⟩⟩
theorem QhT (Γ:Gam) (rv:List Qac) {slices} {s:Int×Int} {e:Int} (h:QaW (fun s=>QaR slices s.1 s.2) s=some e) (hD:Qem Γ rv slices e):Qey Γ rv slices s.1 s.2:=by
 refine QaA (C:=fun (s:Int×Int)=>Qey Γ rv slices s.1 s.2) (D:=fun (e:Int)=>Qem Γ rv slices e) ?_ h hD
 clear h hD s e
 rintro ⟨size,v⟩ z_ h hI hE
 replace h:QaR slices size v=_:=h
 unfold QaR at h
 rcases Qah h with ⟨h0,h⟩|⟨h0,h⟩
 ·obtain ⟨x0,h1,h⟩:=Qae h
  rcases Qah h with ⟨h2,h⟩|⟨h2,h⟩
  ·cases h
  ·exact gn 18 [0,3,9,10,11] [] [bT h0,cE es_T_api_Route.enc h1,nL Qac.enc x0,bF h2] (hI _ (oJ h))
 ·exact gn 5 [0,3] [] [bF h0] (hE _ (oJ h))
theorem QhU (Γ:Gam) (rv:List Qac) {slices} {s:List Qac×Int} {e:List Qac} (h:QaW (fun s=>QaL slices s.1 s.2) s=some e) (hD:Qen Γ rv slices e):Qez Γ rv slices s.1 s.2:=by
 refine QaA (C:=fun (s:List Qac×Int)=>Qez Γ rv slices s.1 s.2) (D:=fun (e:List Qac)=>Qen Γ rv slices e) ?_ h hD
 clear h hD s e
 rintro ⟨l,v1⟩ z_ h hI hE
 replace h:QaL slices l v1=_:=h
 unfold QaL at h
 rcases Qah h with ⟨h5,h⟩|⟨h5,h⟩
 ·obtain ⟨x1,h6,h⟩:=Qae h
  obtain ⟨h7,h⟩:=Qau h
  exact gn 13 [6,25,26,27] [1] [bT h5,cE es_T_api_Route.enc h6,aO Qac.enc h7] (hI _ (oJ h))
 ·exact gn 5 [6] [0] [bF h5] (hE _ (oJ h))
theorem QiN {slices} {rv:List Qac} (h:QbS slices=some rv):AFn Tryz.prog 42 [.one (lL 1 slices es_T_api_Route.enc)] [] (one (lL 4 rv Qac.enc)) []:=by
 refine QaQ Tryz.func42 (by kernel_rfl) (by kernel_rfl) (fun Γ=>?_)
 unfold QbS at h
 obtain ⟨e0,h3,h⟩:=Qae h
 refine gn 9 [0,3,9,10,11] [] [nL es_T_api_Route.enc slices] (QhT Γ rv h3 ?_)
 obtain ⟨size1,rfl⟩:∃ x,x=e0:=⟨_,rfl⟩
 replace h:(bnd (Qbe size1) fun r=>bnd (QaW (fun s=>QaL slices s.1 s.2) (r,0)) (fun l1=>some l1):Option (List Qac))=some _:=h
 obtain ⟨r,h4,h⟩:=Qae h
 obtain ⟨e1,h8,h⟩:=Qae h
 refine gn 7 [6,25,26,27] [0] [cC (Qhe h4),nL es_T_api_Route.enc slices] (QhU Γ rv h8 ?_)
 obtain ⟨l1,rfl⟩:∃ x,x=e1:=⟨_,rfl⟩
 replace h:(some l1:Option (List Qac))=some _:=h
 obtain rfl:=Option.some.inj h
 exact gr 2 [] [hW 4,hH (.frz 0),rp 3 (eL l1 Qac.enc)]
def Qq4 (Γ:Gam) (rv:Int×Int) (cf:Cf):Prop:=Go Tryz.prog Tryz.f20 [] Γ (.tup [.one (lI rv.1),.one (lI rv.2)]) [] cf
def Qok (Γ:Gam) (rv:Int×Int) (r:Qac) (set_:Int) (v:Int):Prop:=Qq4 Γ rv ⟨[.c 116,.l 116,.b 0,.c 15],⟨29,[vI 4 set_,vL 8 2 r.visits Qaa.enc,vI 9 (lenI r.visits),vI 10 v],[]⟩⟩
def Qnf (Γ:Gam) (rv:Int×Int) (r:Qac) (set_1:Int):Prop:=Qq4 Γ rv ⟨[.c 15],⟨29,[vI 4 set_1],[]⟩⟩
theorem Qs6 (Γ:Gam) (rv:Int×Int) {r} {s:Int×Int} {e:(Int)⊕(Int×Int)} (h:QaW (fun s=>QdV r s.1 s.2) s=some e) (hD:sel e (fun e=>Qnf Γ rv r e) (fun e=>e=rv)):Qok Γ rv r s.1 s.2:=by
 refine QaA (C:=fun (s:Int×Int)=>Qok Γ rv r s.1 s.2) (D:=fun (e:(Int)⊕(Int×Int))=>sel e (fun e=>Qnf Γ rv r e) (fun e=>e=rv)) ?_ h hD
 clear h hD s e
 rintro ⟨set_,v⟩ z_ h hI hE
 replace h:QdV r set_ v=_:=h
 unfold QdV at h
 rcases Qah h with ⟨h0,h⟩|⟨h0,h⟩
 ·obtain ⟨x0,h1,h⟩:=Qae h
  rcases Qah h with ⟨h2,h⟩|⟨h2,h⟩
  ·obtain rfl:=(hE _ (oJ h):_=rv)
   exact gr 15 [] [bT h0,cE Qaa.enc h1,rp 4 hP,rp 2 (oI ((ltI x0.order 0)=false)),oR True ((ltI x0.order 0)=false),bT h2]
  ·obtain ⟨h3,h⟩:=Qau h
   exact gn 18 [4,8,9,10] [] [bT h0,cE Qaa.enc h1,rp 4 hP,rp 2 (oI ((ltI x0.order 0)=false)),oR True ((ltI x0.order 0)=false),bF h2,oO (h3)] (hI _ (oJ h))
 ·exact gn 5 [4] [] [bF h0] (hE _ (oJ h))
theorem Qbv {r} {rv:Int×Int} (h:QcH r=some rv):AFn Tryz.prog 20 [.agg (Qac.enc r)] [] (.tup [.one (lI rv.1),.one (lI rv.2)]) []:=by
 refine QaQ Tryz.func20 (by kernel_rfl) (by kernel_rfl) (fun Γ=>?_)
 unfold QcH at h
 obtain ⟨e0,h4,h⟩:=Qae h
 refine gn 9 [4,8,9,10] [] [nL Qaa.enc r.visits] (Qs6 Γ rv h4 ?_)
 rcases e0 with e0|e0
 ·obtain ⟨set_1,rfl⟩:∃ x,x=e0:=⟨_,rfl⟩
  replace h:(some (set_1,0):Option (Int×Int))=some _:=h
  obtain rfl:=Option.some.inj h
  exact gr 2 [] []
 ·obtain ⟨r1,rfl⟩:∃ x,x=e0:=⟨_,rfl⟩
  replace h:(some r1:Option (Int×Int))=some _:=h
  exact Option.some.inj h
theorem Qke {x0 set_} {rv:Bool} (h:Qpb x0 set_=some rv):AFn Tryz.prog 48 [.agg (Qad.enc x0),.one (lI set_)] [] (one (.bool rv)) []:=by
 refine QaQ Tryz.func48 (by kernel_rfl) (by kernel_rfl) (fun Γ=>?_)
 unfold Qpb at h
 rcases Qah h with ⟨h0,h⟩|⟨h0,h⟩
 ·obtain ⟨h1,h⟩:=Qau h
  obtain rfl:=Option.some.inj h
  exact gr 4 [] [rp 4 (bT h0),nL Qai.enc x0.orders,bT h0,oO (h1),bT h0,bT h0]
 ·obtain rfl:=Option.some.inj h
  exact gr 4 [] [rp 7 (bF h0)]
theorem Qqe {begin} {rv:Bool} (h:Qk8 begin=some rv):AFn Tryz.prog 49 [.agg (Qac.enc begin)] [] (one (.bool rv)) []:=by
 refine QaQ Tryz.func49 (by kernel_rfl) (by kernel_rfl) (fun Γ=>?_)
 unfold Qk8 at h
 obtain rfl:=Option.some.inj h
 exact gr 4 [] [nL QaI begin.rests,nL Qaa.enc begin.visits]
def QfD (Γ:Gam) (rv:Int) (cf:Cf):Prop:=Go Tryz.prog Tryz.f192 [] Γ (one (lI rv)) [] cf
def Qe1 (Γ:Gam) (rv:Int) (s0:List Qaa) (v:Qaa) (v1:Int):Prop:=QfD Γ rv ⟨[.c 52,.l 52,.b 0,.c 7],⟨19,[vL 0 2 s0 Qaa.enc,vP 3 0 2,vI 7 (lenI s0),vI 8 v1],[oX 2 54 (Qaa.enc v)]⟩⟩
def QeC (Γ:Gam) (rv:Int) (s0:List Qaa) (v:Qaa):Prop:=QfD Γ rv ⟨[.c 7],⟨19,[],[]⟩⟩
theorem Qic (Γ:Gam) (rv:Int) {s0 v} {s:Int} {e:(Unit)⊕(Int)} (h:QaW (fun s=>QaZ s0 v s) s=some e) (hD:sel e (fun e=>QeC Γ rv s0 v) (fun e=>e=rv)):Qe1 Γ rv s0 v s:=by
 refine QaA (C:=fun (s:Int)=>Qe1 Γ rv s0 v s) (D:=fun (e:(Unit)⊕(Int))=>sel e (fun e=>QeC Γ rv s0 v) (fun e=>e=rv)) ?_ h hD
 clear h hD s e
 intro v1 z_ h hI hE
 replace h:QaZ s0 v v1=_:=h
 unfold QaZ at h
 rcases Qah h with ⟨h0,h⟩|⟨h0,h⟩
 ·obtain ⟨x0,h1,h⟩:=Qae h
  rcases Qah h with ⟨h2,h⟩|⟨h2,h⟩
  ·obtain rfl:=(hE _ (oJ h):_=rv)
   exact gr 14 [] [bT h0,hH (.draw 6 []),cE Qaa.enc h1,bT h2]
  ·exact gn 16 [0,3,7,8] [0] [bT h0,hH (.draw 6 []),cE Qaa.enc h1,bF h2] (hI _ (oJ h))
 ·exact gn 5 [] [] [bF h0] (hE _ (oJ h))
theorem Qfp {s0 v} {rv:Int} (h:QbB s0 v=some rv):AFn Tryz.prog 192 [.one (lL 2 s0 Qaa.enc),.agg (Qaa.enc v)] [] (one (lI rv)) []:=by
 refine QaQ Tryz.func192 (by kernel_rfl) (by kernel_rfl) (fun Γ=>?_)
 unfold QbB at h
 obtain ⟨e0,h3,h⟩:=Qae h
 refine gn 7 [0,3,7,8] [0] [nL Qaa.enc s0] (Qic Γ rv h3 ?_)
 rcases e0 with e0|e0
 ·replace h:(some (-1):Option Int)=some _:=h
  obtain rfl:=Option.some.inj h
  exact gr 2 [] []
 ·obtain ⟨r,rfl⟩:∃ x,x=e0:=⟨_,rfl⟩
  replace h:(some r:Option Int)=some _:=h
  exact Option.some.inj h
theorem Qdb {l v} {rv:Int} (h:QeM l v=some rv):AFn Tryz.prog 167 [.one (lL 2 l Qaa.enc),.agg (Qaa.enc v)] [] (one (lI rv)) []:=by
 refine QaQ Tryz.func167 (by kernel_rfl) (by kernel_rfl) (fun Γ=>?_)
 unfold QeM at h
 obtain ⟨r,h0,h⟩:=Qae h
 obtain rfl:=Option.some.inj h
 exact gr 4 [] [cC (Qfp h0)]
def Qsr (Γ:Gam) (rv:Bool) (cf:Cf):Prop:=Go Tryz.prog Tryz.f119 [] Γ (one (.bool rv)) [] cf
def Qpq (Γ:Gam) (rv:Bool) (l:List Qaa) (v:Int):Prop:=Qsr Γ rv ⟨[.c 52,.l 52,.b 0,.c 7],⟨19,[vL 0 2 l Qaa.enc,vL 5 2 l Qaa.enc,vI 6 (lenI l),vI 7 v],[]⟩⟩
def Qor (Γ:Gam) (rv:Bool) (l:List Qaa):Prop:=Qsr Γ rv ⟨[.c 7],⟨19,[],[]⟩⟩
theorem QtT (Γ:Gam) (rv:Bool) {l} {s:Int} {e:(Unit)⊕(Bool)} (h:QaW (fun s=>QdP l s) s=some e) (hD:sel e (fun e=>Qor Γ rv l) (fun e=>e=rv)):Qpq Γ rv l s:=by
 refine QaA (C:=fun (s:Int)=>Qpq Γ rv l s) (D:=fun (e:(Unit)⊕(Bool))=>sel e (fun e=>Qor Γ rv l) (fun e=>e=rv)) ?_ h hD
 clear h hD s e
 intro v z_ h hI hE
 replace h:QdP l v=_:=h
 unfold QdP at h
 rcases Qah h with ⟨h0,h⟩|⟨h0,h⟩
 ·obtain ⟨x0,h1,h⟩:=Qae h
  obtain ⟨l1,h2,h⟩:=Qae h
  obtain ⟨r,h3,h⟩:=Qae h
  rcases Qah h with ⟨h4,h⟩|⟨h4,h⟩
  ·obtain rfl:=(hE _ (oJ h):_=rv)
   exact gr 14 [] [bT h0,cE Qaa.enc h1,hH (.draw 6 []),hH (.rows (l1.map Qaa.enc)),oO (sl1 h2),oO (sl2 h2),oO (sl3 Qaa.enc h2),oO (Int.le_refl v),oO (sl3 Qaa.enc h2),oO (sl6 Qaa.enc h2),cC (Qdb h3),bT h4]
  ·exact gn 16 [0,5,6,7] [] [bT h0,cE Qaa.enc h1,hH (.draw 6 []),hH (.rows (l1.map Qaa.enc)),oO (sl1 h2),oO (sl2 h2),oO (sl3 Qaa.enc h2),oO (Int.le_refl v),oO (sl3 Qaa.enc h2),oO (sl6 Qaa.enc h2),cC (Qdb h3),bF h4] (hI _ (oJ h))
 ·exact gn 5 [] [] [bF h0] (hE _ (oJ h))
theorem Qmt {l} {rv:Bool} (h:Qkm l=some rv):AFn Tryz.prog 119 [.one (lL 2 l Qaa.enc)] [] (one (.bool rv)) []:=by
 refine QaQ Tryz.func119 (by kernel_rfl) (by kernel_rfl) (fun Γ=>?_)
 unfold Qkm at h
 obtain ⟨e0,h5,h⟩:=Qae h
 refine gn 7 [0,5,6,7] [] [nL Qaa.enc l] (QtT Γ rv h5 ?_)
 rcases e0 with e0|e0
 ·replace h:(some false:Option Bool)=some _:=h
  obtain rfl:=Option.some.inj h
  exact gr 2 [] []
 ·obtain ⟨r1,rfl⟩:∃ x,x=e0:=⟨_,rfl⟩
  replace h:(some r1:Option Bool)=some _:=h
  exact Option.some.inj h
theorem QiK {l at_} {rv:Bool} (h:Qnw l at_=some rv):AFn Tryz.prog 89 [.one (lL 16 l Qai.enc),.one (lI at_)] [] (one (.bool rv)) []:=by
 refine QaQ Tryz.func89 (by kernel_rfl) (by kernel_rfl) (fun Γ=>?_)
 unfold Qnw at h
 obtain rfl:=Option.some.inj h
 exact gr 4 [] [hP,hP,hP,oI ((geI at_ 0)=true),nL Qai.enc l,hP,hP,rp 2 (oI ((geI at_ 0)=true)),oR True ((geI at_ 0)=true)]
def QxX (Γ:Gam) (rv:List Qaa) (cf:Cf):Prop:=Go Tryz.prog Tryz.f55 [] Γ (one (lL 2 rv Qaa.enc)) [] cf
theorem Qqc (Γ:Gam) (rv:List Qaa) {l at_ l1} (h:QhQ l at_ l1=some rv):QxX Γ rv ⟨[.c 31],⟨35,[vL 0 16 l Qai.enc,vI 1 at_,vO 5 0 2 l1 Qaa.enc],[oS 2 54 l1 Qaa.enc]⟩⟩:=by
 unfold QhQ at h
 obtain ⟨x1,h5,h⟩:=Qae h
 rcases Qah h with ⟨h6,h⟩|⟨h6,h⟩
 ·obtain ⟨h7,h⟩:=Qau h
  obtain rfl:=Option.some.inj h
  exact gr 7 [] [cE Qai.enc h5,bT h6,oO (Eq.refl ([(Qaa.mk at_ true)].map Qaa.enc).length),aO Qaa.enc h7,hW 5,hH (.frz 2),rp 4 (oO (Eq.refl ((l1++[(Qaa.mk at_ true)]).map Qaa.enc).length))]
 ·obtain rfl:=Option.some.inj h
  exact gr 7 [] [cE Qai.enc h5,bF h6,hW 5,hH (.frz 0),rp 3 (eL l1 Qaa.enc)]
theorem Qje {l at_} {rv:List Qaa} (h:Qiu l at_=some rv):AFn Tryz.prog 55 [.one (lL 16 l Qai.enc),.one (lI at_)] [] (one (lL 2 rv Qaa.enc)) []:=by
 refine QaQ Tryz.func55 (by kernel_rfl) (by kernel_rfl) (fun Γ=>?_)
 unfold Qiu at h
 obtain ⟨r,h0,h⟩:=Qae h
 rcases Qah h with ⟨h1,h⟩|⟨h1,h⟩
 ·obtain ⟨x0,h2,h⟩:=Qae h
  rcases Qah h with ⟨h3,h⟩|⟨h3,h⟩
  ·obtain ⟨h4,h⟩:=Qau h
   exact gn 14 [0,1,5] [1] [cC (QiK h0),nF h1,cE Qai.enc h2,bT h3,oO (Eq.refl ([(Qaa.mk at_ false)].map Qaa.enc).length),aN (l:=([(Qaa.mk at_ false)]:List Qaa)) Qaa.enc h4] (Qqc Γ rv h)
  ·exact gn 14 [0,1,5] [0] [cC (QiK h0),nF h1,cE Qai.enc h2,bF h3,hW 1,hH (.adopt 5 2 54)] (Qqc Γ rv h)
 ·obtain rfl:=Option.some.inj h
  exact gr 10 [] [cC (QiK h0),nT h1,hW 3,hH (.nilS 4 0 2)]
theorem QeA {s0 v} {rv:Bool} (h:QbI s0 v=some rv):AFn Tryz.prog 168 [.one (lL 2 s0 Qaa.enc),.agg (Qaa.enc v)] [] (one (.bool rv)) []:=by
 refine QaQ Tryz.func168 (by kernel_rfl) (by kernel_rfl) (fun Γ=>?_)
 unfold QbI at h
 obtain ⟨r,h0,h⟩:=Qae h
 obtain rfl:=Option.some.inj h
 exact gr 4 [] [cC (Qfp h0)]
def Qjq (Γ:Gam) (rv:Bool) (cf:Cf):Prop:=Go Tryz.prog Tryz.f120 [] Γ (one (.bool rv)) [] cf
def Qon (Γ:Gam) (rv:Bool) (x0:Qad) (l:List Qaa) (v:Int) (r:List Qaa) (last_:Int) (v1:Int):Prop:=Qjq Γ rv ⟨[.c 108156,.l 108156,.b 2,.b 1,.c 423,.l 52,.b 0,.c 7],⟨42,[vL 1 2 l Qaa.enc,vP 2 0 6,vI 8 last_,vL 12 2 l Qaa.enc,vI 13 (lenI l),vI 14 v,vL 27 2 r Qaa.enc,vI 28 (lenI r),vI 29 v1],[oX 6 30 (Qad.enc x0)]⟩⟩
def Qni (Γ:Gam) (rv:Bool) (x0:Qad) (l:List Qaa) (v:Int) (r:List Qaa):Prop:=Qjq Γ rv ⟨[.b 1,.c 423,.l 52,.b 0,.c 7],⟨42,[vL 1 2 l Qaa.enc,vP 2 0 6,vL 12 2 l Qaa.enc,vI 13 (lenI l),vI 14 v],[oX 6 30 (Qad.enc x0)]⟩⟩
def Qom (Γ:Gam) (rv:Bool) (x0:Qad) (l:List Qaa) (v:Int):Prop:=Qjq Γ rv ⟨[.c 52,.l 52,.b 0,.c 7],⟨42,[vL 1 2 l Qaa.enc,vP 2 0 6,vL 12 2 l Qaa.enc,vI 13 (lenI l),vI 14 v],[oX 6 30 (Qad.enc x0)]⟩⟩
def Qnh (Γ:Gam) (rv:Bool) (x0:Qad) (l:List Qaa):Prop:=Qjq Γ rv ⟨[.c 7],⟨42,[],[]⟩⟩
theorem Qs8 (Γ:Gam) (rv:Bool) {x0 l v r} {s:Int×Int} {e:(Unit)⊕(Bool)} (h:QaW (fun s=>Qbw x0 l v r s.1 s.2) s=some e) (hD:sel e (fun e=>Qni Γ rv x0 l v r) (fun e=>e=rv)):Qon Γ rv x0 l v r s.1 s.2:=by
 refine QaA (C:=fun (s:Int×Int)=>Qon Γ rv x0 l v r s.1 s.2) (D:=fun (e:(Unit)⊕(Bool))=>sel e (fun e=>Qni Γ rv x0 l v r) (fun e=>e=rv)) ?_ h hD
 clear h hD s e
 rintro ⟨last_,v1⟩ z_ h hI hE
 replace h:Qbw x0 l v r last_ v1=_:=h
 unfold Qbw at h
 rcases Qah h with ⟨h5,h⟩|⟨h5,h⟩
 ·obtain ⟨x2,h6,h⟩:=Qae h
  obtain ⟨r2,h7,h⟩:=Qae h
  rcases Qah h with ⟨h8,h⟩|⟨h8,h⟩
  ·obtain rfl:=(hE _ (oJ h):_=rv)
   exact gr 17 [] [bT h5,cE Qaa.enc h6,cC (Qdb h7),bT h8]
  ·exact gn 20 [1,2,8,12,13,14,27,28,29] [0] [bT h5,cE Qaa.enc h6,cC (Qdb h7),bF h8] (hI _ (oJ h))
 ·exact gn 5 [1,2,12,13,14] [0] [bF h5] (hE _ (oJ h))
theorem Qs7 (Γ:Gam) (rv:Bool) {x0 l} {s:Int} {e:(Unit)⊕(Bool)} (h:QaW (fun s=>Qdo x0 l s) s=some e) (hD:sel e (fun e=>Qnh Γ rv x0 l) (fun e=>e=rv)):Qom Γ rv x0 l s:=by
 refine QaA (C:=fun (s:Int)=>Qom Γ rv x0 l s) (D:=fun (e:(Unit)⊕(Bool))=>sel e (fun e=>Qnh Γ rv x0 l) (fun e=>e=rv)) ?_ h hD
 clear h hD s e
 intro v z_ h hI hE
 replace h:Qdo x0 l v=_:=h
 unfold Qdo at h
 rcases Qah h with ⟨h0,h⟩|⟨h0,h⟩
 ·obtain ⟨x1,h1,h⟩:=Qae h
  obtain ⟨r,h2,h⟩:=Qae h
  obtain ⟨r1,h3,h⟩:=Qae h
  rcases Qah h with ⟨h4,h⟩|⟨h4,h⟩
  ·obtain ⟨e0,h9,h⟩:=Qae h
   refine gn 22 [1,2,8,12,13,14,27,28,29] [0] [bT h0,cE Qaa.enc h1,cC (Qje h2),cC (QeA h3),nF h4,nL Qaa.enc r] (Qs8 Γ rv h9 ?_)
   rcases e0 with e0|e0
   ·replace h:(some (.inl (addK .i64 v 1)):Option ((Int)⊕((Unit)⊕(Bool))))=some _:=h
    exact gn 3 [1,2,12,13,14] [0] [] (hI _ (oJ h))
   ·obtain ⟨r3,rfl⟩:∃ x,x=e0:=⟨_,rfl⟩
    replace h:(some (.inr (.inr r3)):Option ((Int)⊕((Unit)⊕(Bool))))=some _:=h
    exact (hE _ (oJ h):_=rv)
  ·obtain rfl:=(hE _ (oJ h):_=rv)
   exact gr 17 [] [bT h0,cE Qaa.enc h1,cC (Qje h2),cC (QeA h3),nT h4]
 ·exact gn 5 [] [] [bF h0] (hE _ (oJ h))
theorem Qqk {x0 l} {rv:Bool} (h:Qjg x0 l=some rv):AFn Tryz.prog 120 [.agg (Qad.enc x0),.one (lL 2 l Qaa.enc)] [] (one (.bool rv)) []:=by
 refine QaQ Tryz.func120 (by kernel_rfl) (by kernel_rfl) (fun Γ=>?_)
 unfold Qjg at h
 obtain ⟨e1,h10,h⟩:=Qae h
 refine gn 7 [1,2,12,13,14] [0] [nL Qaa.enc l] (Qs7 Γ rv h10 ?_)
 rcases e1 with e1|e1
 ·replace h:(some true:Option Bool)=some _:=h
  obtain rfl:=Option.some.inj h
  exact gr 2 [] []
 ·obtain ⟨r4,rfl⟩:∃ x,x=e1:=⟨_,rfl⟩
  replace h:(some r4:Option Bool)=some _:=h
  exact Option.some.inj h
theorem Qq5 {v c} {rv:Bool} (h:Qnp v c=some rv):AFn Tryz.prog 169 [.agg (Qaa.enc v),.one (.ip [lI c] 0)] [] (one (.bool rv)) []:=by
 refine QaQ Tryz.func169 (by kernel_rfl) (by kernel_rfl) (fun Γ=>?_)
 unfold Qnp at h
 obtain rfl:=Option.some.inj h
 exact gr 4 [] []
def QdQ (Γ:Gam) (rv:Int) (cf:Cf):Prop:=Go Tryz.prog Tryz.f166 [] Γ (one (lI rv)) [] cf
def Qdr (Γ:Gam) (rv:Int) (s0:List Qaa) (c:Int) (v:Int):Prop:=QdQ Γ rv ⟨[.c 52,.l 52,.b 0,.c 7],⟨19,[vL 0 2 s0 Qaa.enc,(1,one (.fn (.func 169) [.ip [lI c] 0])),vI 7 (lenI s0),vI 8 v],[]⟩⟩
def Qde (Γ:Gam) (rv:Int) (s0:List Qaa) (c:Int):Prop:=QdQ Γ rv ⟨[.c 7],⟨19,[],[]⟩⟩
theorem Qf7 (Γ:Gam) (rv:Int) {s0 c} {s:Int} {e:(Unit)⊕(Int)} (h:QaW (fun s=>QaK s0 c s) s=some e) (hD:sel e (fun e=>Qde Γ rv s0 c) (fun e=>e=rv)):Qdr Γ rv s0 c s:=by
 refine QaA (C:=fun (s:Int)=>Qdr Γ rv s0 c s) (D:=fun (e:(Unit)⊕(Int))=>sel e (fun e=>Qde Γ rv s0 c) (fun e=>e=rv)) ?_ h hD
 clear h hD s e
 intro v z_ h hI hE
 replace h:QaK s0 c v=_:=h
 unfold QaK at h
 rcases Qah h with ⟨h0,h⟩|⟨h0,h⟩
 ·obtain ⟨x0,h1,h⟩:=Qae h
  obtain ⟨r,h2,h⟩:=Qae h
  rcases Qah h with ⟨h3,h⟩|⟨h3,h⟩
  ·obtain rfl:=(hE _ (oJ h):_=rv)
   exact gr 14 [] [bT h0,cE Qaa.enc h1,cC (Qq5 h2),bT h3]
  ·exact gn 16 [0,1,7,8] [] [bT h0,cE Qaa.enc h1,cC (Qq5 h2),bF h3] (hI _ (oJ h))
 ·exact gn 5 [] [] [bF h0] (hE _ (oJ h))
theorem QgQ {s0 c} {rv:Int} (h:Qbl s0 c=some rv):AFn Tryz.prog 166 [.one (lL 2 s0 Qaa.enc),.one (.fn (.func 169) [.ip [lI c] 0])] [] (one (lI rv)) []:=by
 refine QaQ Tryz.func166 (by kernel_rfl) (by kernel_rfl) (fun Γ=>?_)
 unfold Qbl at h
 obtain ⟨e0,h4,h⟩:=Qae h
 refine gn 7 [0,1,7,8] [] [nL Qaa.enc s0] (Qf7 Γ rv h4 ?_)
 rcases e0 with e0|e0
 ·replace h:(some (-1):Option Int)=some _:=h
  obtain rfl:=Option.some.inj h
  exact gr 2 [] []
 ·obtain ⟨r1,rfl⟩:∃ x,x=e0:=⟨_,rfl⟩
  replace h:(some r1:Option Int)=some _:=h
  exact Option.some.inj h
theorem Qf6 {s0 c} {rv:Bool} (h:Qbz s0 c=some rv):AFn Tryz.prog 116 [.one (lL 2 s0 Qaa.enc),.one (.fn (.func 169) [.ip [lI c] 0])] [] (one (.bool rv)) []:=by
 refine QaQ Tryz.func116 (by kernel_rfl) (by kernel_rfl) (fun Γ=>?_)
 unfold Qbz at h
 obtain ⟨r,h0,h⟩:=Qae h
 obtain rfl:=Option.some.inj h
 exact gr 4 [] [cC (QgQ h0)]
theorem QfB {l o} {rv:Bool} (h:Qiw l o=some rv):AFn Tryz.prog 121 [.one (lL 2 l Qaa.enc),.one (lI o)] [] (one (.bool rv)) []:=by
 refine QaQ Tryz.func121 (by kernel_rfl) (by kernel_rfl) (fun Γ=>?_)
 unfold Qiw at h
 obtain ⟨r,h0,h⟩:=Qae h
 obtain rfl:=Option.some.inj h
 exact gr 4 [] [cC (Qf6 h0)]
theorem Qol {v c} {rv:Bool} (h:Qjp v c=some rv):AFn Tryz.prog 170 [.agg (Qaa.enc v),.one (.ip [lI c] 0)] [] (one (.bool rv)) []:=by
 refine QaQ Tryz.func170 (by kernel_rfl) (by kernel_rfl) (fun Γ=>?_)
 unfold Qjp at h
 obtain rfl:=Option.some.inj h
 exact gr 4 [] []
def Qdq (Γ:Gam) (rv:Int) (cf:Cf):Prop:=Go Tryz.prog Tryz.f166 [] Γ (one (lI rv)) [] cf
def QcW (Γ:Gam) (rv:Int) (s0:List Qaa) (c:Int) (v:Int):Prop:=Qdq Γ rv ⟨[.c 52,.l 52,.b 0,.c 7],⟨19,[vL 0 2 s0 Qaa.enc,(1,one (.fn (.func 170) [.ip [lI c] 0])),vI 7 (lenI s0),vI 8 v],[]⟩⟩
def QcR (Γ:Gam) (rv:Int) (s0:List Qaa) (c:Int):Prop:=Qdq Γ rv ⟨[.c 7],⟨19,[],[]⟩⟩
theorem Qfy (Γ:Gam) (rv:Int) {s0 c} {s:Int} {e:(Unit)⊕(Int)} (h:QaW (fun s=>QaC s0 c s) s=some e) (hD:sel e (fun e=>QcR Γ rv s0 c) (fun e=>e=rv)):QcW Γ rv s0 c s:=by
 refine QaA (C:=fun (s:Int)=>QcW Γ rv s0 c s) (D:=fun (e:(Unit)⊕(Int))=>sel e (fun e=>QcR Γ rv s0 c) (fun e=>e=rv)) ?_ h hD
 clear h hD s e
 intro v z_ h hI hE
 replace h:QaC s0 c v=_:=h
 unfold QaC at h
 rcases Qah h with ⟨h0,h⟩|⟨h0,h⟩
 ·obtain ⟨x0,h1,h⟩:=Qae h
  obtain ⟨r,h2,h⟩:=Qae h
  rcases Qah h with ⟨h3,h⟩|⟨h3,h⟩
  ·obtain rfl:=(hE _ (oJ h):_=rv)
   exact gr 14 [] [bT h0,cE Qaa.enc h1,cC (Qol h2),bT h3]
  ·exact gn 16 [0,1,7,8] [] [bT h0,cE Qaa.enc h1,cC (Qol h2),bF h3] (hI _ (oJ h))
 ·exact gn 5 [] [] [bF h0] (hE _ (oJ h))
theorem QbU {s0 c} {rv:Int} (h:Qbf s0 c=some rv):AFn Tryz.prog 166 [.one (lL 2 s0 Qaa.enc),.one (.fn (.func 170) [.ip [lI c] 0])] [] (one (lI rv)) []:=by
 refine QaQ Tryz.func166 (by kernel_rfl) (by kernel_rfl) (fun Γ=>?_)
 unfold Qbf at h
 obtain ⟨e0,h4,h⟩:=Qae h
 refine gn 7 [0,1,7,8] [] [nL Qaa.enc s0] (Qfy Γ rv h4 ?_)
 rcases e0 with e0|e0
 ·replace h:(some (-1):Option Int)=some _:=h
  obtain rfl:=Option.some.inj h
  exact gr 2 [] []
 ·obtain ⟨r1,rfl⟩:∃ x,x=e0:=⟨_,rfl⟩
  replace h:(some r1:Option Int)=some _:=h
  exact Option.some.inj h
theorem Qqj {l a b} {rv:Bool} (h:Qjf l a b=some rv):AFn Tryz.prog 122 [.one (lL 2 l Qaa.enc),.one (lI a),.one (lI b)] [] (one (.bool rv)) []:=by
 refine QaQ Tryz.func122 (by kernel_rfl) (by kernel_rfl) (fun Γ=>?_)
 unfold Qjf at h
 obtain ⟨r,h0,h⟩:=Qae h
 rcases Qah h with ⟨h1,h⟩|⟨h1,h⟩
 ·obtain rfl:=Option.some.inj h
  exact gr 10 [] [cC (QbU h0),bT h1]
 ·obtain ⟨r1,h2,h⟩:=Qae h
  rcases Qah h with ⟨h3,h⟩|⟨h3,h⟩
  ·obtain ⟨l1,h4,h⟩:=Qae h
   obtain ⟨r2,h5,h⟩:=Qae h
   obtain rfl:=Option.some.inj h
   exact gr 11 [] [cC (QbU h0),bF h1,cC (QfB h2),rp 3 (bT h3),hH (.rows (l1.map Qaa.enc)),oO (sl1 h4),oO (sl2h Qaa.enc h4),rp 3 (oO (Int.le_refl ((l.map Qaa.enc).length:Int))),oO (sl6h Qaa.enc h4),bT h3,bT h3,cC (QfB h5),bT h3,bT h3]
  ·obtain rfl:=Option.some.inj h
   exact gr 11 [] [cC (QbU h0),bF h1,cC (QfB h2),rp 7 (bF h3)]
theorem Qpg {v c} {rv:Bool} (h:Qki v c=some rv):AFn Tryz.prog 117 [.agg (Qaa.enc v),.one (.ip (Qad.enc c) 0)] [] (one (.bool rv)) []:=by
 refine QaQ Tryz.func117 (by kernel_rfl) (by kernel_rfl) (fun Γ=>?_)
 unfold Qki at h
 obtain rfl:=Option.some.inj h
 exact gr 4 [] [rp 5 hP,rp 3 (oI ((ltI v.order 0)=false)),nL Qai.enc c.orders,hP,hP,rp 2 (oI ((ltI v.order 0)=false)),oR True ((ltI v.order 0)=false)]
def QdB (Γ:Gam) (rv:Int) (cf:Cf):Prop:=Go Tryz.prog Tryz.f166 [] Γ (one (lI rv)) [] cf
def Qc2 (Γ:Gam) (rv:Int) (s0:List Qaa) (c:Qad) (v:Int):Prop:=QdB Γ rv ⟨[.c 52,.l 52,.b 0,.c 7],⟨19,[vL 0 2 s0 Qaa.enc,(1,one (.fn (.func 117) [.ip (Qad.enc c) 0])),vI 7 (lenI s0),vI 8 v],[]⟩⟩
def QcU (Γ:Gam) (rv:Int) (s0:List Qaa) (c:Qad):Prop:=QdB Γ rv ⟨[.c 7],⟨19,[],[]⟩⟩
theorem QfS (Γ:Gam) (rv:Int) {s0 c} {s:Int} {e:(Unit)⊕(Int)} (h:QaW (fun s=>QaF s0 c s) s=some e) (hD:sel e (fun e=>QcU Γ rv s0 c) (fun e=>e=rv)):Qc2 Γ rv s0 c s:=by
 refine QaA (C:=fun (s:Int)=>Qc2 Γ rv s0 c s) (D:=fun (e:(Unit)⊕(Int))=>sel e (fun e=>QcU Γ rv s0 c) (fun e=>e=rv)) ?_ h hD
 clear h hD s e
 intro v z_ h hI hE
 replace h:QaF s0 c v=_:=h
 unfold QaF at h
 rcases Qah h with ⟨h0,h⟩|⟨h0,h⟩
 ·obtain ⟨x0,h1,h⟩:=Qae h
  obtain ⟨r,h2,h⟩:=Qae h
  rcases Qah h with ⟨h3,h⟩|⟨h3,h⟩
  ·obtain rfl:=(hE _ (oJ h):_=rv)
   exact gr 14 [] [bT h0,cE Qaa.enc h1,cC (Qpg h2),bT h3]
  ·exact gn 16 [0,1,7,8] [] [bT h0,cE Qaa.enc h1,cC (Qpg h2),bF h3] (hI _ (oJ h))
 ·exact gn 5 [] [] [bF h0] (hE _ (oJ h))
theorem Qgb {s0 c} {rv:Int} (h:Qbh s0 c=some rv):AFn Tryz.prog 166 [.one (lL 2 s0 Qaa.enc),.one (.fn (.func 117) [.ip (Qad.enc c) 0])] [] (one (lI rv)) []:=by
 refine QaQ Tryz.func166 (by kernel_rfl) (by kernel_rfl) (fun Γ=>?_)
 unfold Qbh at h
 obtain ⟨e0,h4,h⟩:=Qae h
 refine gn 7 [0,1,7,8] [] [nL Qaa.enc s0] (QfS Γ rv h4 ?_)
 rcases e0 with e0|e0
 ·replace h:(some (-1):Option Int)=some _:=h
  obtain rfl:=Option.some.inj h
  exact gr 2 [] []
 ·obtain ⟨r1,rfl⟩:∃ x,x=e0:=⟨_,rfl⟩
  replace h:(some r1:Option Int)=some _:=h
  exact Option.some.inj h
theorem Qa4 {s0 c} {rv:Bool} (h:Qa9 s0 c=some rv):AFn Tryz.prog 116 [.one (lL 2 s0 Qaa.enc),.one (.fn (.func 117) [.ip (Qad.enc c) 0])] [] (one (.bool rv)) []:=by
 refine QaQ Tryz.func116 (by kernel_rfl) (by kernel_rfl) (fun Γ=>?_)
 unfold Qa9 at h
 obtain ⟨r,h0,h⟩:=Qae h
 obtain rfl:=Option.some.inj h
 exact gr 4 [] [cC (Qgb h0)]
theorem Qph {v c} {rv:Bool} (h:Qkj v c=some rv):AFn Tryz.prog 118 [.agg (Qaa.enc v),.one (.ip (Qad.enc c) 0)] [] (one (.bool rv)) []:=by
 refine QaQ Tryz.func118 (by kernel_rfl) (by kernel_rfl) (fun Γ=>?_)
 unfold Qkj at h
 obtain ⟨x0,h0,h⟩:=Qae h
 obtain rfl:=Option.some.inj h
 exact gr 4 [] [cE Qai.enc h0]
def QdC (Γ:Gam) (rv:Int) (cf:Cf):Prop:=Go Tryz.prog Tryz.f166 [] Γ (one (lI rv)) [] cf
def Qc3 (Γ:Gam) (rv:Int) (s0:List Qaa) (c:Qad) (v:Int):Prop:=QdC Γ rv ⟨[.c 52,.l 52,.b 0,.c 7],⟨19,[vL 0 2 s0 Qaa.enc,(1,one (.fn (.func 118) [.ip (Qad.enc c) 0])),vI 7 (lenI s0),vI 8 v],[]⟩⟩
def QcV (Γ:Gam) (rv:Int) (s0:List Qaa) (c:Qad):Prop:=QdC Γ rv ⟨[.c 7],⟨19,[],[]⟩⟩
theorem QfT (Γ:Gam) (rv:Int) {s0 c} {s:Int} {e:(Unit)⊕(Int)} (h:QaW (fun s=>QaG s0 c s) s=some e) (hD:sel e (fun e=>QcV Γ rv s0 c) (fun e=>e=rv)):Qc3 Γ rv s0 c s:=by
 refine QaA (C:=fun (s:Int)=>Qc3 Γ rv s0 c s) (D:=fun (e:(Unit)⊕(Int))=>sel e (fun e=>QcV Γ rv s0 c) (fun e=>e=rv)) ?_ h hD
 clear h hD s e
 intro v z_ h hI hE
 replace h:QaG s0 c v=_:=h
 unfold QaG at h
 rcases Qah h with ⟨h0,h⟩|⟨h0,h⟩
 ·obtain ⟨x0,h1,h⟩:=Qae h
  obtain ⟨r,h2,h⟩:=Qae h
  rcases Qah h with ⟨h3,h⟩|⟨h3,h⟩
  ·obtain rfl:=(hE _ (oJ h):_=rv)
   exact gr 14 [] [bT h0,cE Qaa.enc h1,cC (Qph h2),bT h3]
  ·exact gn 16 [0,1,7,8] [] [bT h0,cE Qaa.enc h1,cC (Qph h2),bF h3] (hI _ (oJ h))
 ·exact gn 5 [] [] [bF h0] (hE _ (oJ h))
theorem Qgc {s0 c} {rv:Int} (h:Qbi s0 c=some rv):AFn Tryz.prog 166 [.one (lL 2 s0 Qaa.enc),.one (.fn (.func 118) [.ip (Qad.enc c) 0])] [] (one (lI rv)) []:=by
 refine QaQ Tryz.func166 (by kernel_rfl) (by kernel_rfl) (fun Γ=>?_)
 unfold Qbi at h
 obtain ⟨e0,h4,h⟩:=Qae h
 refine gn 7 [0,1,7,8] [] [nL Qaa.enc s0] (QfT Γ rv h4 ?_)
 rcases e0 with e0|e0
 ·replace h:(some (-1):Option Int)=some _:=h
  obtain rfl:=Option.some.inj h
  exact gr 2 [] []
 ·obtain ⟨r1,rfl⟩:∃ x,x=e0:=⟨_,rfl⟩
  replace h:(some r1:Option Int)=some _:=h
  exact Option.some.inj h
theorem Qbm {s0 c} {rv:Bool} (h:Qba s0 c=some rv):AFn Tryz.prog 116 [.one (lL 2 s0 Qaa.enc),.one (.fn (.func 118) [.ip (Qad.enc c) 0])] [] (one (.bool rv)) []:=by
 refine QaQ Tryz.func116 (by kernel_rfl) (by kernel_rfl) (fun Γ=>?_)
 unfold Qba at h
 obtain ⟨r,h0,h⟩:=Qae h
 obtain rfl:=Option.some.inj h
 exact gr 4 [] [cC (Qgc h0)]
def Qkk (Γ:Gam) (rv:Int) (cf:Cf):Prop:=Go Tryz.prog Tryz.f79 [] Γ (one (lI rv)) [] cf
def Qpi (Γ:Gam) (rv:Int) (x0:Qad) (r:Qac) (v:Int):Prop:=Qkk Γ rv ⟨[.c 500,.l 500,.b 1,.c 63],⟨65,[vP 2 0 6,vL 5 2 r.visits Qaa.enc,vL 33 2 x0.apart QaO.enc,vI 34 (lenI x0.apart),vI 35 v],[oX 6 30 (Qad.enc x0)]⟩⟩
def Qoi (Γ:Gam) (rv:Int) (x0:Qad) (r:Qac):Prop:=Qkk Γ rv ⟨[.c 63],⟨65,[vP 2 0 6,vL 5 2 r.visits Qaa.enc],[oX 6 30 (Qad.enc x0)]⟩⟩
def Qpj (Γ:Gam) (rv:Int) (x0:Qad) (r:Qac) (v1:Int):Prop:=Qkk Γ rv ⟨[.c 1012,.l 1012,.b 3,.c 127],⟨65,[vL 5 2 r.visits Qaa.enc,vL 51 2 x0.before QaO.enc,vI 52 (lenI x0.before),vI 53 v1],[]⟩⟩
def Qoj (Γ:Gam) (rv:Int) (x0:Qad) (r:Qac):Prop:=Qkk Γ rv ⟨[.c 127],⟨65,[],[]⟩⟩
theorem QtO (Γ:Gam) (rv:Int) {x0 r} {s:Int} {e:(Unit)⊕(Int)} (h:QaW (fun s=>QdN x0 r s) s=some e) (hD:sel e (fun e=>Qoi Γ rv x0 r) (fun e=>e=rv)):Qpi Γ rv x0 r s:=by
 refine QaA (C:=fun (s:Int)=>Qpi Γ rv x0 r s) (D:=fun (e:(Unit)⊕(Int))=>sel e (fun e=>Qoi Γ rv x0 r) (fun e=>e=rv)) ?_ h hD
 clear h hD s e
 intro v z_ h hI hE
 replace h:QdN x0 r v=_:=h
 unfold QdN at h
 rcases Qah h with ⟨h9,h⟩|⟨h9,h⟩
 ·obtain ⟨x1,h10,h⟩:=Qae h
  obtain ⟨r5,h11,h⟩:=Qae h
  rcases Qah h with ⟨h12,h⟩|⟨h12,h⟩
  ·obtain ⟨r6,h13,h⟩:=Qae h
   rcases Qah h with ⟨h14,h⟩|⟨h14,h⟩
   ·obtain rfl:=(hE _ (oJ h):_=rv)
    exact gr 14 [] [bT h9,cE QaO.enc h10,oO (zL 0),oO (lT 0 2),cC (QfB h11),rp 2 (bT h12),oO (zL 1),oO (lT 1 2),rp 2 (bT h12),cC (QfB h13),bT h12,bT h14]
   ·exact gn 16 [2,5,33,34,35] [0] [bT h9,cE QaO.enc h10,oO (zL 0),oO (lT 0 2),cC (QfB h11),rp 2 (bT h12),oO (zL 1),oO (lT 1 2),rp 2 (bT h12),cC (QfB h13),bT h12,bF h14] (hI _ (oJ h))
  ·exact gn 16 [2,5,33,34,35] [0] [bT h9,cE QaO.enc h10,oO (zL 0),oO (lT 0 2),cC (QfB h11),rp 5 (bF h12),fF] (hI _ (oJ h))
 ·exact gn 5 [2,5] [0] [bF h9] (hE _ (oJ h))
theorem QtP (Γ:Gam) (rv:Int) {x0 r} {s:Int} {e:(Unit)⊕(Int)} (h:QaW (fun s=>Qda x0 r s) s=some e) (hD:sel e (fun e=>Qoj Γ rv x0 r) (fun e=>e=rv)):Qpj Γ rv x0 r s:=by
 refine QaA (C:=fun (s:Int)=>Qpj Γ rv x0 r s) (D:=fun (e:(Unit)⊕(Int))=>sel e (fun e=>Qoj Γ rv x0 r) (fun e=>e=rv)) ?_ h hD
 clear h hD s e
 intro v1 z_ h hI hE
 replace h:Qda x0 r v1=_:=h
 unfold Qda at h
 rcases Qah h with ⟨h16,h⟩|⟨h16,h⟩
 ·obtain ⟨x2,h17,h⟩:=Qae h
  obtain ⟨r7,h18,h⟩:=Qae h
  rcases Qah h with ⟨h19,h⟩|⟨h19,h⟩
  ·exact gn 16 [5,51,52,53] [] [bT h16,cE QaO.enc h17,oO (zL 0),oO (lT 0 2),oO (zL 1),oO (lT 1 2),cC (Qqj h18),nF h19] (hI _ (oJ h))
  ·obtain rfl:=(hE _ (oJ h):_=rv)
   exact gr 14 [] [bT h16,cE QaO.enc h17,oO (zL 0),oO (lT 0 2),oO (zL 1),oO (lT 1 2),cC (Qqj h18),nT h19]
 ·exact gn 5 [] [] [bF h16] (hE _ (oJ h))
theorem Qei {x0 r} {rv:Int} (h:QiM x0 r=some rv):AFn Tryz.prog 79 [.agg (Qad.enc x0),.agg (Qac.enc r)] [] (one (lI rv)) []:=by
 refine QaQ Tryz.func79 (by kernel_rfl) (by kernel_rfl) (fun Γ=>?_)
 unfold QiM at h
 rcases Qah h with ⟨h0,h⟩|⟨h0,h⟩
 ·obtain rfl:=Option.some.inj h
  exact gr 10 [] [nL Qaa.enc r.visits,rp 4 (bT h0),tT]
 ·obtain ⟨r1,h1,h⟩:=Qae h
  rcases Qah h with ⟨h2,h⟩|⟨h2,h⟩
  ·obtain rfl:=Option.some.inj h
   exact gr 10 [] [nL Qaa.enc r.visits,rp 3 (bF h0),cC (Qa4 h1),bF h0,bT h2]
  ·obtain ⟨r2,h3,h⟩:=Qae h
   rcases Qah h with ⟨h4,h⟩|⟨h4,h⟩
   ·obtain rfl:=Option.some.inj h
    exact gr 16 [] [nL Qaa.enc r.visits,rp 3 (bF h0),cC (Qa4 h1),bF h0,bF h2,cC (Qbm h3),bT h4]
   ·obtain ⟨r3,h5,h⟩:=Qae h
    rcases Qah h with ⟨h6,h⟩|⟨h6,h⟩
    ·obtain rfl:=Option.some.inj h
     exact gr 19 [] [nL Qaa.enc r.visits,rp 3 (bF h0),cC (Qa4 h1),bF h0,bF h2,cC (Qbm h3),bF h4,cC (Qmt h5),bT h6]
    ·obtain ⟨r4,h7,h⟩:=Qae h
     rcases Qah h with ⟨h8,h⟩|⟨h8,h⟩
     ·obtain ⟨e0,h15,h⟩:=Qae h
      refine gn 27 [2,5,33,34,35] [0] [nL Qaa.enc r.visits,rp 3 (bF h0),cC (Qa4 h1),bF h0,bF h2,cC (Qbm h3),bF h4,cC (Qmt h5),bF h6,cC (Qqk h7),nF h8,nL QaO.enc x0.apart] (QtO Γ rv h15 ?_)
      rcases e0 with e0|e0
      ·replace h:(bnd (QaW (fun s=>Qda x0 r s) 0) (fun e=>sel e (fun (_:Unit)=>some 0) (fun r8=>some r8)):Option Int)=some _:=h
       obtain ⟨e1,h20,h⟩:=Qae h
       refine gn 5 [5,51,52,53] [] [nL QaO.enc x0.before] (QtP Γ rv h20 ?_)
       rcases e1 with e1|e1
       ·replace h:(some 0:Option Int)=some _:=h
        obtain rfl:=Option.some.inj h
        exact gr 2 [] []
       ·obtain ⟨r8,rfl⟩:∃ x,x=e1:=⟨_,rfl⟩
        replace h:(some r8:Option Int)=some _:=h
        exact Option.some.inj h
      ·obtain ⟨r9,rfl⟩:∃ x,x=e0:=⟨_,rfl⟩
       replace h:(some r9:Option Int)=some _:=h
       exact Option.some.inj h
     ·obtain rfl:=Option.some.inj h
      exact gr 22 [] [nL Qaa.enc r.visits,rp 3 (bF h0),cC (Qa4 h1),bF h0,bF h2,cC (Qbm h3),bF h4,cC (Qmt h5),bF h6,cC (Qqk h7),nT h8]
theorem Qvg {t skills} {rv:Bool} (h:QnH t skills=some rv):AFn Tryz.prog 123 [.agg (Qak.enc t),.one (lI skills)] [] (one (.bool rv)) []:=by
 refine QaQ Tryz.func123 (by kernel_rfl) (by kernel_rfl) (fun Γ=>?_)
 unfold QnH at h
 obtain rfl:=Option.some.inj h
 exact gr 4 [] [rp 9 hP,oI ((geI t.skills 0)=true),oR True ((geI t.skills 0)=true),rp 4 (oI (((geI t.skills 0)&&(geI skills 0))=true)),oR True (((geI t.skills 0)&&(geI skills 0))=true)]
def Qwz (Γ:Gam) (rv:Int) (cf:Cf):Prop:=Go Tryz.prog Tryz.f80 [] Γ (one (lI rv)) [] cf
def Qtn (Γ:Gam) (rv:Int) (x0:Qad) (r:Qac) (v:Int):Prop:=Qwz Γ rv ⟨[.c 52,.l 52,.b 0,.c 7],⟨30,[vP 2 0 6,vP 3 1 4,vL 8 2 r.visits Qaa.enc,vI 9 (lenI r.visits),vI 10 v],[oX 6 30 (Qad.enc x0),oX 4 37 (Qac.enc r)]⟩⟩
def Qsp (Γ:Gam) (rv:Int) (x0:Qad) (r:Qac):Prop:=Qwz Γ rv ⟨[.c 7],⟨30,[],[]⟩⟩
theorem QwA (Γ:Gam) (rv:Int) {x0 r} {s:Int} {e:(Unit)⊕(Int)} (h:QaW (fun s=>QgE x0 r s) s=some e) (hD:sel e (fun e=>Qsp Γ rv x0 r) (fun e=>e=rv)):Qtn Γ rv x0 r s:=by
 refine QaA (C:=fun (s:Int)=>Qtn Γ rv x0 r s) (D:=fun (e:(Unit)⊕(Int))=>sel e (fun e=>Qsp Γ rv x0 r) (fun e=>e=rv)) ?_ h hD
 clear h hD s e
 intro v z_ h hI hE
 replace h:QgE x0 r v=_:=h
 unfold QgE at h
 rcases Qah h with ⟨h0,h⟩|⟨h0,h⟩
 ·obtain ⟨x1,h1,h⟩:=Qae h
  obtain ⟨x2,h2,h⟩:=Qae h
  obtain ⟨x3,h3,h⟩:=Qae h
  obtain ⟨r1,h4,h⟩:=Qae h
  rcases Qah h with ⟨h5,h⟩|⟨h5,h⟩
  ·exact gn 16 [2,3,8,9,10] [0,1] [bT h0,cE Qaa.enc h1,hH (.draw 15 []),cE Qak.enc h2,cE Qai.enc h3,cC (Qvg h4),nF h5] (hI _ (oJ h))
  ·obtain rfl:=(hE _ (oJ h):_=rv)
   exact gr 14 [] [bT h0,cE Qaa.enc h1,hH (.draw 15 []),cE Qak.enc h2,cE Qai.enc h3,cC (Qvg h4),nT h5]
 ·exact gn 5 [] [] [bF h0] (hE _ (oJ h))
theorem Qpc {x0 r} {rv:Int} (h:Qso x0 r=some rv):AFn Tryz.prog 80 [.agg (Qad.enc x0),.agg (Qac.enc r)] [] (one (lI rv)) []:=by
 refine QaQ Tryz.func80 (by kernel_rfl) (by kernel_rfl) (fun Γ=>?_)
 unfold Qso at h
 obtain ⟨e0,h6,h⟩:=Qae h
 refine gn 7 [2,3,8,9,10] [0,1] [nL Qaa.enc r.visits] (QwA Γ rv h6 ?_)
 rcases e0 with e0|e0
 ·replace h:(some 0:Option Int)=some _:=h
  obtain rfl:=Option.some.inj h
  exact gr 2 [] []
 ·obtain ⟨r2,rfl⟩:∃ x,x=e0:=⟨_,rfl⟩
  replace h:(some r2:Option Int)=some _:=h
  exact Option.some.inj h
theorem Qxt {set_ i} {rv:Bool} (h:QwF set_ i=some rv):AFn Tryz.prog 87 [.one (lI set_),.one (lI i)] [] (one (.bool rv)) []:=by
 refine QaQ Tryz.func87 (by kernel_rfl) (by kernel_rfl) (fun Γ=>?_)
 unfold QwF at h
 rcases Qah h with ⟨h0,h⟩|⟨h0,h⟩
 ·obtain ⟨h1,h⟩:=Qau h
  obtain rfl:=Option.some.inj h
  exact gr 4 [] [hP,hP,hP,oI ((geI i 0)=true),oR True ((geI i 0)=true),rp 3 (bT h0),oO (h1),rp 3 (bT h0)]
 ·obtain rfl:=Option.some.inj h
  exact gr 4 [] [hP,hP,hP,oI ((geI i 0)=true),oR True ((geI i 0)=true),rp 6 (bF h0)]
def Qut (Γ:Gam) (rv:List Int) (cf:Cf):Prop:=Go Tryz.prog Tryz.f54 [] Γ (one (lL 1 rv QaM)) [] cf
def Qq7 (Γ:Gam) (rv:List Int) (set_:Int) (l:List Int) (v:Int):Prop:=Qut Γ rv ⟨[.c 116,.l 116,.b 0,.c 15],⟨17,[vI 0 set_,vO 3 0 1 l QaM,vI 5 v],[oS 1 3 l QaM]⟩⟩
def Qql (Γ:Gam) (rv:List Int) (set_:Int) (l1:List Int):Prop:=Qut Γ rv ⟨[.c 15],⟨17,[vO 3 0 1 l1 QaM],[oS 1 3 l1 QaM]⟩⟩
theorem QuZ (Γ:Gam) (rv:List Int) {set_} {s:List Int×Int} {e:List Int} (h:QaW (fun s=>Qd0 set_ s.1 s.2) s=some e) (hD:Qql Γ rv set_ e):Qq7 Γ rv set_ s.1 s.2:=by
 refine QaA (C:=fun (s:List Int×Int)=>Qq7 Γ rv set_ s.1 s.2) (D:=fun (e:List Int)=>Qql Γ rv set_ e) ?_ h hD
 clear h hD s e
 rintro ⟨l,v⟩ z_ h hI hE
 replace h:Qd0 set_ l v=_:=h
 unfold Qd0 at h
 rcases Qah h with ⟨h0,h⟩|⟨h0,h⟩
 ·obtain ⟨r,h1,h⟩:=Qae h
  rcases Qah h with ⟨h2,h⟩|⟨h2,h⟩
  ·obtain ⟨h3,h⟩:=Qau h
   exact gn 16 [0,3,5] [2] [bT h0,cC (Qxt h1),bT h2,oO (Eq.refl ([v].map QaM).length),aO QaM h3] (hI _ (oJ h))
  ·exact gn 16 [0,3,5] [0] [bT h0,cC (Qxt h1),bF h2] (hI _ (oJ h))
 ·exact gn 5 [3] [0] [bF h0] (hE _ (oJ h))
theorem Qw3 {set_} {rv:List Int} (h:Qos set_=some rv):AFn Tryz.prog 54 [.one (lI set_)] [] (one (lL 1 rv QaM)) []:=by
 refine QaQ Tryz.func54 (by kernel_rfl) (by kernel_rfl) (fun Γ=>?_)
 unfold Qos at h
 obtain ⟨e0,h4,h⟩:=Qae h
 refine gn 9 [0,3,5] [0] [hW 12,hH (.adopt 3 1 3)] (QuZ Γ rv h4 ?_)
 obtain ⟨l1,rfl⟩:∃ x,x=e0:=⟨_,rfl⟩
 replace h:(some l1:Option (List Int))=some _:=h
 obtain rfl:=Option.some.inj h
 exact gr 2 [] [hW 4,hH (.frz 0),rp 3 (eL l1 QaM)]
theorem QyC {a b} {rv:Int} (h:Qt8 a b=some rv):AFn Tryz.prog 194 [.one (lI a),.one (lI b)] [] (one (lI rv)) []:=by
 refine QaQ Tryz.func194 (by kernel_rfl) (by kernel_rfl) (fun Γ=>?_)
 unfold Qt8 at h
 obtain rfl:=Option.some.inj h
 exact gr 4 [] []
def QnI (Γ:Gam) (rv:List Int×Int) (cf:Cf):Prop:=Go Tryz.prog Tryz.f193 [] Γ (.tup [.one (lL 1 rv.1 QaM),.one (lI rv.2)]) [] cf
def Qkt (Γ:Gam) (rv:List Int×Int) (a:List Int) (b:List Int) (l:List Int) (l1:List Int) (v:Int):Prop:=QnI Γ rv ⟨[.c 244,.l 244,.b 0,.c 31],⟨38,[vL 0 1 a QaM,vL 1 1 b QaM,(2,one (.fn (.func 194) [])),vO 8 0 1 l1 QaM,vI 19 (lenI a),vI 20 v],[oS 1 3 l1 QaM]⟩⟩
def QjV (Γ:Gam) (rv:List Int×Int) (a:List Int) (b:List Int) (l:List Int) (l2:List Int):Prop:=QnI Γ rv ⟨[.c 31],⟨38,[vO 8 0 1 l2 QaM],[oS 1 3 l2 QaM]⟩⟩
theorem Qqx (Γ:Gam) (rv:List Int×Int) {a b l} {s:List Int×Int} {e:List Int} (h:QaW (fun s=>Qcb a b l s.1 s.2) s=some e) (hD:QjV Γ rv a b l e):Qkt Γ rv a b l s.1 s.2:=by
 refine QaA (C:=fun (s:List Int×Int)=>Qkt Γ rv a b l s.1 s.2) (D:=fun (e:List Int)=>QjV Γ rv a b l e) ?_ h hD
 clear h hD s e
 rintro ⟨l1,v⟩ z_ h hI hE
 replace h:Qcb a b l l1 v=_:=h
 unfold Qcb at h
 rcases Qah h with ⟨h2,h⟩|⟨h2,h⟩
 ·obtain ⟨x0,h3,h⟩:=Qae h
  obtain ⟨x1,h4,h⟩:=Qae h
  obtain ⟨r,h5,h⟩:=Qae h
  obtain ⟨x2,h6,h⟩:=Qae h
  exact gn 13 [0,1,2,8,19,20] [0] [bT h2,hH (.draw 13 []),cE QaM h3,cE QaM h4,cC (QyC h5),oO (Qxi h6),oO (Qxh QaM h6),rE QaM h6,hH (.rows ((setI l1 v r).map QaM)),hH (.relen 0 ((setI l1 v r).map QaM).length),oO (setM QaM l1 v r),rp 2 (oO (QA9 QaM l1 v r))] (hI _ (oJ h))
 ·exact gn 5 [8] [0] [bF h2] (hE _ (oJ h))
theorem QsP {a b} {rv:List Int×Int} (h:Qiz a b=some rv):AFn Tryz.prog 193 [.one (lL 1 a QaM),.one (lL 1 b QaM),.one (.fn (.func 194) [])] [] (.tup [.one (lL 1 rv.1 QaM),.one (lI rv.2)]) []:=by
 refine QaQ Tryz.func193 (by kernel_rfl) (by kernel_rfl) (fun Γ=>?_)
 unfold Qiz at h
 rcases Qah h with ⟨h0,h⟩|⟨h0,h⟩
 ·obtain rfl:=Option.some.inj h
  exact gr 8 [] [nL QaM a,nL QaM b,bT h0,hW 4,hH (.nilS 6 0 1)]
 ·obtain ⟨l,h1,h⟩:=Qae h
  obtain ⟨e0,h7,h⟩:=Qae h
  refine gn 14 [0,1,2,8,19,20] [0] [nL QaM a,nL QaM b,bF h0,nL QaM a,hH (.cells [lI 0]),hH (.rows (l.map QaM)),oO (mk1 h1),oO (mk2 h1),oO (mk3 h1),oO (mk4 h1),oO (mk5 QaM h1),nL QaM a] (Qqx Γ rv h7 ?_)
  obtain ⟨l2,rfl⟩:∃ x,x=e0:=⟨_,rfl⟩
  replace h:(some (l2,0):Option (List Int×Int))=some _:=h
  obtain rfl:=Option.some.inj h
  exact gr 2 [] [hW 5,hH (.frz 0),rp 3 (eL l2 QaM)]
theorem Qtw {a b} {rv:List Int×Int} (h:QsD a b=some rv):AFn Tryz.prog 173 [.one (lL 1 a QaM),.one (lL 1 b QaM)] [] (.tup [.one (lL 1 rv.1 QaM),.one (lI rv.2)]) []:=by
 refine QaQ Tryz.func173 (by kernel_rfl) (by kernel_rfl) (fun Γ=>?_)
 unfold QsD at h
 obtain ⟨r,h0,h⟩:=Qae h
 obtain rfl:=Option.some.inj h
 exact gr 4 [] [cC (QsP h0)]
def Qvc (Γ:Gam) (rv:List Int) (cf:Cf):Prop:=Go Tryz.prog Tryz.f171 [] Γ (one (lL 1 rv QaM)) [] cf
def Qry (Γ:Gam) (rv:List Int) (x0:Qad) (l:List Int) (r:List Int) (sum:List Int) (v:Int):Prop:=Qvc Γ rv ⟨[.c 116,.l 116,.b 0,.c 15],⟨40,[vP 3 0 6,vL 7 1 sum QaM,vL 13 1 r QaM,vI 14 (lenI r),vI 15 v],[oX 6 30 (Qad.enc x0)]⟩⟩
def QqK (Γ:Gam) (rv:List Int) (x0:Qad) (l:List Int) (r:List Int) (sum1:List Int):Prop:=Qvc Γ rv ⟨[.c 15],⟨40,[vL 7 1 sum1 QaM],[]⟩⟩
theorem Qvr (Γ:Gam) (rv:List Int) {x0 l r} {s:List Int×Int} {e:List Int} (h:QaW (fun s=>QeE x0 l r s.1 s.2) s=some e) (hD:QqK Γ rv x0 l r e):Qry Γ rv x0 l r s.1 s.2:=by
 refine QaA (C:=fun (s:List Int×Int)=>Qry Γ rv x0 l r s.1 s.2) (D:=fun (e:List Int)=>QqK Γ rv x0 l r e) ?_ h hD
 clear h hD s e
 rintro ⟨sum,v⟩ z_ h hI hE
 replace h:QeE x0 l r sum v=_:=h
 unfold QeE at h
 rcases Qah h with ⟨h2,h⟩|⟨h2,h⟩
 ·obtain ⟨x1,h3,h⟩:=Qae h
  obtain ⟨x2,h4,h⟩:=Qae h
  rcases Qah h with ⟨h5,h⟩|⟨h5,h⟩
  ·obtain ⟨r1,h6,h⟩:=Qae h
   exact gn 16 [3,7,13,14,15] [0] [bT h2,cE QaM h3,cE Qai.enc h4,bT h5,cE Qai.enc h4,cC (Qtw h6)] (hI _ (oJ h))
  ·exact gn 16 [3,7,13,14,15] [0] [bT h2,cE QaM h3,cE Qai.enc h4,bF h5] (hI _ (oJ h))
 ·exact gn 5 [7] [] [bF h2] (hE _ (oJ h))
theorem QxA {x0 set_ dims} {rv:List Int} (h:QpC x0 set_ dims=some rv):AFn Tryz.prog 171 [.agg (Qad.enc x0),.one (lI set_),.one (lI dims)] [] (one (lL 1 rv QaM)) []:=by
 refine QaQ Tryz.func171 (by kernel_rfl) (by kernel_rfl) (fun Γ=>?_)
 unfold QpC at h
 obtain ⟨l,h0,h⟩:=Qae h
 obtain ⟨r,h1,h⟩:=Qae h
 obtain ⟨e0,h7,h⟩:=Qae h
 refine gn 9 [3,7,13,14,15] [0] [hH (.cells [lI 0]),hH (.rows (l.map QaM)),oO (mk1 h0),oO (mk2 h0),oO (mk3 h0),oO (mk4 h0),oO (mk5 QaM h0),cC (Qw3 h1),nL QaM r,hW 3,hH (.frz 1),rp 2 (eL l QaM)] (Qvr Γ rv h7 ?_)
 obtain ⟨sum1,rfl⟩:∃ x,x=e0:=⟨_,rfl⟩
 replace h:(some sum1:Option (List Int))=some _:=h
 obtain rfl:=Option.some.inj h
 exact gr 2 [] []
theorem Qyt {l} {rv:Int} (h:QrF l=some rv):AFn Tryz.prog 172 [.one (lL 14 l Qak.enc)] [] (one (lI rv)) []:=by
 refine QaQ Tryz.func172 (by kernel_rfl) (by kernel_rfl) (fun Γ=>?_)
 unfold QrF at h
 rcases Qah h with ⟨h0,h⟩|⟨h0,h⟩
 ·obtain rfl:=Option.some.inj h
  exact gr 8 [] [nL Qak.enc l,bT h0]
 ·obtain ⟨x0,h1,h⟩:=Qae h
  obtain rfl:=Option.some.inj h
  exact gr 9 [] [nL Qak.enc l,bF h0,cE Qak.enc h1,nL QaM x0.cap]
theorem QxO {a b} {rv:Int} (h:QsE a b=some rv):AFn Tryz.prog 195 [.one (lI a),.one (lI b)] [] (one (lI rv)) []:=by
 refine QaQ Tryz.func195 (by kernel_rfl) (by kernel_rfl) (fun Γ=>?_)
 unfold QsE at h
 obtain rfl:=Option.some.inj h
 exact gr 4 [] []
def QmF (Γ:Gam) (rv:List Int×Int) (cf:Cf):Prop:=Go Tryz.prog Tryz.f193 [] Γ (.tup [.one (lL 1 rv.1 QaM),.one (lI rv.2)]) [] cf
def QjU (Γ:Gam) (rv:List Int×Int) (a:List Int) (b:List Int) (l:List Int) (l1:List Int) (v:Int):Prop:=QmF Γ rv ⟨[.c 244,.l 244,.b 0,.c 31],⟨38,[vL 0 1 a QaM,vL 1 1 b QaM,(2,one (.fn (.func 195) [])),vO 8 0 1 l1 QaM,vI 19 (lenI a),vI 20 v],[oS 1 3 l1 QaM]⟩⟩
def Qjz (Γ:Gam) (rv:List Int×Int) (a:List Int) (b:List Int) (l:List Int) (l2:List Int):Prop:=QmF Γ rv ⟨[.c 31],⟨38,[vO 8 0 1 l2 QaM],[oS 1 3 l2 QaM]⟩⟩
theorem QpO (Γ:Gam) (rv:List Int×Int) {a b l} {s:List Int×Int} {e:List Int} (h:QaW (fun s=>Qb1 a b l s.1 s.2) s=some e) (hD:Qjz Γ rv a b l e):QjU Γ rv a b l s.1 s.2:=by
 refine QaA (C:=fun (s:List Int×Int)=>QjU Γ rv a b l s.1 s.2) (D:=fun (e:List Int)=>Qjz Γ rv a b l e) ?_ h hD
 clear h hD s e
 rintro ⟨l1,v⟩ z_ h hI hE
 replace h:Qb1 a b l l1 v=_:=h
 unfold Qb1 at h
 rcases Qah h with ⟨h2,h⟩|⟨h2,h⟩
 ·obtain ⟨x0,h3,h⟩:=Qae h
  obtain ⟨x1,h4,h⟩:=Qae h
  obtain ⟨r,h5,h⟩:=Qae h
  obtain ⟨x2,h6,h⟩:=Qae h
  exact gn 13 [0,1,2,8,19,20] [0] [bT h2,hH (.draw 13 []),cE QaM h3,cE QaM h4,cC (QxO h5),oO (Qxi h6),oO (Qxh QaM h6),rE QaM h6,hH (.rows ((setI l1 v r).map QaM)),hH (.relen 0 ((setI l1 v r).map QaM).length),oO (setM QaM l1 v r),rp 2 (oO (QA9 QaM l1 v r))] (hI _ (oJ h))
 ·exact gn 5 [8] [0] [bF h2] (hE _ (oJ h))
theorem QrM {a b} {rv:List Int×Int} (h:QhV a b=some rv):AFn Tryz.prog 193 [.one (lL 1 a QaM),.one (lL 1 b QaM),.one (.fn (.func 195) [])] [] (.tup [.one (lL 1 rv.1 QaM),.one (lI rv.2)]) []:=by
 refine QaQ Tryz.func193 (by kernel_rfl) (by kernel_rfl) (fun Γ=>?_)
 unfold QhV at h
 rcases Qah h with ⟨h0,h⟩|⟨h0,h⟩
 ·obtain rfl:=Option.some.inj h
  exact gr 8 [] [nL QaM a,nL QaM b,bT h0,hW 4,hH (.nilS 6 0 1)]
 ·obtain ⟨l,h1,h⟩:=Qae h
  obtain ⟨e0,h7,h⟩:=Qae h
  refine gn 14 [0,1,2,8,19,20] [0] [nL QaM a,nL QaM b,bF h0,nL QaM a,hH (.cells [lI 0]),hH (.rows (l.map QaM)),oO (mk1 h1),oO (mk2 h1),oO (mk3 h1),oO (mk4 h1),oO (mk5 QaM h1),nL QaM a] (QpO Γ rv h7 ?_)
  obtain ⟨l2,rfl⟩:∃ x,x=e0:=⟨_,rfl⟩
  replace h:(some (l2,0):Option (List Int×Int))=some _:=h
  obtain rfl:=Option.some.inj h
  exact gr 2 [] [hW 5,hH (.frz 0),rp 3 (eL l2 QaM)]
theorem Qwg {a b} {rv:List Int×Int} (h:Qt7 a b=some rv):AFn Tryz.prog 174 [.one (lL 1 a QaM),.one (lL 1 b QaM)] [] (.tup [.one (lL 1 rv.1 QaM),.one (lI rv.2)]) []:=by
 refine QaQ Tryz.func174 (by kernel_rfl) (by kernel_rfl) (fun Γ=>?_)
 unfold Qt7 at h
 obtain ⟨r,h0,h⟩:=Qae h
 obtain rfl:=Option.some.inj h
 exact gr 4 [] [cC (QrM h0)]
def Qvb (Γ:Gam) (rv:List (List Int)×Int) (cf:Cf):Prop:=Go Tryz.prog Tryz.f124 [] Γ (.tup [.one (lL 1 rv.1 Qbq),.one (lI rv.2)]) [] cf
def Qrx (Γ:Gam) (rv:List (List Int)×Int) (x0:Qad) (r:Qac) (l:List (List Int)) (now:List Int) (v:Int):Prop:=Qvb Γ rv ⟨[.c 2036,.l 2036,.b 0,.c 255],⟨67,[vP 2 0 6,vL 9 1 now QaM,vO 10 1 1 l Qbq,vL 37 2 r.visits Qaa.enc,vI 38 (lenI r.visits),vI 39 v],[oX 6 30 (Qad.enc x0),oS 1 90 l Qbq]⟩⟩
def QqJ (Γ:Gam) (rv:List (List Int)×Int) (x0:Qad) (r:Qac) (l1:List (List Int)):Prop:=Qvb Γ rv ⟨[.c 255],⟨67,[vO 10 0 1 l1 Qbq],[oS 1 90 l1 Qbq]⟩⟩
theorem Qvq (Γ:Gam) (rv:List (List Int)×Int) {x0 r} {s:List (List Int)×List Int×Int} {e:(List (List Int))⊕(List (List Int)×Int)} (h:QaW (fun s=>QeD x0 r s.1 s.2.1 s.2.2) s=some e) (hD:sel e (fun e=>QqJ Γ rv x0 r e) (fun e=>e=rv)):Qrx Γ rv x0 r s.1 s.2.1 s.2.2:=by
 refine QaA (C:=fun (s:List (List Int)×List Int×Int)=>Qrx Γ rv x0 r s.1 s.2.1 s.2.2) (D:=fun (e:(List (List Int))⊕(List (List Int)×Int))=>sel e (fun e=>QqJ Γ rv x0 r e) (fun e=>e=rv)) ?_ h hD
 clear h hD s e
 rintro ⟨l,now,v⟩ z_ h hI hE
 replace h:QeD x0 r l now v=_:=h
 unfold QeD at h
 rcases Qah h with ⟨h6,h⟩|⟨h6,h⟩
 ·obtain ⟨x1,h7,h⟩:=Qae h
  rcases Qah h with ⟨h8,h⟩|⟨h8,h⟩
  ·obtain ⟨x2,h9,h⟩:=Qae h
   obtain ⟨r5,h10,h⟩:=Qae h
   rcases Qah h with ⟨h11,h⟩|⟨h11,h⟩
   ·obtain rfl:=(hE _ (oJ h):_=rv)
    exact gr 24 [] [bT h6,cE Qaa.enc h7,bT h8,cE Qai.enc h9,cC (Qwg h10),bT h11,hW 5,hH (.nilS 4 0 1)]
   ·obtain ⟨h12,h⟩:=Qau h
    exact gn 27 [2,9,10,37,38,39] [0,4] [bT h6,cE Qaa.enc h7,bT h8,cE Qai.enc h9,cC (Qwg h10),bF h11,oO (Eq.refl ([r5.1].map Qbq).length),aO Qbq h12] (hI _ (oJ h))
  ·obtain ⟨x3,h13,h⟩:=Qae h
   obtain ⟨r6,h14,h⟩:=Qae h
   rcases Qah h with ⟨h15,h⟩|⟨h15,h⟩
   ·obtain rfl:=(hE _ (oJ h):_=rv)
    exact gr 24 [] [bT h6,cE Qaa.enc h7,bF h8,cE Qai.enc h13,cC (Qtw h14),bT h15,hW 5,hH (.nilS 4 0 1)]
   ·obtain ⟨h16,h⟩:=Qau h
    exact gn 27 [2,9,10,37,38,39] [0,4] [bT h6,cE Qaa.enc h7,bF h8,cE Qai.enc h13,cC (Qtw h14),bF h15,oO (Eq.refl ([r6.1].map Qbq).length),aO Qbq h16] (hI _ (oJ h))
 ·exact gn 5 [10] [1] [bF h6] (hE _ (oJ h))
theorem Qqs {x0 r} {rv:List (List Int)×Int} (h:QpB x0 r=some rv):AFn Tryz.prog 124 [.agg (Qad.enc x0),.agg (Qac.enc r)] [] (.tup [.one (lL 1 rv.1 Qbq),.one (lI rv.2)]) []:=by
 refine QaQ Tryz.func124 (by kernel_rfl) (by kernel_rfl) (fun Γ=>?_)
 unfold QpB at h
 obtain ⟨r1,h0,h⟩:=Qae h
 rcases Qah h with ⟨h1,h⟩|⟨h1,h⟩
 ·obtain rfl:=Option.some.inj h
  exact gr 10 [] [cC (Qei h0),bT h1,hW 5,hH (.nilS 4 0 1)]
 ·obtain ⟨r2,h2,h⟩:=Qae h
  rcases Qah h with ⟨h3,h⟩|⟨h3,h⟩
  ·obtain rfl:=Option.some.inj h
   exact gr 17 [] [cC (Qei h0),bF h1,cC (Qbv h2),bT h3,hW 5,hH (.nilS 4 0 1)]
  ·obtain ⟨r3,h4,h⟩:=Qae h
   obtain ⟨r4,h5,h⟩:=Qae h
   obtain ⟨e0,h17,h⟩:=Qae h
   refine gn 25 [2,9,10,37,38,39] [0,2] [cC (Qei h0),bF h1,cC (Qbv h2),bF h3,hH (.draw 7 []),cC (Qyt h4),cC (QxA h5),nL Qaa.enc r.visits] (Qvq Γ rv h17 ?_)
   rcases e0 with e0|e0
   ·obtain ⟨l1,rfl⟩:∃ x,x=e0:=⟨_,rfl⟩
    replace h:(some (l1,0):Option (List (List Int)×Int))=some _:=h
    obtain rfl:=Option.some.inj h
    exact gr 2 [] [hW 5,hH (.frz 0),rp 3 (eL l1 Qbq)]
   ·obtain ⟨r7,rfl⟩:∃ x,x=e0:=⟨_,rfl⟩
    replace h:(some r7:Option (List (List Int)×Int))=some _:=h
    exact Option.some.inj h
def Qwe (Γ:Gam) (rv:Bool) (cf:Cf):Prop:=Go Tryz.prog Tryz.f127 [] Γ (one (.bool rv)) [] cf
def Qtg (Γ:Gam) (rv:Bool) (a:List Int) (capacity:List Int) (v:Int):Prop:=Qwe Γ rv ⟨[.c 116,.l 116,.b 0,.c 15],⟨26,[vL 1 1 capacity QaM,vL 12 1 a QaM,vI 13 (lenI a),vI 14 v],[]⟩⟩
def QrL (Γ:Gam) (rv:Bool) (a:List Int) (capacity:List Int):Prop:=Qwe Γ rv ⟨[.c 15],⟨26,[],[]⟩⟩
theorem Qwf (Γ:Gam) (rv:Bool) {a capacity} {s:Int} {e:(Unit)⊕(Bool)} (h:QaW (fun s=>Qgk a capacity s) s=some e) (hD:sel e (fun e=>QrL Γ rv a capacity) (fun e=>e=rv)):Qtg Γ rv a capacity s:=by
 refine QaA (C:=fun (s:Int)=>Qtg Γ rv a capacity s) (D:=fun (e:(Unit)⊕(Bool))=>sel e (fun e=>QrL Γ rv a capacity) (fun e=>e=rv)) ?_ h hD
 clear h hD s e
 intro v z_ h hI hE
 replace h:Qgk a capacity v=_:=h
 unfold Qgk at h
 rcases Qah h with ⟨h1,h⟩|⟨h1,h⟩
 ·obtain ⟨x0,h2,h⟩:=Qae h
  obtain ⟨x1,h3,h⟩:=Qae h
  rcases Qah h with ⟨h4,h⟩|⟨h4,h⟩
  ·obtain rfl:=(hE _ (oJ h):_=rv)
   exact gr 14 [] [bT h1,cE QaM h2,cE QaM h3,bT h4]
  ·exact gn 16 [1,12,13,14] [] [bT h1,cE QaM h2,cE QaM h3,bF h4] (hI _ (oJ h))
 ·exact gn 5 [] [] [bF h1] (hE _ (oJ h))
theorem QyB {a capacity} {rv:Bool} (h:QrK a capacity=some rv):AFn Tryz.prog 127 [.one (lL 1 a QaM),.one (lL 1 capacity QaM)] [] (one (.bool rv)) []:=by
 refine QaQ Tryz.func127 (by kernel_rfl) (by kernel_rfl) (fun Γ=>?_)
 unfold QrK at h
 rcases Qah h with ⟨h0,h⟩|⟨h0,h⟩
 ·obtain rfl:=Option.some.inj h
  exact gr 8 [] [nL QaM a,nL QaM capacity,bT h0]
 ·obtain ⟨e0,h5,h⟩:=Qae h
  refine gn 12 [1,12,13,14] [] [nL QaM a,nL QaM capacity,bF h0,nL QaM a] (Qwf Γ rv h5 ?_)
  rcases e0 with e0|e0
  ·replace h:(some true:Option Bool)=some _:=h
   obtain rfl:=Option.some.inj h
   exact gr 2 [] []
  ·obtain ⟨r,rfl⟩:∃ x,x=e0:=⟨_,rfl⟩
   replace h:(some r:Option Bool)=some _:=h
   exact Option.some.inj h
theorem Qtb {a c c1} {rv:Bool} (h:Qqr a c c1=some rv):AFn Tryz.prog 126 [.one (lL 1 a QaM),.one (.ip (Qad.enc c) 0),.one (.ip (Qac.enc c1) 0)] [] (one (.bool rv)) []:=by
 refine QaQ Tryz.func126 (by kernel_rfl) (by kernel_rfl) (fun Γ=>?_)
 unfold Qqr at h
 obtain ⟨x0,h0,h⟩:=Qae h
 obtain ⟨r,h1,h⟩:=Qae h
 obtain rfl:=Option.some.inj h
 exact gr 4 [] [cE Qak.enc h0,cC (QyB h1)]
def Qe0 (Γ:Gam) (rv:Int) (cf:Cf):Prop:=Go Tryz.prog Tryz.f175 [] Γ (one (lI rv)) [] cf
def Qej (Γ:Gam) (rv:Int) (s0:List (List Int)) (c:Qad) (c1:Qac) (v:Int):Prop:=Qe0 Γ rv ⟨[.c 52,.l 52,.b 0,.c 7],⟨19,[vL 0 1 s0 Qbq,(1,one (.fn (.func 126) [.ip (Qad.enc c) 0,.ip (Qac.enc c1) 0])),vI 7 (lenI s0),vI 8 v],[]⟩⟩
def Qd8 (Γ:Gam) (rv:Int) (s0:List (List Int)) (c:Qad) (c1:Qac):Prop:=Qe0 Γ rv ⟨[.c 7],⟨19,[],[]⟩⟩
theorem Qhv (Γ:Gam) (rv:Int) {s0 c c1} {s:Int} {e:(Unit)⊕(Int)} (h:QaW (fun s=>QaT s0 c c1 s) s=some e) (hD:sel e (fun e=>Qd8 Γ rv s0 c c1) (fun e=>e=rv)):Qej Γ rv s0 c c1 s:=by
 refine QaA (C:=fun (s:Int)=>Qej Γ rv s0 c c1 s) (D:=fun (e:(Unit)⊕(Int))=>sel e (fun e=>Qd8 Γ rv s0 c c1) (fun e=>e=rv)) ?_ h hD
 clear h hD s e
 intro v z_ h hI hE
 replace h:QaT s0 c c1 v=_:=h
 unfold QaT at h
 rcases Qah h with ⟨h0,h⟩|⟨h0,h⟩
 ·obtain ⟨x0,h1,h⟩:=Qae h
  obtain ⟨r,h2,h⟩:=Qae h
  rcases Qah h with ⟨h3,h⟩|⟨h3,h⟩
  ·obtain rfl:=(hE _ (oJ h):_=rv)
   exact gr 14 [] [bT h0,cE Qbq h1,cC (Qtb h2),bT h3]
  ·exact gn 16 [0,1,7,8] [] [bT h0,cE Qbq h1,cC (Qtb h2),bF h3] (hI _ (oJ h))
 ·exact gn 5 [] [] [bF h0] (hE _ (oJ h))
theorem Qib {s0 c c1} {rv:Int} (h:QbJ s0 c c1=some rv):AFn Tryz.prog 175 [.one (lL 1 s0 Qbq),.one (.fn (.func 126) [.ip (Qad.enc c) 0,.ip (Qac.enc c1) 0])] [] (one (lI rv)) []:=by
 refine QaQ Tryz.func175 (by kernel_rfl) (by kernel_rfl) (fun Γ=>?_)
 unfold QbJ at h
 obtain ⟨e0,h4,h⟩:=Qae h
 refine gn 7 [0,1,7,8] [] [nL Qbq s0] (Qhv Γ rv h4 ?_)
 rcases e0 with e0|e0
 ·replace h:(some (-1):Option Int)=some _:=h
  obtain rfl:=Option.some.inj h
  exact gr 2 [] []
 ·obtain ⟨r1,rfl⟩:∃ x,x=e0:=⟨_,rfl⟩
  replace h:(some r1:Option Int)=some _:=h
  exact Option.some.inj h
theorem Qd7 {s0 c c1} {rv:Bool} (h:QbX s0 c c1=some rv):AFn Tryz.prog 125 [.one (lL 1 s0 Qbq),.one (.fn (.func 126) [.ip (Qad.enc c) 0,.ip (Qac.enc c1) 0])] [] (one (.bool rv)) []:=by
 refine QaQ Tryz.func125 (by kernel_rfl) (by kernel_rfl) (fun Γ=>?_)
 unfold QbX at h
 obtain ⟨r,h0,h⟩:=Qae h
 obtain rfl:=Option.some.inj h
 exact gr 4 [] [cC (Qib h0)]
theorem Qrw {x0 r} {rv:Int} (h:Qrv x0 r=some rv):AFn Tryz.prog 81 [.agg (Qad.enc x0),.agg (Qac.enc r)] [] (one (lI rv)) []:=by
 refine QaQ Tryz.func81 (by kernel_rfl) (by kernel_rfl) (fun Γ=>?_)
 unfold Qrv at h
 rcases Qah h with ⟨h0,h⟩|⟨h0,h⟩
 ·obtain rfl:=Option.some.inj h
  exact gr 8 [] [rp 5 hP,rp 3 (oI ((ltI r.type_ 0)=false)),nL Qak.enc x0.types,hP,hP,rp 2 (oI ((ltI r.type_ 0)=false)),oR True ((ltI r.type_ 0)=false),bT h0]
 ·obtain ⟨r1,h1,h⟩:=Qae h
  rcases Qah h with ⟨h2,h⟩|⟨h2,h⟩
  ·obtain rfl:=Option.some.inj h
   exact gr 15 [] [rp 5 hP,rp 3 (oI ((ltI r.type_ 0)=false)),nL Qak.enc x0.types,hP,hP,rp 2 (oI ((ltI r.type_ 0)=false)),oR True ((ltI r.type_ 0)=false),bF h0,cC (Qqs h1),bT h2]
  ·obtain ⟨r2,h3,h⟩:=Qae h
   rcases Qah h with ⟨h4,h⟩|⟨h4,h⟩
   ·obtain rfl:=Option.some.inj h
    exact gr 20 [] [rp 5 hP,rp 3 (oI ((ltI r.type_ 0)=false)),nL Qak.enc x0.types,hP,hP,rp 2 (oI ((ltI r.type_ 0)=false)),oR True ((ltI r.type_ 0)=false),bF h0,cC (Qqs h1),bF h2,cC (Qd7 h3),bT h4]
   ·obtain rfl:=Option.some.inj h
    exact gr 21 [] [rp 5 hP,rp 3 (oI ((ltI r.type_ 0)=false)),nL Qak.enc x0.types,hP,hP,rp 2 (oI ((ltI r.type_ 0)=false)),oR True ((ltI r.type_ 0)=false),bF h0,cC (Qqs h1),bF h2,cC (Qd7 h3),bF h4]
def Qzs (Γ:Gam) (rv:Qaw×Int) (cf:Cf):Prop:=Go Tryz.prog Tryz.f91 [] Γ (.tup [.agg [lI rv.1.place,lI rv.1.open_,lI rv.1.close,lI rv.1.service],.one (lI rv.2)]) [] cf
theorem Qsf (Γ:Gam) (rv:Qaw×Int) {x1} (h:Qma x1=some rv):Qzs Γ rv ⟨[.c 31],⟨32,[vP 4 0 4,vP 6 1 4],[oX 4 122 [lI 0,lI 0,lI 0,lI 0],oX 4 122 (Qaw.enc x1)]⟩⟩:=by
 unfold Qma at h
 rcases Qah h with ⟨h4,h⟩|⟨h4,h⟩
 ·obtain rfl:=Option.some.inj h
  exact gr 6 [] [bT h4]
 ·obtain rfl:=Option.some.inj h
  exact gr 7 [] [bF h4]
theorem Qvj {l v} {rv:Qaw×Int} (h:Qse l v=some rv):AFn Tryz.prog 91 [.one (lL 16 l Qai.enc),.agg (Qaa.enc v)] [] (.tup [.agg [lI rv.1.place,lI rv.1.open_,lI rv.1.close,lI rv.1.service],.one (lI rv.2)]) []:=by
 refine QaQ Tryz.func91 (by kernel_rfl) (by kernel_rfl) (fun Γ=>?_)
 unfold Qse at h
 obtain ⟨r,h0,h⟩:=Qae h
 rcases Qah h with ⟨h1,h⟩|⟨h1,h⟩
 ·obtain ⟨x0,h2,h⟩:=Qae h
  rcases Qah h with ⟨h3,h⟩|⟨h3,h⟩
  ·exact gn 14 [4,6] [1,2] [cC (QiK h0),nF h1,cE Qai.enc h2,bT h3,cE Qai.enc h2] (Qsf Γ rv h)
  ·exact gn 14 [4,6] [1,2] [cC (QiK h0),nF h1,cE Qai.enc h2,bF h3] (Qsf Γ rv h)
 ·obtain rfl:=Option.some.inj h
  exact gr 8 [] [cC (QiK h0),nT h1]
def Qv1 (Γ:Gam) (rv:Qay×Bool) (cf:Cf):Prop:=Go Tryz.prog Tryz.f128 [] Γ (.tup [.agg [lL 1 rv.1.x.net.places QmE,lL 6 rv.1.x.net.arcs Qas.enc,lL 14 rv.1.x.types Qak.enc,lL 16 rv.1.x.orders Qai.enc,lL 2 rv.1.x.apart QaO.enc,lL 2 rv.1.x.before QaO.enc,.str rv.1.t.name,lI rv.1.t.count,lI rv.1.t.from_,lI rv.1.t.to_,lL 1 rv.1.t.cap QaM,lI rv.1.t.skills,lI rv.1.t.profile,lI rv.1.t.open_,lI rv.1.t.close,lI rv.1.t.drive,lI rv.1.t.rest_,lI rv.1.t.fixed,lI rv.1.t.perMile,lI rv.1.t.perTick,lI rv.1.r.type_,lI rv.1.r.start,lL 1 rv.1.r.rests QaI,lL 2 rv.1.r.visits Qaa.enc,lL 4 rv.1.stops Qaw.enc],.one (.bool rv.2)]) [] cf
def Qte (Γ:Gam) (rv:Qay×Bool) (x0:Qad) (r:Qac) (x1:Qak) (l:List Qaw) (v:Int):Prop:=Qv1 Γ rv ⟨[.c 244,.l 244,.b 0,.c 31],⟨78,[vP 2 0 6,vP 4 1 25,vP 6 2 25,vL 49 2 r.visits Qaa.enc,vI 50 (lenI r.visits),vI 51 v],[oX 6 30 (Qad.enc x0),oX 25 173 [.nils,.nils,.nils,.nils,.nils,.nils,.str ByteArray.empty,lI 0,lI 0,lI 0,.nils,lI 0,lI 0,lI 0,lI 0,lI 0,lI 0,lI 0,lI 0,lI 0,lI 0,lI 0,.nils,.nils,.nils],oX 25 173 [lL 1 x0.net.places QmE,lL 6 x0.net.arcs Qas.enc,lL 14 x0.types Qak.enc,lL 16 x0.orders Qai.enc,lL 2 x0.apart QaO.enc,lL 2 x0.before QaO.enc,.str x1.name,lI x1.count,lI x1.from_,lI x1.to_,lL 1 x1.cap QaM,lI x1.skills,lI x1.profile,lI x1.open_,lI x1.close,lI x1.drive,lI x1.rest_,lI x1.fixed,lI x1.perMile,lI x1.perTick,lI r.type_,lI r.start,lL 1 r.rests QaI,lL 2 r.visits Qaa.enc,lO 3 4 l Qaw.enc],oS 4 122 l Qaw.enc]⟩⟩
def QrD (Γ:Gam) (rv:Qay×Bool) (x0:Qad) (r:Qac) (x1:Qak) (l1:List Qaw):Prop:=Qv1 Γ rv ⟨[.c 31],⟨78,[vP 4 0 25,vP 6 1 25],[oX 25 173 [.nils,.nils,.nils,.nils,.nils,.nils,.str ByteArray.empty,lI 0,lI 0,lI 0,.nils,lI 0,lI 0,lI 0,lI 0,lI 0,lI 0,lI 0,lI 0,lI 0,lI 0,lI 0,.nils,.nils,.nils],oX 25 173 [lL 1 x0.net.places QmE,lL 6 x0.net.arcs Qas.enc,lL 14 x0.types Qak.enc,lL 16 x0.orders Qai.enc,lL 2 x0.apart QaO.enc,lL 2 x0.before QaO.enc,.str x1.name,lI x1.count,lI x1.from_,lI x1.to_,lL 1 x1.cap QaM,lI x1.skills,lI x1.profile,lI x1.open_,lI x1.close,lI x1.drive,lI x1.rest_,lI x1.fixed,lI x1.perMile,lI x1.perTick,lI r.type_,lI r.start,lL 1 r.rests QaI,lL 2 r.visits Qaa.enc,lO 2 4 l1 Qaw.enc],oS 4 122 l1 Qaw.enc]⟩⟩
theorem Qv2 (Γ:Gam) (rv:Qay×Bool) {x0 r x1} {s:List Qaw×Int} {e:(List Qaw)⊕(Qay×Bool)} (h:QaW (fun s=>Qjx x0 r x1 s.1 s.2) s=some e) (hD:sel e (fun e=>QrD Γ rv x0 r x1 e) (fun e=>e=rv)):Qte Γ rv x0 r x1 s.1 s.2:=by
 refine QaA (C:=fun (s:List Qaw×Int)=>Qte Γ rv x0 r x1 s.1 s.2) (D:=fun (e:(List Qaw)⊕(Qay×Bool))=>sel e (fun e=>QrD Γ rv x0 r x1 e) (fun e=>e=rv)) ?_ h hD
 clear h hD s e
 rintro ⟨l,v⟩ z_ h hI hE
 replace h:Qjx x0 r x1 l v=_:=h
 unfold Qjx at h
 rcases Qah h with ⟨h2,h⟩|⟨h2,h⟩
 ·obtain ⟨x2,h3,h⟩:=Qae h
  obtain ⟨r1,h4,h⟩:=Qae h
  rcases Qah h with ⟨h5,h⟩|⟨h5,h⟩
  ·obtain rfl:=(hE _ (oJ h):_=rv)
   exact gr 17 [] [bT h2,cE Qaa.enc h3,cC (Qvj h4),rp 4 hP,rp 2 (oI ((neI r1.2 0)=false)),oR True ((neI r1.2 0)=false),bT h5,hW 5,hH (.nilB 1 0 1),hH (.nilB 1 1 6),hH (.nilB 1 2 14),hH (.nilB 1 3 16),hH (.nilB 1 4 2),hH (.nilB 1 5 2),hH (.nilB 1 10 1),hH (.nilB 1 22 1),hH (.nilB 1 23 2),hH (.nilB 1 24 4)]
  ·obtain ⟨h6,h⟩:=Qau h
   exact gn 20 [2,4,6,49,50,51] [0,1,2,7] [bT h2,cE Qaa.enc h3,cC (Qvj h4),rp 4 hP,rp 2 (oI ((neI r1.2 0)=false)),oR True ((neI r1.2 0)=false),bF h5,oO (Eq.refl ([r1.1].map Qaw.enc).length),aO Qaw.enc h6] (hI _ (oJ h))
 ·exact gn 5 [4,6] [1,2,3] [bF h2] (hE _ (oJ h))
theorem Qvf {x0 r} {rv:Qay×Bool} (h:QpM x0 r=some rv):AFn Tryz.prog 128 [.agg (Qad.enc x0),.agg (Qac.enc r)] [] (.tup [.agg [lL 1 rv.1.x.net.places QmE,lL 6 rv.1.x.net.arcs Qas.enc,lL 14 rv.1.x.types Qak.enc,lL 16 rv.1.x.orders Qai.enc,lL 2 rv.1.x.apart QaO.enc,lL 2 rv.1.x.before QaO.enc,.str rv.1.t.name,lI rv.1.t.count,lI rv.1.t.from_,lI rv.1.t.to_,lL 1 rv.1.t.cap QaM,lI rv.1.t.skills,lI rv.1.t.profile,lI rv.1.t.open_,lI rv.1.t.close,lI rv.1.t.drive,lI rv.1.t.rest_,lI rv.1.t.fixed,lI rv.1.t.perMile,lI rv.1.t.perTick,lI rv.1.r.type_,lI rv.1.r.start,lL 1 rv.1.r.rests QaI,lL 2 rv.1.r.visits Qaa.enc,lL 4 rv.1.stops Qaw.enc],.one (.bool rv.2)]) []:=by
 refine QaQ Tryz.func128 (by kernel_rfl) (by kernel_rfl) (fun Γ=>?_)
 unfold QpM at h
 rcases Qah h with ⟨h0,h⟩|⟨h0,h⟩
 ·obtain rfl:=Option.some.inj h
  exact gr 8 [] [rp 5 hP,rp 3 (oI ((ltI r.type_ 0)=false)),nL Qak.enc x0.types,rp 13 hP,rp 2 (oI ((ltI r.type_ 0)=false)),oR True ((ltI r.type_ 0)=false),rp 2 (oI (((ltI r.type_ 0)||(geI r.type_ (lenI x0.types)))=false)),oR True (((ltI r.type_ 0)||(geI r.type_ (lenI x0.types)))=false),rp 2 (oI ((((ltI r.type_ 0)||(geI r.type_ (lenI x0.types)))||(ltI r.start 0))=false)),oR True ((((ltI r.type_ 0)||(geI r.type_ (lenI x0.types)))||(ltI r.start 0))=false),rp 2 (oI (((((ltI r.type_ 0)||(geI r.type_ (lenI x0.types)))||(ltI r.start 0))||(gtI r.start 4096))=false)),nL Qaa.enc r.visits,hP,hP,oI (((((ltI r.type_ 0)||(geI r.type_ (lenI x0.types)))||(ltI r.start 0))||(gtI r.start 4096))=false),oR True (((((ltI r.type_ 0)||(geI r.type_ (lenI x0.types)))||(ltI r.start 0))||(gtI r.start 4096))=false),bT h0,hW 5,hH (.nilB 2 0 1),hH (.nilB 2 1 6),hH (.nilB 2 2 14),hH (.nilB 2 3 16),hH (.nilB 2 4 2),hH (.nilB 2 5 2),hH (.nilB 2 10 1),hH (.nilB 2 22 1),hH (.nilB 2 23 2),hH (.nilB 2 24 4)]
 ·obtain ⟨x1,h1,h⟩:=Qae h
  obtain ⟨e0,h7,h⟩:=Qae h
  refine gn 14 [2,4,6,49,50,51] [0,2,3,4] [rp 5 hP,rp 3 (oI ((ltI r.type_ 0)=false)),nL Qak.enc x0.types,rp 13 hP,rp 2 (oI ((ltI r.type_ 0)=false)),oR True ((ltI r.type_ 0)=false),rp 2 (oI (((ltI r.type_ 0)||(geI r.type_ (lenI x0.types)))=false)),oR True (((ltI r.type_ 0)||(geI r.type_ (lenI x0.types)))=false),rp 2 (oI ((((ltI r.type_ 0)||(geI r.type_ (lenI x0.types)))||(ltI r.start 0))=false)),oR True ((((ltI r.type_ 0)||(geI r.type_ (lenI x0.types)))||(ltI r.start 0))=false),rp 2 (oI (((((ltI r.type_ 0)||(geI r.type_ (lenI x0.types)))||(ltI r.start 0))||(gtI r.start 4096))=false)),nL Qaa.enc r.visits,hP,hP,oI (((((ltI r.type_ 0)||(geI r.type_ (lenI x0.types)))||(ltI r.start 0))||(gtI r.start 4096))=false),oR True (((((ltI r.type_ 0)||(geI r.type_ (lenI x0.types)))||(ltI r.start 0))||(gtI r.start 4096))=false),bF h0,hH (.draw 10 []),cE Qak.enc h1,nL Qaa.enc r.visits,hW 3,hH (.adoptB 3 24 4 122)] (Qv2 Γ rv h7 ?_)
  rcases e0 with e0|e0
  ·obtain ⟨l1,rfl⟩:∃ x,x=e0:=⟨_,rfl⟩
   replace h:(some ((Qay.mk x0 x1 r l1),true):Option (Qay×Bool))=some _:=h
   obtain rfl:=Option.some.inj h
   exact gr 2 [] [hW 5,hH (.frz 2),rp 3 (eL l1 Qaw.enc)]
  ·obtain ⟨r2,rfl⟩:∃ x,x=e0:=⟨_,rfl⟩
   replace h:(some r2:Option (Qay×Bool))=some _:=h
   exact Option.some.inj h
theorem QoJ {p} {rv:Qag} (h:QdF p=some rv):AFn Tryz.prog 129 [.agg (Qay.enc p)] [] (gG [lI rv.ready,lI rv.since,.bool rv.sheet.rest_,lI rv.sheet.depart,lL 4 rv.sheet.times Qaq.enc,lI rv.sheet.end_,lI rv.sheet.miles]) []:=by
 refine QaQ Tryz.func129 (by kernel_rfl) (by kernel_rfl) (fun Γ=>?_)
 unfold QdF at h
 obtain rfl:=Option.some.inj h
 exact gr 4 [] [hW 15,hH (.nilB 1 4 4)]
theorem Qd5 {n i} {rv:Bool} (h:QjP n i=some rv):AFn Tryz.prog 180 [.agg (Qal.enc n),.one (lI i)] [] (one (.bool rv)) []:=by
 refine QaQ Tryz.func180 (by kernel_rfl) (by kernel_rfl) (fun Γ=>?_)
 unfold QjP at h
 obtain rfl:=Option.some.inj h
 exact gr 4 [] [rp 4 hP,rp 2 (oI ((geI i 0)=true)),nL QmE n.places,hP,hP,rp 2 (oI ((geI i 0)=true)),oR True ((geI i 0)=true)]
theorem Qsb {a} {rv:Qjw} (h:Qpa a=some rv):AFn Tryz.prog 199 [.agg (Qas.enc a)] [] (gG [lI rv.from_,lI rv.to_,lI rv.profile]) []:=by
 refine QaQ Tryz.func199 (by kernel_rfl) (by kernel_rfl) (fun Γ=>?_)
 unfold Qpa at h
 obtain rfl:=Option.some.inj h
 exact gr 4 [] []
end Go.Proofs.YtoedkepcaigkeaaGreatDoor
