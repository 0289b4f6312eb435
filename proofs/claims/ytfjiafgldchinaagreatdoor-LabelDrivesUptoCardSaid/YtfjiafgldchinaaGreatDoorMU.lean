/- Part MU of the proof: texts L0. -/
import Derived.Test.YtfjiafgldchinaaGreatDoorMT
import Derived.Test.YtfjiafgldchinaaGreatDoorMC
import Derived.Test.YtfjiafgldchinaaGreatDoorProg
namespace Go.Proofs.YtfjiafgldchinaaGreatDoor
set_option linter.unusedVariables false
set_option linter.unusedSectionVars false
set_option linter.unusedSimpArgs false
set_option maxHeartbeats 4000000
set_option maxRecDepth 100000
def QhE (Γ:Gam) (rv:List Qaa) (cf:Cf):Prop:=Go Tryz.prog Tryz.f65 [] Γ (one (lL 2 rv Qaa.enc)) [] cf
def QfT (Γ:Gam) (rv:List Qaa) (word:ByteArray) (l:List Qaa) (l1:List Qaa) (i:Int):Prop:=QhE Γ rv ⟨[.c 116,.l 116,.b 0,.c 15],⟨40,[vS 0 word,vL 1 2 l Qaa.enc,vO 5 0 2 l1 Qaa.enc,vI 6 i],[oS 2 164 l1 Qaa.enc]⟩⟩
def Qfp (Γ:Gam) (rv:List Qaa) (word:ByteArray) (l:List Qaa) (l2:List Qaa):Prop:=QhE Γ rv ⟨[.c 15],⟨40,[vO 5 0 2 l2 Qaa.enc],[oS 2 164 l2 Qaa.enc]⟩⟩
theorem Qis (Γ:Gam) (rv:List Qaa) {word l l1 i at_} {x:(List Qaa×Int)⊕(List Qaa)} (h:QdW word l l1 i at_=some x) (hI:∀ s:List Qaa×Int,x=.inl s→QfT Γ rv word l s.1 s.2) (hE:∀ e:List Qaa,x=.inr e→Qfp Γ rv word l e):QhE Γ rv ⟨[.c 3731,.b 1,.c 467,.l 116,.b 0,.c 15],⟨40,[vS 0 word,vL 1 2 l Qaa.enc,vO 5 0 2 l1 Qaa.enc,vI 6 i,vS 7 at_],[oS 2 164 l1 Qaa.enc]⟩⟩:=by
 unfold QdW at h
 obtain ⟨x1,h5,h⟩:=Qae h
 obtain ⟨h6,h⟩:=Qas h
 exact gn 4 [0,1,5,6] [2] [cE Qaa.enc h5,oO (Eq.refl ([(Qaa.mk x1.err at_)].map Qaa.enc).length),aO Qaa.enc h6] (hI _ (oJ h))
theorem QmY (Γ:Gam) (rv:List Qaa) {word l} {s:List Qaa×Int} {e:List Qaa} (h:loopF (fun s=>Qc7 word l s.1 s.2) s=some e) (hD:Qfp Γ rv word l e):QfT Γ rv word l s.1 s.2:=by
 refine Qaz (C:=fun (s:List Qaa×Int)=>QfT Γ rv word l s.1 s.2) (D:=fun (e:List Qaa)=>Qfp Γ rv word l e) ?_ h hD
 clear h hD s e
 rintro ⟨l1,i⟩ z_ h hI hE
 replace h:Qc7 word l l1 i=_:=h
 unfold Qc7 at h
 rcases Qai h with ⟨h0,h⟩|⟨h0,h⟩
 ·obtain ⟨x0,h1,h⟩:=Qae h
  rcases Qai h with ⟨h2,h⟩|⟨h2,h⟩
  ·exact gn 14 [0,1,5,6,7] [0] [nL Qaa.enc l,bT h0,cE Qaa.enc h1,nF h2] (Qis Γ rv h hI hE)
  ·obtain ⟨h3,h⟩:=Qas h
   obtain ⟨h4,h⟩:=Qas h
   exact gn 14 [0,1,5,6,7] [0] [nL Qaa.enc l,bT h0,cE Qaa.enc h1,nT h2,oO (h3),cE Qaa.enc h1,oO (h4)] (Qis Γ rv h hI hE)
 ·exact gn 5 [5] [0] [nL Qaa.enc l,bF h0] (hE _ (oJ h))
theorem QgW {word l} {rv:List Qaa} (h:Qem word l=some rv):AFn Tryz.prog 65 [.one (.str word),.one (lL 2 l Qaa.enc)] [] (one (lL 2 rv Qaa.enc)) []:=by
 refine QaM Tryz.func65 (by kernel_rfl) (by kernel_rfl) (fun Γ=>?_)
 unfold Qem at h
 obtain ⟨e0,h7,h⟩:=Qae h
 refine gn 9 [0,1,5,6] [0] [hW 12,hH (.adopt 5 2 164)] (QmY Γ rv h7 ?_)
 obtain ⟨l2,rfl⟩:∃ x,x=e0:=⟨_,rfl⟩
 replace h:(some l2:Option (List Qaa))=some _:=h
 obtain rfl:=Option.some.inj h
 exact gr 2 [] [hW 4,hH (.frz 0),rp 3 (eL l2 Qaa.enc)]
def Qgi (Γ:Gam) (rv:ByteArray) (cf:Cf):Prop:=Go Tryz.prog Tryz.f110 [] Γ (one (.str rv)) [] cf
def Qe1 (Γ:Gam) (rv:ByteArray) (n:Int) (s0:ByteArray) (left:Int) (again:Bool):Prop:=Qgi Γ rv ⟨[.c 244,.l 244,.b 0,.c 31],⟨31,[vI 0 n,vS 3 s0,vI 4 left,vB 5 again],[]⟩⟩
def QeD (Γ:Gam) (rv:ByteArray) (n:Int) (s1:ByteArray):Prop:=Qgi Γ rv ⟨[.c 31],⟨31,[vI 0 n,vS 3 s1],[]⟩⟩
theorem QgL (Γ:Gam) (rv:ByteArray) {n s0 left d} {x:(ByteArray×Int×Bool)⊕(ByteArray)} (h:Qco n s0 left d=some x) (hI:∀ s:ByteArray×Int×Bool,x=.inl s→Qe1 Γ rv n s.1 s.2.1 s.2.2) (hE:∀ e:ByteArray,x=.inr e→QeD Γ rv n e):Qgi Γ rv ⟨[.c 7827,.b 1,.c 979,.l 244,.b 0,.c 31],⟨31,[vI 0 n,vS 3 s0,vI 4 left,vI 6 d],[]⟩⟩:=by
 unfold Qco at h
 obtain ⟨h2,h⟩:=Qas h
 exact gn 6 [0,3,4,5] [] [hH (.ints [(cvK .u8 (addK .i64 48 d))]),oO (Eq.refl ([(cvK .u8 (addK .i64 48 d))].map e_u8).length),oO (Eq.refl (([(cvK .u8 (addK .i64 48 d))].map e_u8):List (List Lf))),oO (h2),oO (oA (n:=10))] (hI _ (oJ h))
theorem QlO (Γ:Gam) (rv:ByteArray) {n} {s:ByteArray×Int×Bool} {e:ByteArray} (h:loopF (fun s=>Qeb n s.1 s.2.1 s.2.2) s=some e) (hD:QeD Γ rv n e):Qe1 Γ rv n s.1 s.2.1 s.2.2:=by
 refine Qaz (C:=fun (s:ByteArray×Int×Bool)=>Qe1 Γ rv n s.1 s.2.1 s.2.2) (D:=fun (e:ByteArray)=>QeD Γ rv n e) ?_ h hD
 clear h hD s e
 rintro ⟨s0,left,again⟩ z_ h hI hE
 replace h:Qeb n s0 left again=_:=h
 unfold Qeb at h
 rcases Qai h with ⟨h0,h⟩|⟨h0,h⟩
 ·rcases Qai h with ⟨h1,h⟩|⟨h1,h⟩
  ·exact gn 14 [0,3,4,6] [] [bT h0,oO (oA (n:=10)),bT h1] (QgL Γ rv h hI hE)
  ·exact gn 14 [0,3,4,6] [] [bT h0,oO (oA (n:=10)),bF h1] (QgL Γ rv h hI hE)
 ·exact gn 5 [0,3] [] [bF h0] (hE _ (oJ h))
theorem Qbd {n} {rv:ByteArray} (h:Qbf n=some rv):AFn Tryz.prog 110 [.one (lI n)] [] (one (.str rv)) []:=by
 refine QaM Tryz.func110 (by kernel_rfl) (by kernel_rfl) (fun Γ=>?_)
 unfold Qbf at h
 obtain ⟨e0,h3,h⟩:=Qae h
 refine gn 11 [0,3,4,5] [] [] (QlO Γ rv h3 ?_)
 obtain ⟨s1,rfl⟩:∃ x,x=e0:=⟨_,rfl⟩
 replace h:(br (ltI n 0) (chk (QrK.size+s1.size≤9223372036854775807) (some (catS QrK s1))) (some s1):Option ByteArray)=some _:=h
 rcases Qai h with ⟨h4,h⟩|⟨h4,h⟩
 ·obtain ⟨h5,h⟩:=Qas h
  obtain rfl:=Option.some.inj h
  exact gr 6 [] [bT h4,oO (h5)]
 ·obtain rfl:=Option.some.inj h
  exact gr 7 [] [bF h4]
theorem Qe5 {c} {rv:Bool} (h:QgM c=some rv):AFn Tryz.prog 149 [.one (.int .u8 c)] [] (one (.bool rv)) []:=by
 refine QaM Tryz.func149 (by kernel_rfl) (by kernel_rfl) (fun Γ=>?_)
 unfold QgM at h
 obtain rfl:=Option.some.inj h
 exact gr 4 [] [hP,hP,hP,oI ((geI c 48)=true),oR True ((geI c 48)=true)]
theorem Qgj {c} {rv:Bool} (h:QiG c=some rv):AFn Tryz.prog 150 [.one (.int .u8 c)] [] (one (.bool rv)) []:=by
 refine QaM Tryz.func150 (by kernel_rfl) (by kernel_rfl) (fun Γ=>?_)
 unfold QiG at h
 obtain rfl:=Option.some.inj h
 exact gr 4 [] [rp 14 hP,oI ((geI c 97)=true),oR True ((geI c 97)=true),rp 2 (oI (((geI c 97)&&(leI c 122))=false)),oI ((((geI c 97)&&(leI c 122))=false)∧(geI c 65)=true),oI (((geI c 97)&&(leI c 122))=false),oI ((((geI c 97)&&(leI c 122))=false)∧(geI c 65)=true),oR True (((geI c 97)&&(leI c 122))=false),oI ((((geI c 97)&&(leI c 122))||((geI c 65)&&(leI c 90)))=false),oR True ((((geI c 97)&&(leI c 122))||((geI c 65)&&(leI c 90)))=false)]
def Ql8 (Γ:Gam) (rv:Bool) (cf:Cf):Prop:=Go Tryz.prog Tryz.f131 [] Γ (one (.bool rv)) [] cf
def QjC (Γ:Gam) (rv:Bool) (s0:ByteArray) (b:UInt8) (i:Int):Prop:=Ql8 Γ rv ⟨[.c 116,.l 116,.b 0,.c 15],⟨35,[vS 0 s0,vI 3 i],[]⟩⟩
def QiQ (Γ:Gam) (rv:Bool) (s0:ByteArray) (b:UInt8):Prop:=Ql8 Γ rv ⟨[.c 15],⟨35,[],[]⟩⟩
theorem Qnu (Γ:Gam) (rv:Bool) {s0 b} {s:Int} {e:(Unit)⊕(Bool)} (h:loopF (fun s=>Qdo s0 b s) s=some e) (hD:sel e (fun e=>QiQ Γ rv s0 b) (fun e=>e=rv)):QjC Γ rv s0 b s:=by
 refine Qaz (C:=fun (s:Int)=>QjC Γ rv s0 b s) (D:=fun (e:(Unit)⊕(Bool))=>sel e (fun e=>QiQ Γ rv s0 b) (fun e=>e=rv)) ?_ h hD
 clear h hD s e
 intro i z_ h hI hE
 replace h:Qdo s0 b i=_:=h
 unfold Qdo at h
 rcases Qai h with ⟨h4,h⟩|⟨h4,h⟩
 ·obtain ⟨b1,h5,h⟩:=Qae h
  obtain ⟨r1,h6,h⟩:=Qae h
  rcases Qai h with ⟨h7,h⟩|⟨h7,h⟩
  ·exact gn 14 [0,3] [] [bT h4,yE h5,cC (Qgj h6),rp 6 (nF h7),fF] (hI _ (oJ h))
  ·obtain ⟨r2,h8,h⟩:=Qae h
   rcases Qai h with ⟨h9,h⟩|⟨h9,h⟩
   ·exact gn 14 [0,3] [] [bT h4,yE h5,cC (Qgj h6),rp 3 (nT h7),yE h5,nT h7,cC (Qe5 h8),nT h7,nT h7,nF h9] (hI _ (oJ h))
   ·obtain rfl:=(hE _ (oJ h):_=rv)
    exact gr 12 [] [bT h4,yE h5,cC (Qgj h6),rp 3 (nT h7),yE h5,nT h7,cC (Qe5 h8),nT h7,nT h7,nT h9]
 ·exact gn 5 [] [] [bF h4] (hE _ (oJ h))
theorem Qdp {s0} {rv:Bool} (h:Qd3 s0=some rv):AFn Tryz.prog 131 [.one (.str s0)] [] (one (.bool rv)) []:=by
 refine QaM Tryz.func131 (by kernel_rfl) (by kernel_rfl) (fun Γ=>?_)
 unfold Qd3 at h
 rcases Qai h with ⟨h0,h⟩|⟨h0,h⟩
 ·obtain rfl:=Option.some.inj h
  exact gr 8 [] [rp 4 hP,rp 2 (oI ((ltI (sizeS s0) 1)=false)),oR True ((ltI (sizeS s0) 1)=false),rp 4 (bT h0),tT]
 ·obtain ⟨b,h1,h⟩:=Qae h
  obtain ⟨r,h2,h⟩:=Qae h
  rcases Qai h with ⟨h3,h⟩|⟨h3,h⟩
  ·obtain rfl:=Option.some.inj h
   exact gr 8 [] [rp 4 hP,rp 2 (oI ((ltI (sizeS s0) 1)=false)),oR True ((ltI (sizeS s0) 1)=false),bF h0,bF h0,yE h1,bF h0,cC (Qe5 h2),bF h0,bT h3]
  ·obtain ⟨e0,h10,h⟩:=Qae h
   refine gn 12 [0,3] [] [rp 4 hP,rp 2 (oI ((ltI (sizeS s0) 1)=false)),oR True ((ltI (sizeS s0) 1)=false),bF h0,bF h0,yE h1,bF h0,cC (Qe5 h2),bF h0,bF h3] (Qnu Γ rv h10 ?_)
   rcases e0 with e0|e0
   ·replace h:(some true:Option Bool)=some _:=h
    obtain rfl:=Option.some.inj h
    exact gr 2 [] []
   ·obtain ⟨r3,rfl⟩:∃ x,x=e0:=⟨_,rfl⟩
    replace h:(some r3:Option Bool)=some _:=h
    exact Option.some.inj h
def QfD (Γ:Gam) (rv:List Qaa) (cf:Cf):Prop:=Go Tryz.prog Tryz.f132 [] Γ (one (lL 2 rv Qaa.enc)) [] cf
def QfR (Γ:Gam) (rv:List Qaa) (l:List Qaj) (l2:List Qaa) (i:Int):Prop:=QfD Γ rv ⟨[.c 244,.l 244,.b 0,.c 31],⟨88,[vL 0 2 l Qaj.enc,vO 3 0 2 l2 Qaa.enc,vI 4 i],[oS 2 164 l2 Qaa.enc]⟩⟩
def Qfg (Γ:Gam) (rv:List Qaa) (l:List Qaj) (l4:List Qaa):Prop:=QfD Γ rv ⟨[.c 31],⟨88,[vO 3 0 2 l4 Qaa.enc],[oS 2 164 l4 Qaa.enc]⟩⟩
theorem QhW (Γ:Gam) (rv:List Qaa) {l i x0 l3} {x:(List Qaa×Int)⊕(List Qaa)} (h:QcS l i x0 l3=some x) (hI:∀ s:List Qaa×Int,x=.inl s→QfR Γ rv l s.1 s.2) (hE:∀ e:List Qaa,x=.inr e→Qfg Γ rv l e):QfD Γ rv ⟨[.c 7827,.b 1,.c 979,.l 244,.b 0,.c 31],⟨88,[vL 0 2 l Qaj.enc,vO 3 0 2 l3 Qaa.enc,vI 4 i,vP 5 1 2],[oS 2 164 l3 Qaa.enc,oX 2 74 (Qaj.enc x0)]⟩⟩:=by
 unfold QcS at h
 rcases Qai h with ⟨h7,h⟩|⟨h7,h⟩
 ·obtain ⟨x1,h8,h⟩:=Qae h
  rcases Qai h with ⟨h9,h⟩|⟨h9,h⟩
  ·obtain ⟨r1,h10,h⟩:=Qae h
   obtain ⟨h11,h⟩:=Qas h
   exact gn 7 [0,3,4] [3] [hH (.draw 24 []),rp 6 (bT h7),cE Qaj.enc h8,rp 4 (bT h7),rp 9 (bT h9),bT h7,bT h9,bT h7,tT,cC (Qbd h10),oO (Eq.refl ([(Qaa.mk 13 r1)].map Qaa.enc).length),aO Qaa.enc h11] (hI _ (oJ h))
  ·rcases Qai h with ⟨h12,h⟩|⟨h12,h⟩
   ·obtain ⟨r2,h13,h⟩:=Qae h
    obtain ⟨h14,h⟩:=Qas h
    exact gn 7 [0,3,4] [3] [hH (.draw 24 []),rp 6 (bT h7),cE Qaj.enc h8,rp 4 (bT h7),rp 6 (bF h9),cE Qaj.enc h8,rp 3 (bF h9),bT h7,bF h9,bT h7,bT h12,cC (Qbd h13),oO (Eq.refl ([(Qaa.mk 13 r2)].map Qaa.enc).length),aO Qaa.enc h14] (hI _ (oJ h))
   ·exact gn 7 [0,3,4] [0] [hH (.draw 24 []),rp 6 (bT h7),cE Qaj.enc h8,rp 4 (bT h7),rp 6 (bF h9),cE Qaj.enc h8,rp 3 (bF h9),bT h7,bF h9,bT h7,bF h12] (hI _ (oJ h))
 ·exact gn 7 [0,3,4] [0] [hH (.draw 24 []),rp 10 (bF h7),rp 9 kF,bF h7,bF h7,fF] (hI _ (oJ h))
theorem QmP (Γ:Gam) (rv:List Qaa) {l} {s:List Qaa×Int} {e:List Qaa} (h:loopF (fun s=>Qcl l s.1 s.2) s=some e) (hD:Qfg Γ rv l e):QfR Γ rv l s.1 s.2:=by
 refine Qaz (C:=fun (s:List Qaa×Int)=>QfR Γ rv l s.1 s.2) (D:=fun (e:List Qaa)=>Qfg Γ rv l e) ?_ h hD
 clear h hD s e
 rintro ⟨l2,i⟩ z_ h hI hE
 replace h:Qcl l l2 i=_:=h
 unfold Qcl at h
 rcases Qai h with ⟨h2,h⟩|⟨h2,h⟩
 ·obtain ⟨x0,h3,h⟩:=Qae h
  rcases Qai h with ⟨h4,h⟩|⟨h4,h⟩
  ·obtain ⟨r,h5,h⟩:=Qae h
   obtain ⟨h6,h⟩:=Qas h
   exact gn 14 [0,3,4,5] [3,1] [nL Qaj.enc l,bT h2,cE Qaj.enc h3,rp 17 hP,rp 2 (oI ((ltI x0.t 0)=false)),oR True ((ltI x0.t 0)=false),rp 4 (oI (((ltI x0.t 0)||(gtI x0.t 4096))=false)),oR True (((ltI x0.t 0)||(gtI x0.t 4096))=false),rp 5 (oI ((((ltI x0.t 0)||(gtI x0.t 4096))||(ltI x0.a x0.t))=false)),oR True ((((ltI x0.t 0)||(gtI x0.t 4096))||(ltI x0.a x0.t))=false),bT h4,cC (Qbd h5),oO (Eq.refl ([(Qaa.mk 2 r)].map Qaa.enc).length),aO Qaa.enc h6] (QhW Γ rv h hI hE)
  ·exact gn 14 [0,3,4,5] [0,1] [nL Qaj.enc l,bT h2,cE Qaj.enc h3,rp 17 hP,rp 2 (oI ((ltI x0.t 0)=false)),oR True ((ltI x0.t 0)=false),rp 4 (oI (((ltI x0.t 0)||(gtI x0.t 4096))=false)),oR True (((ltI x0.t 0)||(gtI x0.t 4096))=false),rp 5 (oI ((((ltI x0.t 0)||(gtI x0.t 4096))||(ltI x0.a x0.t))=false)),oR True ((((ltI x0.t 0)||(gtI x0.t 4096))||(ltI x0.a x0.t))=false),bF h4] (QhW Γ rv h hI hE)
 ·exact gn 5 [3] [0] [nL Qaj.enc l,bF h2] (hE _ (oJ h))
theorem QhV (Γ:Gam) (rv:List Qaa) {l l1} (h:QdP l l1=some rv):QfD Γ rv ⟨[.c 15],⟨88,[vL 0 2 l Qaj.enc,vO 3 0 2 l1 Qaa.enc],[oS 2 164 l1 Qaa.enc]⟩⟩:=by
 unfold QdP at h
 obtain ⟨e0,h15,h⟩:=Qae h
 refine gn 5 [0,3,4] [0] [] (QmP Γ rv h15 ?_)
 obtain ⟨l4,rfl⟩:∃ x,x=e0:=⟨_,rfl⟩
 replace h:(some l4:Option (List Qaa))=some _:=h
 obtain rfl:=Option.some.inj h
 exact gr 2 [] [hW 4,hH (.frz 0),rp 3 (eL l4 Qaa.enc)]
theorem QgP {l} {rv:List Qaa} (h:Qdz l=some rv):AFn Tryz.prog 132 [.one (lL 2 l Qaj.enc)] [] (one (lL 2 rv Qaa.enc)) []:=by
 refine QaM Tryz.func132 (by kernel_rfl) (by kernel_rfl) (fun Γ=>?_)
 unfold Qdz at h
 rcases Qai h with ⟨h0,h⟩|⟨h0,h⟩
 ·obtain ⟨h1,h⟩:=Qas h
  exact gn 9 [0,3] [1] [nL Qaj.enc l,hP,hP,oI ((ltI (lenI l) 1)=false),nL Qaj.enc l,hP,hP,oI ((ltI (lenI l) 1)=false),oR True ((ltI (lenI l) 1)=false),bT h0,oO (Eq.refl ([(Qaa.mk 4 ByteArray.empty)].map Qaa.enc).length),aN (l:=([(Qaa.mk 4 ByteArray.empty)]:List Qaa)) Qaa.enc h1] (QhV Γ rv h)
 ·exact gn 9 [0,3] [0] [nL Qaj.enc l,hP,hP,oI ((ltI (lenI l) 1)=false),nL Qaj.enc l,hP,hP,oI ((ltI (lenI l) 1)=false),oR True ((ltI (lenI l) 1)=false),bF h0,hW 1,hH (.adopt 3 2 164)] (QhV Γ rv h)
theorem QbV {t} {rv:Bool} (h:QeW t=some rv):AFn Tryz.prog 133 [.one (lI t)] [] (one (.bool rv)) []:=by
 refine QaM Tryz.func133 (by kernel_rfl) (by kernel_rfl) (fun Γ=>?_)
 unfold QeW at h
 obtain rfl:=Option.some.inj h
 exact gr 4 [] [hP,hP,hP,oI ((geI t 0)=true),oR True ((geI t 0)=true)]
def QaX (Γ:Gam) (rv:List Qaa) (cf:Cf):Prop:=Go Tryz.prog Tryz.f107 [] Γ (one (lL 2 rv Qaa.enc)) [] cf
def QgR (Γ:Gam) (rv:List Qaa) (n:Qak) (i:Int) (r:ByteArray) (x0:Qan) (l:List Qaa) (l1:List Qaa) (twice:Bool) (k:Int):Prop:=QaX Γ rv ⟨[.c 4084,.l 4084,.b 0,.c 511],⟨192,[vI 1 i,vP 2 0 2,vO 5 1 2 l1 Qaa.enc,vS 6 (catS QaE r),vP 7 2 6,vB 8 twice,vI 9 k],[oX 2 25 (Qak.enc n),oS 2 164 l1 Qaa.enc,oX 6 77 (Qan.enc x0)]⟩⟩
def Qgw (Γ:Gam) (rv:List Qaa) (n:Qak) (i:Int) (r:ByteArray) (x0:Qan) (l:List Qaa) (l1:List Qaa) (twice1:Bool):Prop:=QaX Γ rv ⟨[.c 511],⟨192,[vO 5 0 2 l1 Qaa.enc,vS 6 (catS QaE r),vP 7 1 6,vB 8 twice1],[oS 2 164 l1 Qaa.enc,oX 6 77 (Qan.enc x0)]⟩⟩
def QgS (Γ:Gam) (rv:List Qaa) (r:ByteArray) (x0:Qan) (l:List Qaa) (r1:List Qaa) (l3:List Qaa) (k1:Int):Prop:=QaX Γ rv ⟨[.c 32756,.l 32756,.b 2,.c 4095],⟨192,[vO 5 0 2 l3 Qaa.enc,vS 6 (catS QaE r),vP 7 1 6,vL 11 2 r1 Qaa.enc,vI 12 k1],[oS 2 164 l3 Qaa.enc,oX 6 77 (Qan.enc x0)]⟩⟩
def Qgx (Γ:Gam) (rv:List Qaa) (r:ByteArray) (x0:Qan) (l:List Qaa) (r1:List Qaa) (l4:List Qaa):Prop:=QaX Γ rv ⟨[.c 4095],⟨192,[vO 5 0 2 l4 Qaa.enc,vS 6 (catS QaE r),vP 7 1 6],[oS 2 164 l4 Qaa.enc,oX 6 77 (Qan.enc x0)]⟩⟩
def QgT (Γ:Gam) (rv:List Qaa) (r:ByteArray) (x0:Qan) (l:List Qaa) (l6:List Qaa) (k2:Int):Prop:=QaX Γ rv ⟨[.c 131060,.l 131060,.b 4,.c 16383],⟨192,[vO 5 0 2 l6 Qaa.enc,vS 6 (catS QaE r),vP 7 1 6,vI 13 k2],[oS 2 164 l6 Qaa.enc,oX 6 77 (Qan.enc x0)]⟩⟩
def Qgy (Γ:Gam) (rv:List Qaa) (r:ByteArray) (x0:Qan) (l:List Qaa) (l7:List Qaa):Prop:=QaX Γ rv ⟨[.c 16383],⟨192,[vO 5 0 2 l7 Qaa.enc],[oS 2 164 l7 Qaa.enc]⟩⟩
theorem Qle (Γ:Gam) (rv:List Qaa) {n i r x0 l l1} {s:Bool×Int} {e:Bool} (h:loopF (fun s=>Qbm n i r x0 l l1 s.1 s.2) s=some e) (hD:Qgw Γ rv n i r x0 l l1 e):QgR Γ rv n i r x0 l l1 s.1 s.2:=by
 refine Qaz (C:=fun (s:Bool×Int)=>QgR Γ rv n i r x0 l l1 s.1 s.2) (D:=fun (e:Bool)=>Qgw Γ rv n i r x0 l l1 e) ?_ h hD
 clear h hD s e
 rintro ⟨twice,k⟩ z_ h hI hE
 replace h:Qbm n i r x0 l l1 twice k=_:=h
 unfold Qbm at h
 rcases Qai h with ⟨h7,h⟩|⟨h7,h⟩
 ·obtain ⟨x1,h8,h⟩:=Qae h
  exact gn 13 [1,2,5,6,7,8,9] [0,1,2] [bT h7,cE Qan.enc h8,rp 22 hP,rp 5 (oI (twice=false)),rp 4 (oI ((twice=false)∧(eqI x0.from_ x1.from_)=true)),oI (twice=false),oI ((twice=false)∧(eqI x0.from_ x1.from_)=true),oI (twice=false),rp 4 (oI ((twice=false)∧((eqI x0.from_ x1.from_)&&(eqI x0.to_ x1.to_))=true)),oI (twice=false),oI ((twice=false)∧((eqI x0.from_ x1.from_)&&(eqI x0.to_ x1.to_))=true),oR True (twice=false)] (hI _ (oJ h))
 ·exact gn 5 [5,6,7,8] [1,2] [bF h7] (hE _ (oJ h))
theorem Qlf (Γ:Gam) (rv:List Qaa) {r x0 l r1} {s:List Qaa×Int} {e:List Qaa} (h:loopF (fun s=>Qbn r x0 l r1 s.1 s.2) s=some e) (hD:Qgx Γ rv r x0 l r1 e):QgS Γ rv r x0 l r1 s.1 s.2:=by
 refine Qaz (C:=fun (s:List Qaa×Int)=>QgS Γ rv r x0 l r1 s.1 s.2) (D:=fun (e:List Qaa)=>Qgx Γ rv r x0 l r1 e) ?_ h hD
 clear h hD s e
 rintro ⟨l3,k1⟩ z_ h hI hE
 replace h:Qbn r x0 l r1 l3 k1=_:=h
 unfold Qbn at h
 rcases Qai h with ⟨h13,h⟩|⟨h13,h⟩
 ·obtain ⟨x2,h14,h⟩:=Qae h
  obtain ⟨h15,h⟩:=Qas h
  exact gn 11 [5,6,7,11,12] [3,1] [nL Qaa.enc r1,bT h13,cE Qaa.enc h14,oO (Eq.refl ([(Qaa.mk x2.err (catS QaE r))].map Qaa.enc).length),aO Qaa.enc h15] (hI _ (oJ h))
 ·exact gn 5 [5,6,7] [0,1] [nL Qaa.enc r1,bF h13] (hE _ (oJ h))
theorem Qlg (Γ:Gam) (rv:List Qaa) {r x0 l} {s:List Qaa×Int} {e:List Qaa} (h:loopF (fun s=>Qbo r x0 l s.1 s.2) s=some e) (hD:Qgy Γ rv r x0 l e):QgT Γ rv r x0 l s.1 s.2:=by
 refine Qaz (C:=fun (s:List Qaa×Int)=>QgT Γ rv r x0 l s.1 s.2) (D:=fun (e:List Qaa)=>Qgy Γ rv r x0 l e) ?_ h hD
 clear h hD s e
 rintro ⟨l6,k2⟩ z_ h hI hE
 replace h:Qbo r x0 l l6 k2=_:=h
 unfold Qbo at h
 rcases Qai h with ⟨h19,h⟩|⟨h19,h⟩
 ·obtain ⟨x3,h20,h⟩:=Qae h
  obtain ⟨r2,h21,h⟩:=Qae h
  rcases Qai h with ⟨h22,h⟩|⟨h22,h⟩
  ·obtain ⟨r3,h23,h⟩:=Qae h
   rcases Qai h with ⟨h24,h⟩|⟨h24,h⟩
   ·rcases Qai h with ⟨h25,h⟩|⟨h25,h⟩
    ·obtain ⟨x4,h26,h⟩:=Qae h
     rcases Qai h with ⟨h27,h⟩|⟨h27,h⟩
     ·obtain ⟨h28,h⟩:=Qas h
      exact gn 16 [5,6,7,13] [4,1] [nL Qaj.enc x0.slow,bT h19,cE Qaj.enc h20,hH (.draw 26 []),cC (QbV h21),rp 3 (nF h22),cC (QbV h23),rp 2 (nF h22),rp 3 (nF h24),rp 7 (bT h25),cE Qaj.enc h26,rp 3 (bT h25),nF h24,bT h25,nF h24,bT h27,oO (Eq.refl ([(Qaa.mk 2 (catS QaE r))].map Qaa.enc).length),aO Qaa.enc h28] (hI _ (oJ h))
     ·exact gn 16 [5,6,7,13] [0,1] [nL Qaj.enc x0.slow,bT h19,cE Qaj.enc h20,hH (.draw 26 []),cC (QbV h21),rp 3 (nF h22),cC (QbV h23),rp 2 (nF h22),rp 3 (nF h24),rp 7 (bT h25),cE Qaj.enc h26,rp 3 (bT h25),nF h24,bT h25,nF h24,bF h27] (hI _ (oJ h))
    ·exact gn 16 [5,6,7,13] [0,1] [nL Qaj.enc x0.slow,bT h19,cE Qaj.enc h20,hH (.draw 26 []),cC (QbV h21),rp 3 (nF h22),cC (QbV h23),rp 2 (nF h22),rp 3 (nF h24),rp 10 (bF h25),nF h24,bF h25,nF h24,fF] (hI _ (oJ h))
   ·obtain ⟨h29,h⟩:=Qas h
    exact gn 16 [5,6,7,13] [4,1] [nL Qaj.enc x0.slow,bT h19,cE Qaj.enc h20,hH (.draw 26 []),cC (QbV h21),rp 3 (nF h22),cC (QbV h23),rp 2 (nF h22),rp 3 (nT h24),rp 10 kF,rp 2 (nT h24),tT,oO (Eq.refl ([(Qaa.mk 2 (catS QaE r))].map Qaa.enc).length),aO Qaa.enc h29] (hI _ (oJ h))
  ·obtain ⟨h30,h⟩:=Qas h
   exact gn 16 [5,6,7,13] [4,1] [nL Qaj.enc x0.slow,bT h19,cE Qaj.enc h20,hH (.draw 26 []),cC (QbV h21),rp 5 (nT h22),tT,tT,tT,rp 10 kF,tT,tT,tT,oO (Eq.refl ([(Qaa.mk 2 (catS QaE r))].map Qaa.enc).length),aO Qaa.enc h30] (hI _ (oJ h))
 ·exact gn 5 [5] [0] [nL Qaj.enc x0.slow,bF h19] (hE _ (oJ h))
theorem Qgv (Γ:Gam) (rv:List Qaa) {r x0 l l5} (h:Qa6 r x0 l l5=some rv):QaX Γ rv ⟨[.c 8191],⟨192,[vO 5 0 2 l5 Qaa.enc,vS 6 (catS QaE r),vP 7 1 6],[oS 2 164 l5 Qaa.enc,oX 6 77 (Qan.enc x0)]⟩⟩:=by
 unfold Qa6 at h
 obtain ⟨e2,h31,h⟩:=Qae h
 refine gn 5 [5,6,7,13] [0,1] [] (Qlg Γ rv h31 ?_)
 obtain ⟨l7,rfl⟩:∃ x,x=e2:=⟨_,rfl⟩
 replace h:(some l7:Option (List Qaa))=some _:=h
 obtain rfl:=Option.some.inj h
 exact gr 2 [] [hW 4,hH (.frz 0),rp 3 (eL l7 Qaa.enc)]
theorem Qgu (Γ:Gam) (rv:List Qaa) {r x0 l l2} (h:Qbl r x0 l l2=some rv):QaX Γ rv ⟨[.c 1023],⟨192,[vO 5 0 2 l2 Qaa.enc,vS 6 (catS QaE r),vP 7 1 6],[oS 2 164 l2 Qaa.enc,oX 6 77 (Qan.enc x0)]⟩⟩:=by
 unfold Qbl at h
 obtain ⟨r1,h12,h⟩:=Qae h
 obtain ⟨e1,h16,h⟩:=Qae h
 refine gn 7 [5,6,7,11,12] [0,1] [cC (QgP h12)] (Qlf Γ rv h16 ?_)
 obtain ⟨l4,rfl⟩:∃ x,x=e1:=⟨_,rfl⟩
 replace h:(br (gtI (lenI x0.slow) 16) (chk (okN (l4++[(Qaa.mk 4 (catS QaE r))]).length 24) (Qa6 r x0 l (l4++[(Qaa.mk 4 (catS QaE r))]))) (Qa6 r x0 l l4):Option (List Qaa))=some _:=h
 rcases Qai h with ⟨h17,h⟩|⟨h17,h⟩
 ·obtain ⟨h18,h⟩:=Qas h
  exact gn 5 [5,6,7] [3,1] [nL Qaj.enc x0.slow,bT h17,oO (Eq.refl ([(Qaa.mk 4 (catS QaE r))].map Qaa.enc).length),aO Qaa.enc h18] (Qgv Γ rv h)
 ·exact gn 5 [5,6,7] [0,1] [nL Qaj.enc x0.slow,bF h17] (Qgv Γ rv h)
theorem Qgt (Γ:Gam) (rv:List Qaa) {n i r x0 l l1} (h:Qb9 n i r x0 l l1=some rv):QaX Γ rv ⟨[.c 127],⟨192,[vI 1 i,vP 2 0 2,vO 5 1 2 l1 Qaa.enc,vS 6 (catS QaE r),vP 7 2 6],[oX 2 25 (Qak.enc n),oS 2 164 l1 Qaa.enc,oX 6 77 (Qan.enc x0)]⟩⟩:=by
 unfold Qb9 at h
 obtain ⟨e0,h9,h⟩:=Qae h
 refine gn 7 [1,2,5,6,7,8,9] [0,1,2] [] (Qle Γ rv h9 ?_)
 obtain ⟨twice1,rfl⟩:∃ x,x=e0:=⟨_,rfl⟩
 replace h:(br twice1 (chk (okN (l1++[(Qaa.mk 6 (catS QaE r))]).length 24) (Qbl r x0 l (l1++[(Qaa.mk 6 (catS QaE r))]))) (Qbl r x0 l l1):Option (List Qaa))=some _:=h
 rcases Qai h with ⟨h10,h⟩|⟨h10,h⟩
 ·obtain ⟨h11,h⟩:=Qas h
  exact gn 5 [5,6,7] [3,1] [bT h10,oO (Eq.refl ([(Qaa.mk 6 (catS QaE r))].map Qaa.enc).length),aO Qaa.enc h11] (Qgu Γ rv h)
 ·exact gn 5 [5,6,7] [0,1] [bF h10] (Qgu Γ rv h)
theorem Qgs (Γ:Gam) (rv:List Qaa) {n i r x0 l} (h:Qb8 n i r x0 l=some rv):QaX Γ rv ⟨[.c 63],⟨192,[vI 1 i,vP 2 0 2,vO 5 1 2 l Qaa.enc,vS 6 (catS QaE r),vP 7 2 6],[oX 2 25 (Qak.enc n),oS 2 164 l Qaa.enc,oX 6 77 (Qan.enc x0)]⟩⟩:=by
 unfold Qb8 at h
 rcases Qai h with ⟨h5,h⟩|⟨h5,h⟩
 ·obtain ⟨h6,h⟩:=Qas h
  exact gn 5 [1,2,5,6,7] [0,4,2] [rp 18 hP,rp 2 (oI ((ltI x0.profile 0)=false)),oR True ((ltI x0.profile 0)=false),rp 2 (oI (((ltI x0.profile 0)||(gtI x0.profile 7))=false)),oR True (((ltI x0.profile 0)||(gtI x0.profile 7))=false),rp 2 (oI ((((ltI x0.profile 0)||(gtI x0.profile 7))||(ltI x0.miles 0))=false)),oR True ((((ltI x0.profile 0)||(gtI x0.profile 7))||(ltI x0.miles 0))=false),rp 4 (oI (((((ltI x0.profile 0)||(gtI x0.profile 7))||(ltI x0.miles 0))||(gtI x0.miles 10000))=false)),oR True (((((ltI x0.profile 0)||(gtI x0.profile 7))||(ltI x0.miles 0))||(gtI x0.miles 10000))=false),bT h5,oO (Eq.refl ([(Qaa.mk 2 (catS QaE r))].map Qaa.enc).length),aO Qaa.enc h6] (Qgt Γ rv h)
 ·exact gn 5 [1,2,5,6,7] [0,1,2] [rp 18 hP,rp 2 (oI ((ltI x0.profile 0)=false)),oR True ((ltI x0.profile 0)=false),rp 2 (oI (((ltI x0.profile 0)||(gtI x0.profile 7))=false)),oR True (((ltI x0.profile 0)||(gtI x0.profile 7))=false),rp 2 (oI ((((ltI x0.profile 0)||(gtI x0.profile 7))||(ltI x0.miles 0))=false)),oR True ((((ltI x0.profile 0)||(gtI x0.profile 7))||(ltI x0.miles 0))=false),rp 4 (oI (((((ltI x0.profile 0)||(gtI x0.profile 7))||(ltI x0.miles 0))||(gtI x0.miles 10000))=false)),oR True (((((ltI x0.profile 0)||(gtI x0.profile 7))||(ltI x0.miles 0))||(gtI x0.miles 10000))=false),bF h5] (Qgt Γ rv h)
theorem QmR {n i} {rv:List Qaa} (h:QdR n i=some rv):AFn Tryz.prog 107 [.agg (Qak.enc n),.one (lI i)] [] (one (lL 2 rv Qaa.enc)) []:=by
 refine QaM Tryz.func107 (by kernel_rfl) (by kernel_rfl) (fun Γ=>?_)
 unfold QdR at h
 obtain ⟨r,h0,h⟩:=Qae h
 obtain ⟨h1,h⟩:=Qas h
 obtain ⟨x0,h2,h⟩:=Qae h
 rcases Qai h with ⟨h3,h⟩|⟨h3,h⟩
 ·obtain ⟨h4,h⟩:=Qas h
  exact gn 13 [1,2,5,6,7] [0,3,1] [cC (Qbd h0),oO (h1),cE Qan.enc h2,rp 5 hP,rp 3 (oI ((ltI x0.from_ 0)=false)),nL e_str n.places,rp 11 hP,rp 2 (oI ((ltI x0.from_ 0)=false)),oR True ((ltI x0.from_ 0)=false),rp 2 (oI (((ltI x0.from_ 0)||(geI x0.from_ (lenI n.places)))=false)),oR True (((ltI x0.from_ 0)||(geI x0.from_ (lenI n.places)))=false),rp 3 (oI ((((ltI x0.from_ 0)||(geI x0.from_ (lenI n.places)))||(ltI x0.to_ 0))=false)),nL e_str n.places,hP,hP,rp 2 (oI ((((ltI x0.from_ 0)||(geI x0.from_ (lenI n.places)))||(ltI x0.to_ 0))=false)),oR True ((((ltI x0.from_ 0)||(geI x0.from_ (lenI n.places)))||(ltI x0.to_ 0))=false),bT h3,oO (Eq.refl ([(Qaa.mk 11 (catS QaE r))].map Qaa.enc).length),aN (l:=([(Qaa.mk 11 (catS QaE r))]:List Qaa)) Qaa.enc h4] (Qgs Γ rv h)
 ·exact gn 13 [1,2,5,6,7] [0,2,1] [cC (Qbd h0),oO (h1),cE Qan.enc h2,rp 5 hP,rp 3 (oI ((ltI x0.from_ 0)=false)),nL e_str n.places,rp 11 hP,rp 2 (oI ((ltI x0.from_ 0)=false)),oR True ((ltI x0.from_ 0)=false),rp 2 (oI (((ltI x0.from_ 0)||(geI x0.from_ (lenI n.places)))=false)),oR True (((ltI x0.from_ 0)||(geI x0.from_ (lenI n.places)))=false),rp 3 (oI ((((ltI x0.from_ 0)||(geI x0.from_ (lenI n.places)))||(ltI x0.to_ 0))=false)),nL e_str n.places,hP,hP,rp 2 (oI ((((ltI x0.from_ 0)||(geI x0.from_ (lenI n.places)))||(ltI x0.to_ 0))=false)),oR True ((((ltI x0.from_ 0)||(geI x0.from_ (lenI n.places)))||(ltI x0.to_ 0))=false),bF h3,hW 1,hH (.adopt 5 2 164)] (Qgs Γ rv h)
def QbF (Γ:Gam) (rv:List Qaa) (cf:Cf):Prop:=Go Tryz.prog Tryz.f106 [] Γ (one (lO 0 2 rv Qaa.enc)) [oS 2 164 rv Qaa.enc] cf
def Qex (Γ:Gam) (rv:List Qaa) (n:Qak) (l:List Qaa) (l1:List Qaa) (i:Int) (r:ByteArray) (twice:Bool) (k:Int):Prop:=QbF Γ rv ⟨[.c 250484,.l 250484,.b 2,.c 31311,.b 1,.c 979,.l 244,.b 0,.c 31],⟨64,[vP 1 0 2,vO 3 1 2 l1 Qaa.enc,vI 4 i,vS 5 (catS Qcv r),vB 6 twice,vI 7 k],[oX 2 25 (Qak.enc n),oS 2 164 l1 Qaa.enc]⟩⟩
def Qei (Γ:Gam) (rv:List Qaa) (n:Qak) (l:List Qaa) (l1:List Qaa) (i:Int) (r:ByteArray) (twice1:Bool):Prop:=QbF Γ rv ⟨[.c 31311,.b 1,.c 979,.l 244,.b 0,.c 31],⟨64,[vP 1 0 2,vO 3 1 2 l1 Qaa.enc,vI 4 i,vS 5 (catS Qcv r),vB 6 twice1],[oX 2 25 (Qak.enc n),oS 2 164 l1 Qaa.enc]⟩⟩
def Qew (Γ:Gam) (rv:List Qaa) (n:Qak) (l:List Qaa) (l1:List Qaa) (i:Int):Prop:=QbF Γ rv ⟨[.c 244,.l 244,.b 0,.c 31],⟨64,[vP 1 0 2,vO 3 1 2 l1 Qaa.enc,vI 4 i],[oX 2 25 (Qak.enc n),oS 2 164 l1 Qaa.enc]⟩⟩
def Qeh (Γ:Gam) (rv:List Qaa) (n:Qak) (l:List Qaa) (l2:List Qaa):Prop:=QbF Γ rv ⟨[.c 31],⟨64,[vO 3 0 2 l2 Qaa.enc],[oS 2 164 l2 Qaa.enc]⟩⟩
theorem QhC (Γ:Gam) (rv:List Qaa) {n l l1 i r} {s:Bool×Int} {e:Bool} (h:loopF (fun s=>QaQ n l l1 i r s.1 s.2) s=some e) (hD:Qei Γ rv n l l1 i r e):Qex Γ rv n l l1 i r s.1 s.2:=by
 refine Qaz (C:=fun (s:Bool×Int)=>Qex Γ rv n l l1 i r s.1 s.2) (D:=fun (e:Bool)=>Qei Γ rv n l l1 i r e) ?_ h hD
 clear h hD s e
 rintro ⟨twice,k⟩ z_ h hI hE
 replace h:QaQ n l l1 i r twice k=_:=h
 unfold QaQ at h
 rcases Qai h with ⟨h8,h⟩|⟨h8,h⟩
 ·rcases Qai h with ⟨h9,h⟩|⟨h9,h⟩
  ·exact gn 11 [1,3,4,5,6,7] [0,1] [bT h8,hH (.draw 14 []),rp 12 (bT h9)] (hI _ (oJ h))
  ·obtain ⟨x1,h10,h⟩:=Qae h
   obtain ⟨x2,h11,h⟩:=Qae h
   exact gn 11 [1,3,4,5,6,7] [0,1] [bT h8,hH (.draw 14 []),rp 4 (bF h9),cE e_str h10,rp 5 (bF h9),cE e_str h11,rp 3 (bF h9)] (hI _ (oJ h))
 ·exact gn 5 [1,3,4,5,6] [0,1] [bF h8] (hE _ (oJ h))
theorem QhB (Γ:Gam) (rv:List Qaa) {n l} {s:List Qaa×Int} {e:List Qaa} (h:loopF (fun s=>QaP n l s.1 s.2) s=some e) (hD:Qeh Γ rv n l e):Qew Γ rv n l s.1 s.2:=by
 refine Qaz (C:=fun (s:List Qaa×Int)=>Qew Γ rv n l s.1 s.2) (D:=fun (e:List Qaa)=>Qeh Γ rv n l e) ?_ h hD
 clear h hD s e
 rintro ⟨l1,i⟩ z_ h hI hE
 replace h:QaP n l l1 i=_:=h
 unfold QaP at h
 rcases Qai h with ⟨h2,h⟩|⟨h2,h⟩
 ·obtain ⟨r,h3,h⟩:=Qae h
  obtain ⟨h4,h⟩:=Qas h
  obtain ⟨x0,h5,h⟩:=Qae h
  obtain ⟨r1,h6,h⟩:=Qae h
  rcases Qai h with ⟨h7,h⟩|⟨h7,h⟩
  ·obtain ⟨e0,h12,h⟩:=Qae h
   refine gn 21 [1,3,4,5,6,7] [0,1] [nL e_str n.places,bT h2,cC (Qbd h3),oO (h4),cE e_str h5,cC (Qdp h6),nF h7] (QhC Γ rv h12 ?_)
   obtain ⟨twice1,rfl⟩:∃ x,x=e0:=⟨_,rfl⟩
   replace h:(br twice1 (chk (okN (l1++[(Qaa.mk 6 (catS Qcv r))]).length 24) (some (.inl ((l1++[(Qaa.mk 6 (catS Qcv r))]),(addK .i64 i 1))))) (some (.inl (l1,(addK .i64 i 1)))):Option ((List Qaa×Int)⊕(List Qaa)))=some _:=h
   rcases Qai h with ⟨h13,h⟩|⟨h13,h⟩
   ·obtain ⟨h14,h⟩:=Qas h
    exact gn 7 [1,3,4] [0,3] [bT h13,oO (Eq.refl ([(Qaa.mk 6 (catS Qcv r))].map Qaa.enc).length),aO Qaa.enc h14] (hI _ (oJ h))
   ·exact gn 7 [1,3,4] [0,1] [bF h13] (hI _ (oJ h))
  ·obtain ⟨h15,h⟩:=Qas h
   exact gn 18 [1,3,4] [0,3] [nL e_str n.places,bT h2,cC (Qbd h3),oO (h4),cE e_str h5,cC (Qdp h6),nT h7,oO (Eq.refl ([(Qaa.mk 5 (catS Qcv r))].map Qaa.enc).length),aO Qaa.enc h15] (hI _ (oJ h))
 ·exact gn 5 [3] [1] [nL e_str n.places,bF h2] (hE _ (oJ h))
theorem Qeg (Γ:Gam) (rv:List Qaa) {n l} (h:Qbx n l=some rv):QbF Γ rv ⟨[.c 15],⟨64,[vP 1 0 2,vO 3 1 2 l Qaa.enc],[oX 2 25 (Qak.enc n),oS 2 164 l Qaa.enc]⟩⟩:=by
 unfold Qbx at h
 obtain ⟨e1,h16,h⟩:=Qae h
 refine gn 5 [1,3,4] [0,1] [] (QhB Γ rv h16 ?_)
 obtain ⟨l2,rfl⟩:∃ x,x=e1:=⟨_,rfl⟩
 replace h:(some l2:Option (List Qaa))=some _:=h
 obtain rfl:=Option.some.inj h
 exact gr 2 [0] []
theorem Qe6 {n} {rv:List Qaa} (h:Qb5 n=some rv):AFn Tryz.prog 106 [.agg (Qak.enc n)] [] (one (lO 0 2 rv Qaa.enc)) [oS 2 164 rv Qaa.enc]:=by
 refine QaM Tryz.func106 (by kernel_rfl) (by kernel_rfl) (fun Γ=>?_)
 unfold Qb5 at h
 rcases Qai h with ⟨h0,h⟩|⟨h0,h⟩
 ·obtain ⟨h1,h⟩:=Qas h
  exact gn 9 [1,3] [0,2] [nL e_str n.places,bT h0,oO (Eq.refl ([(Qaa.mk 4 QiC)].map Qaa.enc).length),aN (l:=([(Qaa.mk 4 QiC)]:List Qaa)) Qaa.enc h1] (Qeg Γ rv h)
 ·exact gn 9 [1,3] [0,1] [nL e_str n.places,bF h0,hW 1,hH (.adopt 3 2 164)] (Qeg Γ rv h)
def QhA (Γ:Gam) (rv:List Qaa) (cf:Cf):Prop:=Go Tryz.prog Tryz.f66 [] Γ (one (lL 2 rv Qaa.enc)) [] cf
def QiU (Γ:Gam) (rv:List Qaa) (n:Qak) (l:List Qaa) (l1:List Qaa) (i:Int):Prop:=QhA Γ rv ⟨[.c 244,.l 244,.b 0,.c 31],⟨28,[vP 1 0 2,vO 3 1 2 l1 Qaa.enc,vI 4 i],[oX 2 25 (Qak.enc n),oS 2 164 l1 Qaa.enc]⟩⟩
def QhZ (Γ:Gam) (rv:List Qaa) (n:Qak) (l:List Qaa) (l2:List Qaa):Prop:=QhA Γ rv ⟨[.c 31],⟨28,[vO 3 0 2 l2 Qaa.enc],[oS 2 164 l2 Qaa.enc]⟩⟩
theorem QmQ (Γ:Gam) (rv:List Qaa) {n l} {s:List Qaa×Int} {e:List Qaa} (h:loopF (fun s=>Qb1 n l s.1 s.2) s=some e) (hD:QhZ Γ rv n l e):QiU Γ rv n l s.1 s.2:=by
 refine Qaz (C:=fun (s:List Qaa×Int)=>QiU Γ rv n l s.1 s.2) (D:=fun (e:List Qaa)=>QhZ Γ rv n l e) ?_ h hD
 clear h hD s e
 rintro ⟨l1,i⟩ z_ h hI hE
 replace h:Qb1 n l l1 i=_:=h
 unfold Qb1 at h
 rcases Qai h with ⟨h3,h⟩|⟨h3,h⟩
 ·obtain ⟨r1,h4,h⟩:=Qae h
  obtain ⟨h5,h⟩:=Qas h
  exact gn 11 [1,3,4] [0,2] [nL Qan.enc n.arcs,bT h3,cC (QmR h4),aO Qaa.enc h5] (hI _ (oJ h))
 ·exact gn 5 [3] [1] [nL Qan.enc n.arcs,bF h3] (hE _ (oJ h))
theorem QhY (Γ:Gam) (rv:List Qaa) {n l} (h:QdQ n l=some rv):QhA Γ rv ⟨[.c 15],⟨28,[vP 1 0 2,vO 3 1 2 l Qaa.enc],[oX 2 25 (Qak.enc n),oS 2 164 l Qaa.enc]⟩⟩:=by
 unfold QdQ at h
 obtain ⟨e0,h6,h⟩:=Qae h
 refine gn 5 [1,3,4] [0,1] [] (QmQ Γ rv h6 ?_)
 obtain ⟨l2,rfl⟩:∃ x,x=e0:=⟨_,rfl⟩
 replace h:(some l2:Option (List Qaa))=some _:=h
 obtain rfl:=Option.some.inj h
 exact gr 2 [] [hW 4,hH (.frz 0),rp 3 (eL l2 Qaa.enc)]
theorem Qou {n} {rv:List Qaa} (h:Qfh n=some rv):AFn Tryz.prog 66 [.agg (Qak.enc n)] [] (one (lL 2 rv Qaa.enc)) []:=by
 refine QaM Tryz.func66 (by kernel_rfl) (by kernel_rfl) (fun Γ=>?_)
 unfold Qfh at h
 obtain ⟨r,h0,h⟩:=Qae h
 rcases Qai h with ⟨h1,h⟩|⟨h1,h⟩
 ·obtain ⟨h2,h⟩:=Qas h
  exact gn 9 [1,3] [0,3] [cC (Qe6 h0),nL Qan.enc n.arcs,bT h1,oO (Eq.refl ([(Qaa.mk 4 Qnq)].map Qaa.enc).length),aO Qaa.enc h2] (QhY Γ rv h)
 ·exact gn 9 [1,3] [0,1] [cC (Qe6 h0),nL Qan.enc n.arcs,bF h1] (QhY Γ rv h)
theorem Qal {n lo hi} {rv:Bool} (h:QaD n lo hi=some rv):AFn Tryz.prog 108 [.one (lI n),.one (lI lo),.one (lI hi)] [] (one (.bool rv)) []:=by
 refine QaM Tryz.func108 (by kernel_rfl) (by kernel_rfl) (fun Γ=>?_)
 unfold QaD at h
 obtain rfl:=Option.some.inj h
 exact gr 4 [] [rp 4 hP,rp 2 (oI ((geI n lo)=true)),oR True ((geI n lo)=true)]
theorem Qek {l} {rv:Int} (h:Qd4 l=some rv):AFn Tryz.prog 69 [.one (lL 14 l Qah.enc)] [] (one (lI rv)) []:=by
 refine QaM Tryz.func69 (by kernel_rfl) (by kernel_rfl) (fun Γ=>?_)
 unfold Qd4 at h
 rcases Qai h with ⟨h0,h⟩|⟨h0,h⟩
 ·obtain rfl:=Option.some.inj h
  exact gr 8 [] [nL Qah.enc l,bT h0]
 ·obtain ⟨x0,h1,h⟩:=Qae h
  obtain rfl:=Option.some.inj h
  exact gr 9 [] [nL Qah.enc l,bF h0,cE Qah.enc h1,nL e_i64 x0.cap]
def Qli (Γ:Gam) (rv:Bool) (cf:Cf):Prop:=Go Tryz.prog Tryz.f134 [] Γ (one (.bool rv)) [] cf
def Qi0 (Γ:Gam) (rv:Bool) (l:List Qah) (at_:Int) (name:ByteArray) (i:Int):Prop:=Qli Γ rv ⟨[.c 52,.l 52,.b 0,.c 7],⟨20,[vL 0 14 l Qah.enc,vI 1 at_,vS 2 name,vI 7 i],[]⟩⟩
def Qh3 (Γ:Gam) (rv:Bool) (l:List Qah) (at_:Int) (name:ByteArray):Prop:=Qli Γ rv ⟨[.c 7],⟨20,[],[]⟩⟩
theorem QmU (Γ:Gam) (rv:Bool) {l at_ name} {s:Int} {e:(Unit)⊕(Bool)} (h:loopF (fun s=>Qby l at_ name s) s=some e) (hD:sel e (fun e=>Qh3 Γ rv l at_ name) (fun e=>e=rv)):Qi0 Γ rv l at_ name s:=by
 refine Qaz (C:=fun (s:Int)=>Qi0 Γ rv l at_ name s) (D:=fun (e:(Unit)⊕(Bool))=>sel e (fun e=>Qh3 Γ rv l at_ name) (fun e=>e=rv)) ?_ h hD
 clear h hD s e
 intro i z_ h hI hE
 replace h:Qby l at_ name i=_:=h
 unfold Qby at h
 rcases Qai h with ⟨h0,h⟩|⟨h0,h⟩
 ·obtain ⟨x0,h1,h⟩:=Qae h
  rcases Qai h with ⟨h2,h⟩|⟨h2,h⟩
  ·obtain rfl:=(hE _ (oJ h):_=rv)
   exact gr 12 [] [bT h0,cE Qah.enc h1,bT h2]
  ·exact gn 14 [0,1,2,7] [] [bT h0,cE Qah.enc h1,bF h2] (hI _ (oJ h))
 ·exact gn 5 [] [] [bF h0] (hE _ (oJ h))
theorem Qky {l at_ name} {rv:Bool} (h:Qfj l at_ name=some rv):AFn Tryz.prog 134 [.one (lL 14 l Qah.enc),.one (lI at_),.one (.str name)] [] (one (.bool rv)) []:=by
 refine QaM Tryz.func134 (by kernel_rfl) (by kernel_rfl) (fun Γ=>?_)
 unfold Qfj at h
 obtain ⟨e0,h3,h⟩:=Qae h
 refine gn 7 [0,1,2,7] [] [] (QmU Γ rv h3 ?_)
 rcases e0 with e0|e0
 ·replace h:(some false:Option Bool)=some _:=h
  obtain rfl:=Option.some.inj h
  exact gr 2 [] []
 ·obtain ⟨r,rfl⟩:∃ x,x=e0:=⟨_,rfl⟩
  replace h:(some r:Option Bool)=some _:=h
  exact Option.some.inj h
def QiZ (Γ:Gam) (rv:Bool) (cf:Cf):Prop:=Go Tryz.prog Tryz.f135 [] Γ (one (.bool rv)) [] cf
def QgU (Γ:Gam) (rv:Bool) (l:List Int) (i:Int):Prop:=QiZ Γ rv ⟨[.c 116,.l 116,.b 0,.c 15],⟨28,[vL 0 1 l e_i64,vI 5 i],[]⟩⟩
def Qgz (Γ:Gam) (rv:Bool) (l:List Int):Prop:=QiZ Γ rv ⟨[.c 15],⟨28,[],[]⟩⟩
theorem Qlh (Γ:Gam) (rv:Bool) {l} {s:Int} {e:(Unit)⊕(Bool)} (h:loopF (fun s=>Qa7 l s) s=some e) (hD:sel e (fun e=>Qgz Γ rv l) (fun e=>e=rv)):QgU Γ rv l s:=by
 refine Qaz (C:=fun (s:Int)=>QgU Γ rv l s) (D:=fun (e:(Unit)⊕(Bool))=>sel e (fun e=>Qgz Γ rv l) (fun e=>e=rv)) ?_ h hD
 clear h hD s e
 intro i z_ h hI hE
 replace h:Qa7 l i=_:=h
 unfold Qa7 at h
 rcases Qai h with ⟨h2,h⟩|⟨h2,h⟩
 ·obtain ⟨x0,h3,h⟩:=Qae h
  obtain ⟨r1,h4,h⟩:=Qae h
  rcases Qai h with ⟨h5,h⟩|⟨h5,h⟩
  ·exact gn 14 [0,5] [] [nL e_i64 l,bT h2,cE e_i64 h3,cC (Qal h4),nF h5] (hI _ (oJ h))
  ·obtain rfl:=(hE _ (oJ h):_=rv)
   exact gr 12 [] [nL e_i64 l,bT h2,cE e_i64 h3,cC (Qal h4),nT h5]
 ·exact gn 5 [] [] [nL e_i64 l,bF h2] (hE _ (oJ h))
theorem QdT {l dims} {rv:Bool} (h:QcT l dims=some rv):AFn Tryz.prog 135 [.one (lL 1 l e_i64),.one (lI dims)] [] (one (.bool rv)) []:=by
 refine QaM Tryz.func135 (by kernel_rfl) (by kernel_rfl) (fun Γ=>?_)
 unfold QcT at h
 obtain ⟨r,h0,h⟩:=Qae h
 rcases Qai h with ⟨h1,h⟩|⟨h1,h⟩
 ·obtain rfl:=Option.some.inj h
  exact gr 8 [] [nL e_i64 l,cC (Qal h0),hP,hP,oI ((!r)=false),nL e_i64 l,hP,hP,hP,rp 2 (oI ((!r)=false)),oR True ((!r)=false),bT h1]
 ·obtain ⟨e0,h6,h⟩:=Qae h
  refine gn 12 [0,5] [] [nL e_i64 l,cC (Qal h0),hP,hP,oI ((!r)=false),nL e_i64 l,hP,hP,hP,rp 2 (oI ((!r)=false)),oR True ((!r)=false),bF h1] (Qlh Γ rv h6 ?_)
  rcases e0 with e0|e0
  ·replace h:(some true:Option Bool)=some _:=h
   obtain rfl:=Option.some.inj h
   exact gr 2 [] []
  ·obtain ⟨r2,rfl⟩:∃ x,x=e0:=⟨_,rfl⟩
   replace h:(some r2:Option Bool)=some _:=h
   exact Option.some.inj h
def Qa0 (Γ:Gam) (rv:List Int) (cf:Cf):Prop:=Go Tryz.prog Tryz.f109 [] Γ (one (lL 1 rv e_i64)) [] cf
theorem Qib (Γ:Gam) (rv:List Int) {x0 l8} (h:Qc1 x0 l8=some rv):Qa0 Γ rv ⟨[.c 4095],⟨125,[vP 7 0 14,vO 8 1 1 l8 e_i64],[oX 14 79 (Qah.enc x0),oS 1 59 l8 e_i64]⟩⟩:=by
 unfold Qc1 at h
 obtain ⟨r11,h30,h⟩:=Qae h
 rcases Qai h with ⟨h31,h⟩|⟨h31,h⟩
 ·obtain ⟨r12,h32,h⟩:=Qae h
  rcases Qai h with ⟨h33,h⟩|⟨h33,h⟩
  ·obtain ⟨r13,h34,h⟩:=Qae h
   rcases Qai h with ⟨h35,h⟩|⟨h35,h⟩
   ·obtain ⟨r14,h36,h⟩:=Qae h
    rcases Qai h with ⟨h37,h⟩|⟨h37,h⟩
    ·obtain rfl:=Option.some.inj h
     exact gr 7 [] [cC (Qal h30),rp 3 (nF h31),cC (Qal h32),rp 2 (nF h31),rp 3 (nF h33),cC (Qal h34),rp 2 (nF h33),rp 3 (nF h35),cC (Qal h36),rp 2 (nF h35),nF h37,hW 5,hH (.frz 1),rp 3 (eL l8 e_i64)]
    ·obtain ⟨h38,h⟩:=Qas h
     obtain rfl:=Option.some.inj h
     exact gr 7 [] [cC (Qal h30),rp 3 (nF h31),cC (Qal h32),rp 2 (nF h31),rp 3 (nF h33),cC (Qal h34),rp 2 (nF h33),rp 3 (nF h35),cC (Qal h36),rp 2 (nF h35),nT h37,oO (Eq.refl ([2].map e_i64).length),aO e_i64 h38,hW 5,hH (.frz 3),rp 4 (oO (Eq.refl ((l8++[2]).map e_i64).length))]
   ·obtain ⟨h39,h⟩:=Qas h
    obtain rfl:=Option.some.inj h
    exact gr 7 [] [cC (Qal h30),rp 3 (nF h31),cC (Qal h32),rp 2 (nF h31),rp 3 (nF h33),cC (Qal h34),rp 2 (nF h33),rp 5 (nT h35),tT,oO (Eq.refl ([2].map e_i64).length),aO e_i64 h39,hW 5,hH (.frz 3),rp 4 (oO (Eq.refl ((l8++[2]).map e_i64).length))]
  ·obtain ⟨h40,h⟩:=Qas h
   obtain rfl:=Option.some.inj h
   exact gr 7 [] [cC (Qal h30),rp 3 (nF h31),cC (Qal h32),rp 2 (nF h31),rp 5 (nT h33),rp 6 tT,oO (Eq.refl ([2].map e_i64).length),aO e_i64 h40,hW 5,hH (.frz 3),rp 4 (oO (Eq.refl ((l8++[2]).map e_i64).length))]
 ·obtain ⟨h41,h⟩:=Qas h
  obtain rfl:=Option.some.inj h
  exact gr 7 [] [cC (Qal h30),rp 5 (nT h31),rp 11 tT,oO (Eq.refl ([2].map e_i64).length),aO e_i64 h41,hW 5,hH (.frz 3),rp 4 (oO (Eq.refl ((l8++[2]).map e_i64).length))]
theorem Qia (Γ:Gam) (rv:List Int) {x0 l7} (h:Qc0 x0 l7=some rv):Qa0 Γ rv ⟨[.c 2047],⟨125,[vP 7 0 14,vO 8 1 1 l7 e_i64],[oX 14 79 (Qah.enc x0),oS 1 59 l7 e_i64]⟩⟩:=by
 unfold Qc0 at h
 obtain ⟨r9,h25,h⟩:=Qae h
 rcases Qai h with ⟨h26,h⟩|⟨h26,h⟩
 ·obtain ⟨r10,h27,h⟩:=Qae h
  rcases Qai h with ⟨h28,h⟩|⟨h28,h⟩
  ·exact gn 5 [7,8] [0,1] [cC (Qal h25),rp 3 (nF h26),cC (Qal h27),rp 2 (nF h26),nF h28] (Qib Γ rv h)
  ·obtain ⟨h29,h⟩:=Qas h
   exact gn 5 [7,8] [0,3] [cC (Qal h25),rp 3 (nF h26),cC (Qal h27),rp 2 (nF h26),nT h28,oO (Eq.refl ([16].map e_i64).length),aO e_i64 h29] (Qib Γ rv h)
 ·obtain ⟨h42,h⟩:=Qas h
  obtain ⟨r15,h43,h⟩:=Qae h
  rcases Qai h with ⟨h44,h⟩|⟨h44,h⟩
  ·obtain ⟨r16,h45,h⟩:=Qae h
   rcases Qai h with ⟨h46,h⟩|⟨h46,h⟩
   ·obtain ⟨r17,h47,h⟩:=Qae h
    rcases Qai h with ⟨h48,h⟩|⟨h48,h⟩
    ·obtain ⟨r18,h49,h⟩:=Qae h
     rcases Qai h with ⟨h50,h⟩|⟨h50,h⟩
     ·obtain rfl:=Option.some.inj h
      exact gr 12 [] [cC (Qal h25),rp 5 (nT h26),tT,oO (Eq.refl ([16].map e_i64).length),aO e_i64 h42,cC (Qal h43),rp 3 (nF h44),cC (Qal h45),rp 2 (nF h44),rp 3 (nF h46),cC (Qal h47),rp 2 (nF h46),rp 3 (nF h48),cC (Qal h49),rp 2 (nF h48),nF h50,hW 5,hH (.frz 3),rp 4 (oO (Eq.refl ((l7++[16]).map e_i64).length))]
     ·obtain ⟨h51,h⟩:=Qas h
      obtain rfl:=Option.some.inj h
      exact gr 12 [] [cC (Qal h25),rp 5 (nT h26),tT,oO (Eq.refl ([16].map e_i64).length),aO e_i64 h42,cC (Qal h43),rp 3 (nF h44),cC (Qal h45),rp 2 (nF h44),rp 3 (nF h46),cC (Qal h47),rp 2 (nF h46),rp 3 (nF h48),cC (Qal h49),rp 2 (nF h48),nT h50,oO (Eq.refl ([2].map e_i64).length),aO e_i64 h51,hW 5,hH (.frz 5),rp 4 (oO (Eq.refl (((l7++[16])++[2]).map e_i64).length))]
    ·obtain ⟨h52,h⟩:=Qas h
     obtain rfl:=Option.some.inj h
     exact gr 12 [] [cC (Qal h25),rp 5 (nT h26),tT,oO (Eq.refl ([16].map e_i64).length),aO e_i64 h42,cC (Qal h43),rp 3 (nF h44),cC (Qal h45),rp 2 (nF h44),rp 3 (nF h46),cC (Qal h47),rp 2 (nF h46),rp 5 (nT h48),tT,oO (Eq.refl ([2].map e_i64).length),aO e_i64 h52,hW 5,hH (.frz 5),rp 4 (oO (Eq.refl (((l7++[16])++[2]).map e_i64).length))]
   ·obtain ⟨h53,h⟩:=Qas h
    obtain rfl:=Option.some.inj h
    exact gr 12 [] [cC (Qal h25),rp 5 (nT h26),tT,oO (Eq.refl ([16].map e_i64).length),aO e_i64 h42,cC (Qal h43),rp 3 (nF h44),cC (Qal h45),rp 2 (nF h44),rp 5 (nT h46),rp 6 tT,oO (Eq.refl ([2].map e_i64).length),aO e_i64 h53,hW 5,hH (.frz 5),rp 4 (oO (Eq.refl (((l7++[16])++[2]).map e_i64).length))]
  ·obtain ⟨h54,h⟩:=Qas h
   obtain rfl:=Option.some.inj h
   exact gr 12 [] [cC (Qal h25),rp 5 (nT h26),tT,oO (Eq.refl ([16].map e_i64).length),aO e_i64 h42,cC (Qal h43),rp 5 (nT h44),rp 11 tT,oO (Eq.refl ([2].map e_i64).length),aO e_i64 h54,hW 5,hH (.frz 5),rp 4 (oO (Eq.refl (((l7++[16])++[2]).map e_i64).length))]
theorem Qh9 (Γ:Gam) (rv:List Int) {x0 l6} (h:QcZ x0 l6=some rv):Qa0 Γ rv ⟨[.c 1023],⟨125,[vP 7 0 14,vO 8 1 1 l6 e_i64],[oX 14 79 (Qah.enc x0),oS 1 59 l6 e_i64]⟩⟩:=by
 unfold QcZ at h
 obtain ⟨r8,h22,h⟩:=Qae h
 rcases Qai h with ⟨h23,h⟩|⟨h23,h⟩
 ·obtain ⟨h24,h⟩:=Qas h
  exact gn 5 [7,8] [0,3] [cC (Qal h22),rp 4 hP,rp 2 (oI ((!r8)=false)),oR True ((!r8)=false),bT h23,oO (Eq.refl ([15].map e_i64).length),aO e_i64 h24] (Qia Γ rv h)
 ·exact gn 5 [7,8] [0,1] [cC (Qal h22),rp 4 hP,rp 2 (oI ((!r8)=false)),oR True ((!r8)=false),bF h23] (Qia Γ rv h)
theorem Qh8 (Γ:Gam) (rv:List Int) {x0 l5} (h:QcY x0 l5=some rv):Qa0 Γ rv ⟨[.c 511],⟨125,[vP 7 0 14,vO 8 1 1 l5 e_i64],[oX 14 79 (Qah.enc x0),oS 1 59 l5 e_i64]⟩⟩:=by
 unfold QcY at h
 obtain ⟨r7,h19,h⟩:=Qae h
 rcases Qai h with ⟨h20,h⟩|⟨h20,h⟩
 ·exact gn 5 [7,8] [0,1] [cC (Qal h19),nF h20] (Qh9 Γ rv h)
 ·obtain ⟨h21,h⟩:=Qas h
  exact gn 5 [7,8] [0,3] [cC (Qal h19),nT h20,oO (Eq.refl ([18].map e_i64).length),aO e_i64 h21] (Qh9 Γ rv h)
theorem Qh7 (Γ:Gam) (rv:List Int) {l x0 l4} (h:QcX l x0 l4=some rv):Qa0 Γ rv ⟨[.c 255],⟨125,[vL 1 14 l Qah.enc,vP 7 0 14,vO 8 1 1 l4 e_i64],[oX 14 79 (Qah.enc x0),oS 1 59 l4 e_i64]⟩⟩:=by
 unfold QcX at h
 obtain ⟨r5,h15,h⟩:=Qae h
 obtain ⟨r6,h16,h⟩:=Qae h
 rcases Qai h with ⟨h17,h⟩|⟨h17,h⟩
 ·exact gn 5 [7,8] [0,1] [hH (.draw 6 []),cC (Qek h15),cC (QdT h16),nF h17] (Qh8 Γ rv h)
 ·obtain ⟨h18,h⟩:=Qas h
  exact gn 5 [7,8] [0,3] [hH (.draw 6 []),cC (Qek h15),cC (QdT h16),nT h17,oO (Eq.refl ([17].map e_i64).length),aO e_i64 h18] (Qh8 Γ rv h)
theorem Qhj (Γ:Gam) (rv:List Int) {x0 l12} (h:QeI x0 l12=some rv):Qa0 Γ rv ⟨[.c 4095],⟨125,[vP 7 0 14,vO 8 1 1 l12 e_i64],[oX 14 79 (Qah.enc x0),oS 1 59 l12 e_i64]⟩⟩:=by
 unfold QeI at h
 obtain ⟨r25,h71,h⟩:=Qae h
 rcases Qai h with ⟨h72,h⟩|⟨h72,h⟩
 ·obtain ⟨r26,h73,h⟩:=Qae h
  rcases Qai h with ⟨h74,h⟩|⟨h74,h⟩
  ·obtain ⟨r27,h75,h⟩:=Qae h
   rcases Qai h with ⟨h76,h⟩|⟨h76,h⟩
   ·obtain ⟨r28,h77,h⟩:=Qae h
    rcases Qai h with ⟨h78,h⟩|⟨h78,h⟩
    ·obtain rfl:=Option.some.inj h
     exact gr 7 [] [cC (Qal h71),rp 3 (nF h72),cC (Qal h73),rp 2 (nF h72),rp 3 (nF h74),cC (Qal h75),rp 2 (nF h74),rp 3 (nF h76),cC (Qal h77),rp 2 (nF h76),nF h78,hW 5,hH (.frz 1),rp 3 (eL l12 e_i64)]
    ·obtain ⟨h79,h⟩:=Qas h
     obtain rfl:=Option.some.inj h
     exact gr 7 [] [cC (Qal h71),rp 3 (nF h72),cC (Qal h73),rp 2 (nF h72),rp 3 (nF h74),cC (Qal h75),rp 2 (nF h74),rp 3 (nF h76),cC (Qal h77),rp 2 (nF h76),nT h78,oO (Eq.refl ([2].map e_i64).length),aO e_i64 h79,hW 5,hH (.frz 3),rp 4 (oO (Eq.refl ((l12++[2]).map e_i64).length))]
   ·obtain ⟨h80,h⟩:=Qas h
    obtain rfl:=Option.some.inj h
    exact gr 7 [] [cC (Qal h71),rp 3 (nF h72),cC (Qal h73),rp 2 (nF h72),rp 3 (nF h74),cC (Qal h75),rp 2 (nF h74),rp 5 (nT h76),tT,oO (Eq.refl ([2].map e_i64).length),aO e_i64 h80,hW 5,hH (.frz 3),rp 4 (oO (Eq.refl ((l12++[2]).map e_i64).length))]
  ·obtain ⟨h81,h⟩:=Qas h
   obtain rfl:=Option.some.inj h
   exact gr 7 [] [cC (Qal h71),rp 3 (nF h72),cC (Qal h73),rp 2 (nF h72),rp 5 (nT h74),rp 6 tT,oO (Eq.refl ([2].map e_i64).length),aO e_i64 h81,hW 5,hH (.frz 3),rp 4 (oO (Eq.refl ((l12++[2]).map e_i64).length))]
 ·obtain ⟨h82,h⟩:=Qas h
  obtain rfl:=Option.some.inj h
  exact gr 7 [] [cC (Qal h71),rp 5 (nT h72),rp 11 tT,oO (Eq.refl ([2].map e_i64).length),aO e_i64 h82,hW 5,hH (.frz 3),rp 4 (oO (Eq.refl ((l12++[2]).map e_i64).length))]
theorem Qhi (Γ:Gam) (rv:List Int) {x0 l11} (h:QeH x0 l11=some rv):Qa0 Γ rv ⟨[.c 2047],⟨125,[vP 7 0 14,vO 8 1 1 l11 e_i64],[oX 14 79 (Qah.enc x0),oS 1 59 l11 e_i64]⟩⟩:=by
 unfold QeH at h
 obtain ⟨r23,h66,h⟩:=Qae h
 rcases Qai h with ⟨h67,h⟩|⟨h67,h⟩
 ·obtain ⟨r24,h68,h⟩:=Qae h
  rcases Qai h with ⟨h69,h⟩|⟨h69,h⟩
  ·exact gn 5 [7,8] [0,1] [cC (Qal h66),rp 3 (nF h67),cC (Qal h68),rp 2 (nF h67),nF h69] (Qhj Γ rv h)
  ·obtain ⟨h70,h⟩:=Qas h
   exact gn 5 [7,8] [0,3] [cC (Qal h66),rp 3 (nF h67),cC (Qal h68),rp 2 (nF h67),nT h69,oO (Eq.refl ([16].map e_i64).length),aO e_i64 h70] (Qhj Γ rv h)
 ·obtain ⟨h83,h⟩:=Qas h
  obtain ⟨r29,h84,h⟩:=Qae h
  rcases Qai h with ⟨h85,h⟩|⟨h85,h⟩
  ·obtain ⟨r30,h86,h⟩:=Qae h
   rcases Qai h with ⟨h87,h⟩|⟨h87,h⟩
   ·obtain ⟨r31,h88,h⟩:=Qae h
    rcases Qai h with ⟨h89,h⟩|⟨h89,h⟩
    ·obtain ⟨r32,h90,h⟩:=Qae h
     rcases Qai h with ⟨h91,h⟩|⟨h91,h⟩
     ·obtain rfl:=Option.some.inj h
      exact gr 12 [] [cC (Qal h66),rp 5 (nT h67),tT,oO (Eq.refl ([16].map e_i64).length),aO e_i64 h83,cC (Qal h84),rp 3 (nF h85),cC (Qal h86),rp 2 (nF h85),rp 3 (nF h87),cC (Qal h88),rp 2 (nF h87),rp 3 (nF h89),cC (Qal h90),rp 2 (nF h89),nF h91,hW 5,hH (.frz 3),rp 4 (oO (Eq.refl ((l11++[16]).map e_i64).length))]
     ·obtain ⟨h92,h⟩:=Qas h
      obtain rfl:=Option.some.inj h
      exact gr 12 [] [cC (Qal h66),rp 5 (nT h67),tT,oO (Eq.refl ([16].map e_i64).length),aO e_i64 h83,cC (Qal h84),rp 3 (nF h85),cC (Qal h86),rp 2 (nF h85),rp 3 (nF h87),cC (Qal h88),rp 2 (nF h87),rp 3 (nF h89),cC (Qal h90),rp 2 (nF h89),nT h91,oO (Eq.refl ([2].map e_i64).length),aO e_i64 h92,hW 5,hH (.frz 5),rp 4 (oO (Eq.refl (((l11++[16])++[2]).map e_i64).length))]
    ·obtain ⟨h93,h⟩:=Qas h
     obtain rfl:=Option.some.inj h
     exact gr 12 [] [cC (Qal h66),rp 5 (nT h67),tT,oO (Eq.refl ([16].map e_i64).length),aO e_i64 h83,cC (Qal h84),rp 3 (nF h85),cC (Qal h86),rp 2 (nF h85),rp 3 (nF h87),cC (Qal h88),rp 2 (nF h87),rp 5 (nT h89),tT,oO (Eq.refl ([2].map e_i64).length),aO e_i64 h93,hW 5,hH (.frz 5),rp 4 (oO (Eq.refl (((l11++[16])++[2]).map e_i64).length))]
   ·obtain ⟨h94,h⟩:=Qas h
    obtain rfl:=Option.some.inj h
    exact gr 12 [] [cC (Qal h66),rp 5 (nT h67),tT,oO (Eq.refl ([16].map e_i64).length),aO e_i64 h83,cC (Qal h84),rp 3 (nF h85),cC (Qal h86),rp 2 (nF h85),rp 5 (nT h87),rp 6 tT,oO (Eq.refl ([2].map e_i64).length),aO e_i64 h94,hW 5,hH (.frz 5),rp 4 (oO (Eq.refl (((l11++[16])++[2]).map e_i64).length))]
  ·obtain ⟨h95,h⟩:=Qas h
   obtain rfl:=Option.some.inj h
   exact gr 12 [] [cC (Qal h66),rp 5 (nT h67),tT,oO (Eq.refl ([16].map e_i64).length),aO e_i64 h83,cC (Qal h84),rp 5 (nT h85),rp 11 tT,oO (Eq.refl ([2].map e_i64).length),aO e_i64 h95,hW 5,hH (.frz 5),rp 4 (oO (Eq.refl (((l11++[16])++[2]).map e_i64).length))]
theorem Qhh (Γ:Gam) (rv:List Int) {x0 l10} (h:QeG x0 l10=some rv):Qa0 Γ rv ⟨[.c 1023],⟨125,[vP 7 0 14,vO 8 1 1 l10 e_i64],[oX 14 79 (Qah.enc x0),oS 1 59 l10 e_i64]⟩⟩:=by
 unfold QeG at h
 obtain ⟨r22,h63,h⟩:=Qae h
 rcases Qai h with ⟨h64,h⟩|⟨h64,h⟩
 ·obtain ⟨h65,h⟩:=Qas h
  exact gn 5 [7,8] [0,3] [cC (Qal h63),rp 4 hP,rp 2 (oI ((!r22)=false)),oR True ((!r22)=false),bT h64,oO (Eq.refl ([15].map e_i64).length),aO e_i64 h65] (Qhi Γ rv h)
 ·exact gn 5 [7,8] [0,1] [cC (Qal h63),rp 4 hP,rp 2 (oI ((!r22)=false)),oR True ((!r22)=false),bF h64] (Qhi Γ rv h)
theorem Qic (Γ:Gam) (rv:List Int) {x0 l9} (h:Qe8 x0 l9=some rv):Qa0 Γ rv ⟨[.c 511],⟨125,[vP 7 0 14,vO 8 1 1 l9 e_i64],[oX 14 79 (Qah.enc x0),oS 1 59 l9 e_i64]⟩⟩:=by
 unfold Qe8 at h
 obtain ⟨r21,h60,h⟩:=Qae h
 rcases Qai h with ⟨h61,h⟩|⟨h61,h⟩
 ·exact gn 5 [7,8] [0,1] [cC (Qal h60),nF h61] (Qhh Γ rv h)
 ·obtain ⟨h62,h⟩:=Qas h
  exact gn 5 [7,8] [0,3] [cC (Qal h60),nT h61,oO (Eq.refl ([18].map e_i64).length),aO e_i64 h62] (Qhh Γ rv h)
theorem Qh6 (Γ:Gam) (rv:List Int) {n l x0 l3} (h:QcW n l x0 l3=some rv):Qa0 Γ rv ⟨[.c 127],⟨125,[vL 1 14 l Qah.enc,vP 3 0 2,vP 7 1 14,vO 8 2 1 l3 e_i64],[oX 2 25 (Qak.enc n),oX 14 79 (Qah.enc x0),oS 1 59 l3 e_i64]⟩⟩:=by
 unfold QcW at h
 obtain ⟨r3,h10,h⟩:=Qae h
 rcases Qai h with ⟨h11,h⟩|⟨h11,h⟩
 ·obtain ⟨r4,h12,h⟩:=Qae h
  rcases Qai h with ⟨h13,h⟩|⟨h13,h⟩
  ·exact gn 5 [1,7,8] [1,2] [nL e_str n.places,cC (Qal h10),rp 5 (nF h11),nL e_str n.places,rp 2 (nF h11),cC (Qal h12),rp 2 (nF h11),nF h13] (Qh7 Γ rv h)
  ·obtain ⟨h14,h⟩:=Qas h
   exact gn 5 [1,7,8] [1,4] [nL e_str n.places,cC (Qal h10),rp 5 (nF h11),nL e_str n.places,rp 2 (nF h11),cC (Qal h12),rp 2 (nF h11),nT h13,oO (Eq.refl ([11].map e_i64).length),aO e_i64 h14] (Qh7 Γ rv h)
 ·obtain ⟨h55,h⟩:=Qas h
  obtain ⟨r19,h56,h⟩:=Qae h
  obtain ⟨r20,h57,h⟩:=Qae h
  rcases Qai h with ⟨h58,h⟩|⟨h58,h⟩
  ·exact gn 10 [7,8] [1,4] [nL e_str n.places,cC (Qal h10),rp 9 (nT h11),tT,oO (Eq.refl ([11].map e_i64).length),aO e_i64 h55,hH (.draw 6 []),cC (Qek h56),cC (QdT h57),nF h58] (Qic Γ rv h)
  ·obtain ⟨h59,h⟩:=Qas h
   exact gn 10 [7,8] [1,6] [nL e_str n.places,cC (Qal h10),rp 9 (nT h11),tT,oO (Eq.refl ([11].map e_i64).length),aO e_i64 h55,hH (.draw 6 []),cC (Qek h56),cC (QdT h57),nT h58,oO (Eq.refl ([17].map e_i64).length),aO e_i64 h59] (Qic Γ rv h)
theorem Qh5 (Γ:Gam) (rv:List Int) {n l x0 l2} (h:QcV n l x0 l2=some rv):Qa0 Γ rv ⟨[.c 63],⟨125,[vL 1 14 l Qah.enc,vP 3 0 2,vP 7 1 14,vO 8 2 1 l2 e_i64],[oX 2 25 (Qak.enc n),oX 14 79 (Qah.enc x0),oS 1 59 l2 e_i64]⟩⟩:=by
 unfold QcV at h
 obtain ⟨r2,h7,h⟩:=Qae h
 rcases Qai h with ⟨h8,h⟩|⟨h8,h⟩
 ·exact gn 5 [1,3,7,8] [0,1,2] [cC (Qal h7),nF h8] (Qh6 Γ rv h)
 ·obtain ⟨h9,h⟩:=Qas h
  exact gn 5 [1,3,7,8] [0,1,4] [cC (Qal h7),nT h8,oO (Eq.refl ([22].map e_i64).length),aO e_i64 h9] (Qh6 Γ rv h)
theorem Qh4 (Γ:Gam) (rv:List Int) {n l at_ x0 l1} (h:QcU n l at_ x0 l1=some rv):Qa0 Γ rv ⟨[.c 31],⟨125,[vL 1 14 l Qah.enc,vI 2 at_,vP 3 0 2,vP 7 1 14,vO 8 2 1 l1 e_i64],[oX 2 25 (Qak.enc n),oX 14 79 (Qah.enc x0),oS 1 59 l1 e_i64]⟩⟩:=by
 unfold QcU at h
 obtain ⟨r1,h4,h⟩:=Qae h
 rcases Qai h with ⟨h5,h⟩|⟨h5,h⟩
 ·obtain ⟨h6,h⟩:=Qas h
  exact gn 5 [1,3,7,8] [0,1,4] [cC (Qky h4),bT h5,oO (Eq.refl ([6].map e_i64).length),aO e_i64 h6] (Qh5 Γ rv h)
 ·exact gn 5 [1,3,7,8] [0,1,2] [cC (Qky h4),bF h5] (Qh5 Γ rv h)
theorem Qow {n l at_} {rv:List Int} (h:Qfk n l at_=some rv):AFn Tryz.prog 109 [.agg (Qak.enc n),.one (lL 14 l Qah.enc),.one (lI at_)] [] (one (lL 1 rv e_i64)) []:=by
 refine QaM Tryz.func109 (by kernel_rfl) (by kernel_rfl) (fun Γ=>?_)
 unfold Qfk at h
 obtain ⟨x0,h0,h⟩:=Qae h
 obtain ⟨r,h1,h⟩:=Qae h
 rcases Qai h with ⟨h2,h⟩|⟨h2,h⟩
 ·exact gn 11 [1,2,3,7,8] [0,1,2] [cE Qah.enc h0,cC (Qdp h1),nF h2,hW 1,hH (.adopt 8 1 59)] (Qh4 Γ rv h)
 ·obtain ⟨h3,h⟩:=Qas h
  exact gn 11 [1,2,3,7,8] [0,1,3] [cE Qah.enc h0,cC (Qdp h1),nT h2,oO (Eq.refl ([5].map e_i64).length),aN (l:=([5]:List Int)) e_i64 h3] (Qh4 Γ rv h)
def Qej (Γ:Gam) (rv:List Qaa) (cf:Cf):Prop:=Go Tryz.prog Tryz.f67 [] Γ (one (lL 2 rv Qaa.enc)) [] cf
def QiY (Γ:Gam) (rv:List Qaa) (n:Qak) (l:List Qah) (i:Int) (r1:List Int) (l3:List Qaa) (k:Int):Prop:=Qej Γ rv ⟨[.c 31308,.l 31308,.b 2,.b 1,.c 979,.l 244,.b 0,.c 31],⟨44,[vL 1 14 l Qah.enc,vP 2 0 2,vO 5 1 2 l3 Qaa.enc,vI 6 i,vL 7 1 r1 e_i64,vI 8 k],[oX 2 25 (Qak.enc n),oS 2 164 l3 Qaa.enc]⟩⟩
def Qh2 (Γ:Gam) (rv:List Qaa) (n:Qak) (l:List Qah) (i:Int) (r1:List Int) (l4:List Qaa):Prop:=Qej Γ rv ⟨[.b 1,.c 979,.l 244,.b 0,.c 31],⟨44,[vL 1 14 l Qah.enc,vP 2 0 2,vO 5 1 2 l4 Qaa.enc,vI 6 i],[oX 2 25 (Qak.enc n),oS 2 164 l4 Qaa.enc]⟩⟩
def QiX (Γ:Gam) (rv:List Qaa) (n:Qak) (l:List Qah) (l2:List Qaa) (i:Int):Prop:=Qej Γ rv ⟨[.c 244,.l 244,.b 0,.c 31],⟨44,[vL 1 14 l Qah.enc,vP 2 0 2,vO 5 1 2 l2 Qaa.enc,vI 6 i],[oX 2 25 (Qak.enc n),oS 2 164 l2 Qaa.enc]⟩⟩
def Qh1 (Γ:Gam) (rv:List Qaa) (n:Qak) (l:List Qah) (l5:List Qaa):Prop:=Qej Γ rv ⟨[.c 31],⟨44,[vO 5 0 2 l5 Qaa.enc],[oS 2 164 l5 Qaa.enc]⟩⟩
theorem QmT (Γ:Gam) (rv:List Qaa) {n l i r1} {s:List Qaa×Int} {e:List Qaa} (h:loopF (fun s=>Qe7 n l i r1 s.1 s.2) s=some e) (hD:Qh2 Γ rv n l i r1 e):QiY Γ rv n l i r1 s.1 s.2:=by
 refine Qaz (C:=fun (s:List Qaa×Int)=>QiY Γ rv n l i r1 s.1 s.2) (D:=fun (e:List Qaa)=>Qh2 Γ rv n l i r1 e) ?_ h hD
 clear h hD s e
 rintro ⟨l3,k⟩ z_ h hI hE
 replace h:Qe7 n l i r1 l3 k=_:=h
 unfold Qe7 at h
 rcases Qai h with ⟨h5,h⟩|⟨h5,h⟩
 ·obtain ⟨x0,h6,h⟩:=Qae h
  obtain ⟨r2,h7,h⟩:=Qae h
  obtain ⟨h8,h⟩:=Qas h
  exact gn 11 [1,2,5,6,7,8] [0,3] [nL e_i64 r1,bT h5,hH (.draw 9 []),cE e_i64 h6,cC (Qbd h7),oO (Eq.refl ([(Qaa.mk x0 r2)].map Qaa.enc).length),aO Qaa.enc h8] (hI _ (oJ h))
 ·exact gn 5 [1,2,5,6] [0,1] [nL e_i64 r1,bF h5] (hE _ (oJ h))
theorem QmS (Γ:Gam) (rv:List Qaa) {n l} {s:List Qaa×Int} {e:List Qaa} (h:loopF (fun s=>Qb2 n l s.1 s.2) s=some e) (hD:Qh1 Γ rv n l e):QiX Γ rv n l s.1 s.2:=by
 refine Qaz (C:=fun (s:List Qaa×Int)=>QiX Γ rv n l s.1 s.2) (D:=fun (e:List Qaa)=>Qh1 Γ rv n l e) ?_ h hD
 clear h hD s e
 rintro ⟨l2,i⟩ z_ h hI hE
 replace h:Qb2 n l l2 i=_:=h
 unfold Qb2 at h
 rcases Qai h with ⟨h3,h⟩|⟨h3,h⟩
 ·obtain ⟨r1,h4,h⟩:=Qae h
  obtain ⟨e0,h9,h⟩:=Qae h
  refine gn 13 [1,2,5,6,7,8] [0,1] [nL Qah.enc l,bT h3,cC (Qow h4)] (QmT Γ rv h9 ?_)
  obtain ⟨l4,rfl⟩:∃ x,x=e0:=⟨_,rfl⟩
  replace h:(some (.inl (l4,(addK .i64 i 1))):Option ((List Qaa×Int)⊕(List Qaa)))=some _:=h
  exact gn 3 [1,2,5,6] [0,1] [] (hI _ (oJ h))
 ·exact gn 5 [5] [1] [nL Qah.enc l,bF h3] (hE _ (oJ h))
theorem Qh0 (Γ:Gam) (rv:List Qaa) {n l l1} (h:QdS n l l1=some rv):Qej Γ rv ⟨[.c 15],⟨44,[vL 1 14 l Qah.enc,vP 2 0 2,vO 5 1 2 l1 Qaa.enc],[oX 2 25 (Qak.enc n),oS 2 164 l1 Qaa.enc]⟩⟩:=by
 unfold QdS at h
 obtain ⟨e1,h10,h⟩:=Qae h
 refine gn 5 [1,2,5,6] [0,1] [] (QmS Γ rv h10 ?_)
 obtain ⟨l5,rfl⟩:∃ x,x=e1:=⟨_,rfl⟩
 replace h:(some l5:Option (List Qaa))=some _:=h
 obtain rfl:=Option.some.inj h
 exact gr 2 [] [hW 4,hH (.frz 0),rp 3 (eL l5 Qaa.enc)]
theorem Qov {n l} {rv:List Qaa} (h:Qfi n l=some rv):AFn Tryz.prog 67 [.agg (Qak.enc n),.one (lL 14 l Qah.enc)] [] (one (lL 2 rv Qaa.enc)) []:=by
 refine QaM Tryz.func67 (by kernel_rfl) (by kernel_rfl) (fun Γ=>?_)
 unfold Qfi at h
 obtain ⟨r,h0,h⟩:=Qae h
 rcases Qai h with ⟨h1,h⟩|⟨h1,h⟩
 ·exact gn 9 [1,2,5] [0,1] [nL Qah.enc l,cC (Qal h0),nF h1,hW 1,hH (.adopt 5 2 164)] (Qh0 Γ rv h)
 ·obtain ⟨h2,h⟩:=Qas h
  exact gn 9 [1,2,5] [0,2] [nL Qah.enc l,cC (Qal h0),nT h1,oO (Eq.refl ([(Qaa.mk 4 ByteArray.empty)].map Qaa.enc).length),aN (l:=([(Qaa.mk 4 ByteArray.empty)]:List Qaa)) Qaa.enc h2] (Qh0 Γ rv h)
theorem Qau {n low high} {rv:Bool} (h:QaT n low high=some rv):AFn Tryz.prog 76 [.one (lI n),.one (lI low),.one (lI high)] [] (one (.bool rv)) []:=by
 refine QaM Tryz.func76 (by kernel_rfl) (by kernel_rfl) (fun Γ=>?_)
 unfold QaT at h
 obtain rfl:=Option.some.inj h
 exact gr 4 [] [rp 4 hP,rp 2 (oI ((geI n low)=true)),oR True ((geI n low)=true)]
def Qlb (Γ:Gam) (rv:Bool) (cf:Cf):Prop:=Go Tryz.prog Tryz.f136 [] Γ (one (.bool rv)) [] cf
def QiS (Γ:Gam) (rv:Bool) (a:List Int) (i:Int):Prop:=Qlb Γ rv ⟨[.c 116,.l 116,.b 0,.c 15],⟨28,[vL 0 1 a e_i64,vI 5 i],[]⟩⟩
def QhT (Γ:Gam) (rv:Bool) (a:List Int):Prop:=Qlb Γ rv ⟨[.c 15],⟨28,[],[]⟩⟩
theorem QmN (Γ:Gam) (rv:Bool) {a} {s:Int} {e:(Unit)⊕(Bool)} (h:loopF (fun s=>Qbv a s) s=some e) (hD:sel e (fun e=>QhT Γ rv a) (fun e=>e=rv)):QiS Γ rv a s:=by
 refine Qaz (C:=fun (s:Int)=>QiS Γ rv a s) (D:=fun (e:(Unit)⊕(Bool))=>sel e (fun e=>QhT Γ rv a) (fun e=>e=rv)) ?_ h hD
 clear h hD s e
 intro i z_ h hI hE
 replace h:Qbv a i=_:=h
 unfold Qbv at h
 rcases Qai h with ⟨h1,h⟩|⟨h1,h⟩
 ·obtain ⟨x0,h2,h⟩:=Qae h
  rcases Qai h with ⟨h3,h⟩|⟨h3,h⟩
  ·obtain rfl:=(hE _ (oJ h):_=rv)
   exact gr 12 [] [nL e_i64 a,bT h1,cE e_i64 h2,rp 6 (bT h3),tT]
  ·rcases Qai h with ⟨h4,h⟩|⟨h4,h⟩
   ·obtain rfl:=(hE _ (oJ h):_=rv)
    exact gr 12 [] [nL e_i64 a,bT h1,cE e_i64 h2,rp 3 (bF h3),cE e_i64 h2,rp 3 (bF h3),bT h4]
   ·exact gn 14 [0,5] [] [nL e_i64 a,bT h1,cE e_i64 h2,rp 3 (bF h3),cE e_i64 h2,rp 3 (bF h3),bF h4] (hI _ (oJ h))
 ·exact gn 5 [] [] [nL e_i64 a,bF h1] (hE _ (oJ h))
theorem Qkr {a dims} {rv:Bool} (h:Qdy a dims=some rv):AFn Tryz.prog 136 [.one (lL 1 a e_i64),.one (lI dims)] [] (one (.bool rv)) []:=by
 refine QaM Tryz.func136 (by kernel_rfl) (by kernel_rfl) (fun Γ=>?_)
 unfold Qdy at h
 rcases Qai h with ⟨h0,h⟩|⟨h0,h⟩
 ·obtain rfl:=Option.some.inj h
  exact gr 8 [] [nL e_i64 a,bT h0]
 ·obtain ⟨e0,h5,h⟩:=Qae h
  refine gn 12 [0,5] [] [nL e_i64 a,bF h0] (QmN Γ rv h5 ?_)
  rcases e0 with e0|e0
  ·replace h:(some true:Option Bool)=some _:=h
   obtain rfl:=Option.some.inj h
   exact gr 2 [] []
  ·obtain ⟨r,rfl⟩:∃ x,x=e0:=⟨_,rfl⟩
   replace h:(some r:Option Bool)=some _:=h
   exact Option.some.inj h
theorem QaV {s0} {rv:Int} (h:QcN s0=some rv):AFn Tryz.prog 137 [.agg (Qap.enc s0)] [] (one (lI rv)) []:=by
 refine QaM Tryz.func137 (by kernel_rfl) (by kernel_rfl) (fun Γ=>?_)
 unfold QcN at h
 rcases Qai h with ⟨h0,h⟩|⟨h0,h⟩
 ·obtain rfl:=Option.some.inj h
  exact gr 8 [] [rp 12 hP,rp 2 (oI ((eqI s0.place (-1))=true)),oR True ((eqI s0.place (-1))=true),rp 2 (oI (((eqI s0.place (-1))&&(eqI s0.open_ 0))=true)),oR True (((eqI s0.place (-1))&&(eqI s0.open_ 0))=true),rp 2 (oI ((((eqI s0.place (-1))&&(eqI s0.open_ 0))&&(eqI s0.close 0))=true)),oR True ((((eqI s0.place (-1))&&(eqI s0.open_ 0))&&(eqI s0.close 0))=true),bT h0]
 ·rcases Qai h with ⟨h1,h⟩|⟨h1,h⟩
  ·obtain rfl:=Option.some.inj h
   exact gr 13 [] [rp 12 hP,rp 2 (oI ((eqI s0.place (-1))=true)),oR True ((eqI s0.place (-1))=true),rp 2 (oI (((eqI s0.place (-1))&&(eqI s0.open_ 0))=true)),oR True (((eqI s0.place (-1))&&(eqI s0.open_ 0))=true),rp 2 (oI ((((eqI s0.place (-1))&&(eqI s0.open_ 0))&&(eqI s0.close 0))=true)),oR True ((((eqI s0.place (-1))&&(eqI s0.open_ 0))&&(eqI s0.close 0))=true),bF h0,rp 22 hP,rp 2 (oI ((ltI s0.place 0)=false)),oR True ((ltI s0.place 0)=false),rp 4 (oI (((ltI s0.place 0)||(ltI s0.open_ 0))=false)),oR True (((ltI s0.place 0)||(ltI s0.open_ 0))=false),rp 2 (oI ((((ltI s0.place 0)||(ltI s0.open_ 0))||(gtI s0.open_ s0.close))=false)),oR True ((((ltI s0.place 0)||(ltI s0.open_ 0))||(gtI s0.open_ s0.close))=false),rp 2 (oI (((((ltI s0.place 0)||(ltI s0.open_ 0))||(gtI s0.open_ s0.close))||(gtI s0.close 4096))=false)),oR True (((((ltI s0.place 0)||(ltI s0.open_ 0))||(gtI s0.open_ s0.close))||(gtI s0.close 4096))=false),rp 2 (oI ((((((ltI s0.place 0)||(ltI s0.open_ 0))||(gtI s0.open_ s0.close))||(gtI s0.close 4096))||(ltI s0.service 0))=false)),oR True ((((((ltI s0.place 0)||(ltI s0.open_ 0))||(gtI s0.open_ s0.close))||(gtI s0.close 4096))||(ltI s0.service 0))=false),bT h1]
  ·obtain rfl:=Option.some.inj h
   exact gr 14 [] [rp 12 hP,rp 2 (oI ((eqI s0.place (-1))=true)),oR True ((eqI s0.place (-1))=true),rp 2 (oI (((eqI s0.place (-1))&&(eqI s0.open_ 0))=true)),oR True (((eqI s0.place (-1))&&(eqI s0.open_ 0))=true),rp 2 (oI ((((eqI s0.place (-1))&&(eqI s0.open_ 0))&&(eqI s0.close 0))=true)),oR True ((((eqI s0.place (-1))&&(eqI s0.open_ 0))&&(eqI s0.close 0))=true),bF h0,rp 22 hP,rp 2 (oI ((ltI s0.place 0)=false)),oR True ((ltI s0.place 0)=false),rp 4 (oI (((ltI s0.place 0)||(ltI s0.open_ 0))=false)),oR True (((ltI s0.place 0)||(ltI s0.open_ 0))=false),rp 2 (oI ((((ltI s0.place 0)||(ltI s0.open_ 0))||(gtI s0.open_ s0.close))=false)),oR True ((((ltI s0.place 0)||(ltI s0.open_ 0))||(gtI s0.open_ s0.close))=false),rp 2 (oI (((((ltI s0.place 0)||(ltI s0.open_ 0))||(gtI s0.open_ s0.close))||(gtI s0.close 4096))=false)),oR True (((((ltI s0.place 0)||(ltI s0.open_ 0))||(gtI s0.open_ s0.close))||(gtI s0.close 4096))=false),rp 2 (oI ((((((ltI s0.place 0)||(ltI s0.open_ 0))||(gtI s0.open_ s0.close))||(gtI s0.close 4096))||(ltI s0.service 0))=false)),oR True ((((((ltI s0.place 0)||(ltI s0.open_ 0))||(gtI s0.open_ s0.close))||(gtI s0.close 4096))||(ltI s0.service 0))=false),bF h1]
def QaU (Γ:Gam) (rv:List Int) (cf:Cf):Prop:=Go Tryz.prog Tryz.f111 [] Γ (one (lL 1 rv e_i64)) [] cf
def Qi5 (Γ:Gam) (rv:List Int) (places:Int) (dims:Int) (types:Int) (l:List Qag) (at_:Int) (x0:Qag) (l1:List Int) (i:Int):Prop:=QaU Γ rv ⟨[.c 500,.l 500,.b 0,.c 63],⟨156,[vI 0 places,vI 1 dims,vI 2 types,vL 3 16 l Qag.enc,vI 4 at_,vO 11 0 1 l1 e_i64,vP 12 1 16,vI 13 i],[oS 1 59 l1 e_i64,oX 16 83 (Qag.enc x0)]⟩⟩
def Qip (Γ:Gam) (rv:List Int) (places:Int) (dims:Int) (types:Int) (l:List Qag) (at_:Int) (x0:Qag) (l1:List Int) (l2:List Int):Prop:=QaU Γ rv ⟨[.c 63],⟨156,[vI 0 places,vI 1 dims,vI 2 types,vO 11 0 1 l2 e_i64,vP 12 1 16],[oS 1 59 l2 e_i64,oX 16 83 (Qag.enc x0)]⟩⟩
theorem QmX (Γ:Gam) (rv:List Int) {places dims types l at_ x0 l1} {s:Int} {e:List Int} (h:loopF (fun s=>Qbz places dims types l at_ x0 l1 s) s=some e) (hD:Qip Γ rv places dims types l at_ x0 l1 e):Qi5 Γ rv places dims types l at_ x0 l1 s:=by
 refine Qaz (C:=fun (s:Int)=>Qi5 Γ rv places dims types l at_ x0 l1 s) (D:=fun (e:List Int)=>Qip Γ rv places dims types l at_ x0 l1 e) ?_ h hD
 clear h hD s e
 intro i z_ h hI hE
 replace h:Qbz places dims types l at_ x0 l1 i=_:=h
 unfold Qbz at h
 rcases Qai h with ⟨h4,h⟩|⟨h4,h⟩
 ·obtain ⟨x1,h5,h⟩:=Qae h
  rcases Qai h with ⟨h6,h⟩|⟨h6,h⟩
  ·obtain ⟨h7,h⟩:=Qas h
   exact gn 13 [0,1,2,11,12] [3,1] [bT h4,hH (.draw 8 []),cE Qag.enc h5,bT h6,oO (Eq.refl ([6].map e_i64).length),aO e_i64 h7] (hE _ (oJ h))
  ·exact gn 14 [0,1,2,3,4,11,12,13] [0,1] [bT h4,hH (.draw 8 []),cE Qag.enc h5,bF h6] (hI _ (oJ h))
 ·exact gn 5 [0,1,2,11,12] [0,1] [bF h4] (hE _ (oJ h))
theorem Qik (Γ:Gam) (rv:List Int) {types x0 l6} (h:Qc5 types x0 l6=some rv):QaU Γ rv ⟨[.c 2047],⟨156,[vI 2 types,vO 11 0 1 l6 e_i64,vP 12 1 16],[oS 1 59 l6 e_i64,oX 16 83 (Qag.enc x0)]⟩⟩:=by
 unfold Qc5 at h
 obtain ⟨r6,h25,h⟩:=Qae h
 rcases Qai h with ⟨h26,h⟩|⟨h26,h⟩
 ·obtain ⟨r7,h27,h⟩:=Qae h
  rcases Qai h with ⟨h28,h⟩|⟨h28,h⟩
  ·obtain ⟨h29,h⟩:=Qas h
   obtain rfl:=Option.some.inj h
   exact gr 9 [] [rp 5 hP,rp 3 (oI ((neI x0.pick.place (-1))=true)),oR True ((neI x0.pick.place (-1))=true),cC (Qau h25),rp 3 (nF h26),cC (Qau h27),rp 2 (nF h26),rp 26 hP,rp 4 (oI ((!r7)=false)),oI (((!r7)=false)∧(gtI x0.split 1)=true),oR True ((!r7)=false),rp 2 (oI (((!r7)||((gtI x0.split 1)&&((neI x0.pick.place (-1))&&(neI x0.drop.place (-1)))))=false)),oR True (((!r7)||((gtI x0.split 1)&&((neI x0.pick.place (-1))&&(neI x0.drop.place (-1)))))=false),rp 3 (oI ((((!r7)||((gtI x0.split 1)&&((neI x0.pick.place (-1))&&(neI x0.drop.place (-1)))))||(ltI x0.last_ (-1)))=false)),oR True ((((!r7)||((gtI x0.split 1)&&((neI x0.pick.place (-1))&&(neI x0.drop.place (-1)))))||(ltI x0.last_ (-1)))=false),rp 2 (oI (((((!r7)||((gtI x0.split 1)&&((neI x0.pick.place (-1))&&(neI x0.drop.place (-1)))))||(ltI x0.last_ (-1)))||(geI x0.last_ types))=false)),oR True (((((!r7)||((gtI x0.split 1)&&((neI x0.pick.place (-1))&&(neI x0.drop.place (-1)))))||(ltI x0.last_ (-1)))||(geI x0.last_ types))=false),rp 3 (oI ((((((!r7)||((gtI x0.split 1)&&((neI x0.pick.place (-1))&&(neI x0.drop.place (-1)))))||(ltI x0.last_ (-1)))||(geI x0.last_ types))||(ltI x0.now (-1)))=false)),oR True ((((((!r7)||((gtI x0.split 1)&&((neI x0.pick.place (-1))&&(neI x0.drop.place (-1)))))||(ltI x0.last_ (-1)))||(geI x0.last_ types))||(ltI x0.now (-1)))=false),bT h28,oO (Eq.refl ([2].map e_i64).length),aO e_i64 h29,hW 5,hH (.frz 3),rp 4 (oO (Eq.refl ((l6++[2]).map e_i64).length))]
  ·obtain rfl:=Option.some.inj h
   exact gr 9 [] [rp 5 hP,rp 3 (oI ((neI x0.pick.place (-1))=true)),oR True ((neI x0.pick.place (-1))=true),cC (Qau h25),rp 3 (nF h26),cC (Qau h27),rp 2 (nF h26),rp 26 hP,rp 4 (oI ((!r7)=false)),oI (((!r7)=false)∧(gtI x0.split 1)=true),oR True ((!r7)=false),rp 2 (oI (((!r7)||((gtI x0.split 1)&&((neI x0.pick.place (-1))&&(neI x0.drop.place (-1)))))=false)),oR True (((!r7)||((gtI x0.split 1)&&((neI x0.pick.place (-1))&&(neI x0.drop.place (-1)))))=false),rp 3 (oI ((((!r7)||((gtI x0.split 1)&&((neI x0.pick.place (-1))&&(neI x0.drop.place (-1)))))||(ltI x0.last_ (-1)))=false)),oR True ((((!r7)||((gtI x0.split 1)&&((neI x0.pick.place (-1))&&(neI x0.drop.place (-1)))))||(ltI x0.last_ (-1)))=false),rp 2 (oI (((((!r7)||((gtI x0.split 1)&&((neI x0.pick.place (-1))&&(neI x0.drop.place (-1)))))||(ltI x0.last_ (-1)))||(geI x0.last_ types))=false)),oR True (((((!r7)||((gtI x0.split 1)&&((neI x0.pick.place (-1))&&(neI x0.drop.place (-1)))))||(ltI x0.last_ (-1)))||(geI x0.last_ types))=false),rp 3 (oI ((((((!r7)||((gtI x0.split 1)&&((neI x0.pick.place (-1))&&(neI x0.drop.place (-1)))))||(ltI x0.last_ (-1)))||(geI x0.last_ types))||(ltI x0.now (-1)))=false)),oR True ((((((!r7)||((gtI x0.split 1)&&((neI x0.pick.place (-1))&&(neI x0.drop.place (-1)))))||(ltI x0.last_ (-1)))||(geI x0.last_ types))||(ltI x0.now (-1)))=false),bF h28,hW 5,hH (.frz 0),rp 3 (eL l6 e_i64)]
 ·obtain ⟨h30,h⟩:=Qas h
  obtain rfl:=Option.some.inj h
  exact gr 9 [] [rp 5 hP,rp 3 (oI ((neI x0.pick.place (-1))=true)),oR True ((neI x0.pick.place (-1))=true),cC (Qau h25),rp 5 (nT h26),rp 4 tT,kF,rp 21 tT,oO (Eq.refl ([2].map e_i64).length),aO e_i64 h30,hW 5,hH (.frz 3),rp 4 (oO (Eq.refl ((l6++[2]).map e_i64).length))]
theorem Qim (Γ:Gam) (rv:List Int) {types x0 l8} (h:Qfa types x0 l8=some rv):QaU Γ rv ⟨[.c 2047],⟨156,[vI 2 types,vO 11 0 1 l8 e_i64,vP 12 1 16],[oS 1 59 l8 e_i64,oX 16 83 (Qag.enc x0)]⟩⟩:=by
 unfold Qfa at h
 obtain ⟨r10,h37,h⟩:=Qae h
 rcases Qai h with ⟨h38,h⟩|⟨h38,h⟩
 ·obtain ⟨r11,h39,h⟩:=Qae h
  rcases Qai h with ⟨h40,h⟩|⟨h40,h⟩
  ·obtain ⟨h41,h⟩:=Qas h
   obtain rfl:=Option.some.inj h
   exact gr 9 [] [rp 5 hP,rp 3 (oI ((neI x0.pick.place (-1))=true)),oR True ((neI x0.pick.place (-1))=true),cC (Qau h37),rp 3 (nF h38),cC (Qau h39),rp 2 (nF h38),rp 26 hP,rp 4 (oI ((!r11)=false)),oI (((!r11)=false)∧(gtI x0.split 1)=true),oR True ((!r11)=false),rp 2 (oI (((!r11)||((gtI x0.split 1)&&((neI x0.pick.place (-1))&&(neI x0.drop.place (-1)))))=false)),oR True (((!r11)||((gtI x0.split 1)&&((neI x0.pick.place (-1))&&(neI x0.drop.place (-1)))))=false),rp 3 (oI ((((!r11)||((gtI x0.split 1)&&((neI x0.pick.place (-1))&&(neI x0.drop.place (-1)))))||(ltI x0.last_ (-1)))=false)),oR True ((((!r11)||((gtI x0.split 1)&&((neI x0.pick.place (-1))&&(neI x0.drop.place (-1)))))||(ltI x0.last_ (-1)))=false),rp 2 (oI (((((!r11)||((gtI x0.split 1)&&((neI x0.pick.place (-1))&&(neI x0.drop.place (-1)))))||(ltI x0.last_ (-1)))||(geI x0.last_ types))=false)),oR True (((((!r11)||((gtI x0.split 1)&&((neI x0.pick.place (-1))&&(neI x0.drop.place (-1)))))||(ltI x0.last_ (-1)))||(geI x0.last_ types))=false),rp 3 (oI ((((((!r11)||((gtI x0.split 1)&&((neI x0.pick.place (-1))&&(neI x0.drop.place (-1)))))||(ltI x0.last_ (-1)))||(geI x0.last_ types))||(ltI x0.now (-1)))=false)),oR True ((((((!r11)||((gtI x0.split 1)&&((neI x0.pick.place (-1))&&(neI x0.drop.place (-1)))))||(ltI x0.last_ (-1)))||(geI x0.last_ types))||(ltI x0.now (-1)))=false),bT h40,oO (Eq.refl ([2].map e_i64).length),aO e_i64 h41,hW 5,hH (.frz 3),rp 4 (oO (Eq.refl ((l8++[2]).map e_i64).length))]
  ·obtain rfl:=Option.some.inj h
   exact gr 9 [] [rp 5 hP,rp 3 (oI ((neI x0.pick.place (-1))=true)),oR True ((neI x0.pick.place (-1))=true),cC (Qau h37),rp 3 (nF h38),cC (Qau h39),rp 2 (nF h38),rp 26 hP,rp 4 (oI ((!r11)=false)),oI (((!r11)=false)∧(gtI x0.split 1)=true),oR True ((!r11)=false),rp 2 (oI (((!r11)||((gtI x0.split 1)&&((neI x0.pick.place (-1))&&(neI x0.drop.place (-1)))))=false)),oR True (((!r11)||((gtI x0.split 1)&&((neI x0.pick.place (-1))&&(neI x0.drop.place (-1)))))=false),rp 3 (oI ((((!r11)||((gtI x0.split 1)&&((neI x0.pick.place (-1))&&(neI x0.drop.place (-1)))))||(ltI x0.last_ (-1)))=false)),oR True ((((!r11)||((gtI x0.split 1)&&((neI x0.pick.place (-1))&&(neI x0.drop.place (-1)))))||(ltI x0.last_ (-1)))=false),rp 2 (oI (((((!r11)||((gtI x0.split 1)&&((neI x0.pick.place (-1))&&(neI x0.drop.place (-1)))))||(ltI x0.last_ (-1)))||(geI x0.last_ types))=false)),oR True (((((!r11)||((gtI x0.split 1)&&((neI x0.pick.place (-1))&&(neI x0.drop.place (-1)))))||(ltI x0.last_ (-1)))||(geI x0.last_ types))=false),rp 3 (oI ((((((!r11)||((gtI x0.split 1)&&((neI x0.pick.place (-1))&&(neI x0.drop.place (-1)))))||(ltI x0.last_ (-1)))||(geI x0.last_ types))||(ltI x0.now (-1)))=false)),oR True ((((((!r11)||((gtI x0.split 1)&&((neI x0.pick.place (-1))&&(neI x0.drop.place (-1)))))||(ltI x0.last_ (-1)))||(geI x0.last_ types))||(ltI x0.now (-1)))=false),bF h40,hW 5,hH (.frz 0),rp 3 (eL l8 e_i64)]
 ·obtain ⟨h42,h⟩:=Qas h
  obtain rfl:=Option.some.inj h
  exact gr 9 [] [rp 5 hP,rp 3 (oI ((neI x0.pick.place (-1))=true)),oR True ((neI x0.pick.place (-1))=true),cC (Qau h37),rp 5 (nT h38),rp 4 tT,kF,rp 21 tT,oO (Eq.refl ([2].map e_i64).length),aO e_i64 h42,hW 5,hH (.frz 3),rp 4 (oO (Eq.refl ((l8++[2]).map e_i64).length))]
theorem Qil (Γ:Gam) (rv:List Int) {types x0 l7} (h:Qc6 types x0 l7=some rv):QaU Γ rv ⟨[.c 1023],⟨156,[vI 2 types,vO 11 0 1 l7 e_i64,vP 12 1 16],[oS 1 59 l7 e_i64,oX 16 83 (Qag.enc x0)]⟩⟩:=by
 unfold Qc6 at h
 obtain ⟨r9,h34,h⟩:=Qae h
 rcases Qai h with ⟨h35,h⟩|⟨h35,h⟩
 ·exact gn 5 [2,11,12] [0,1] [cC (Qau h34),nF h35] (Qim Γ rv h)
 ·obtain ⟨h36,h⟩:=Qas h
  exact gn 5 [2,11,12] [3,1] [cC (Qau h34),nT h35,oO (Eq.refl ([18].map e_i64).length),aO e_i64 h36] (Qim Γ rv h)
theorem Qij (Γ:Gam) (rv:List Int) {types x0 l5} (h:Qc4 types x0 l5=some rv):QaU Γ rv ⟨[.c 511],⟨156,[vI 2 types,vO 11 0 1 l5 e_i64,vP 12 1 16],[oS 1 59 l5 e_i64,oX 16 83 (Qag.enc x0)]⟩⟩:=by
 unfold Qc4 at h
 obtain ⟨r4,h19,h⟩:=Qae h
 rcases Qai h with ⟨h20,h⟩|⟨h20,h⟩
 ·obtain ⟨h21,h⟩:=Qas h
  obtain ⟨r5,h22,h⟩:=Qae h
  rcases Qai h with ⟨h23,h⟩|⟨h23,h⟩
  ·exact gn 10 [2,11,12] [3,1] [cC (QaV h19),rp 5 (bT h20),tT,oO (Eq.refl ([14].map e_i64).length),aO e_i64 h21,cC (Qau h22),nF h23] (Qik Γ rv h)
  ·obtain ⟨h24,h⟩:=Qas h
   exact gn 10 [2,11,12] [5,1] [cC (QaV h19),rp 5 (bT h20),tT,oO (Eq.refl ([14].map e_i64).length),aO e_i64 h21,cC (Qau h22),nT h23,oO (Eq.refl ([18].map e_i64).length),aO e_i64 h24] (Qik Γ rv h)
 ·obtain ⟨r8,h31,h⟩:=Qae h
  rcases Qai h with ⟨h32,h⟩|⟨h32,h⟩
  ·obtain ⟨h33,h⟩:=Qas h
   exact gn 5 [2,11,12] [3,1] [cC (QaV h19),rp 3 (bF h20),cC (QaV h31),rp 2 (bF h20),bT h32,oO (Eq.refl ([14].map e_i64).length),aO e_i64 h33] (Qil Γ rv h)
  ·exact gn 5 [2,11,12] [0,1] [cC (QaV h19),rp 3 (bF h20),cC (QaV h31),rp 2 (bF h20),bF h32] (Qil Γ rv h)
theorem Qii (Γ:Gam) (rv:List Int) {types x0 l4} (h:Qc3 types x0 l4=some rv):QaU Γ rv ⟨[.c 255],⟨156,[vI 2 types,vO 11 0 1 l4 e_i64,vP 12 1 16],[oS 1 59 l4 e_i64,oX 16 83 (Qag.enc x0)]⟩⟩:=by
 unfold Qc3 at h
 rcases Qai h with ⟨h17,h⟩|⟨h17,h⟩
 ·obtain ⟨h18,h⟩:=Qas h
  exact gn 5 [2,11,12] [3,1] [rp 5 hP,rp 3 (oI ((eqI x0.pick.place (-1))=true)),oR True ((eqI x0.pick.place (-1))=true),bT h17,oO (Eq.refl ([19].map e_i64).length),aO e_i64 h18] (Qij Γ rv h)
 ·exact gn 5 [2,11,12] [0,1] [rp 5 hP,rp 3 (oI ((eqI x0.pick.place (-1))=true)),oR True ((eqI x0.pick.place (-1))=true),bF h17] (Qij Γ rv h)
theorem Qio (Γ:Gam) (rv:List Int) {types x0 l10} (h:Qfc types x0 l10=some rv):QaU Γ rv ⟨[.c 2047],⟨156,[vI 2 types,vO 11 0 1 l10 e_i64,vP 12 1 16],[oS 1 59 l10 e_i64,oX 16 83 (Qag.enc x0)]⟩⟩:=by
 unfold Qfc at h
 obtain ⟨r14,h52,h⟩:=Qae h
 rcases Qai h with ⟨h53,h⟩|⟨h53,h⟩
 ·obtain ⟨r15,h54,h⟩:=Qae h
  rcases Qai h with ⟨h55,h⟩|⟨h55,h⟩
  ·obtain ⟨h56,h⟩:=Qas h
   obtain rfl:=Option.some.inj h
   exact gr 9 [] [rp 5 hP,rp 3 (oI ((neI x0.pick.place (-1))=true)),oR True ((neI x0.pick.place (-1))=true),cC (Qau h52),rp 3 (nF h53),cC (Qau h54),rp 2 (nF h53),rp 26 hP,rp 4 (oI ((!r15)=false)),oI (((!r15)=false)∧(gtI x0.split 1)=true),oR True ((!r15)=false),rp 2 (oI (((!r15)||((gtI x0.split 1)&&((neI x0.pick.place (-1))&&(neI x0.drop.place (-1)))))=false)),oR True (((!r15)||((gtI x0.split 1)&&((neI x0.pick.place (-1))&&(neI x0.drop.place (-1)))))=false),rp 3 (oI ((((!r15)||((gtI x0.split 1)&&((neI x0.pick.place (-1))&&(neI x0.drop.place (-1)))))||(ltI x0.last_ (-1)))=false)),oR True ((((!r15)||((gtI x0.split 1)&&((neI x0.pick.place (-1))&&(neI x0.drop.place (-1)))))||(ltI x0.last_ (-1)))=false),rp 2 (oI (((((!r15)||((gtI x0.split 1)&&((neI x0.pick.place (-1))&&(neI x0.drop.place (-1)))))||(ltI x0.last_ (-1)))||(geI x0.last_ types))=false)),oR True (((((!r15)||((gtI x0.split 1)&&((neI x0.pick.place (-1))&&(neI x0.drop.place (-1)))))||(ltI x0.last_ (-1)))||(geI x0.last_ types))=false),rp 3 (oI ((((((!r15)||((gtI x0.split 1)&&((neI x0.pick.place (-1))&&(neI x0.drop.place (-1)))))||(ltI x0.last_ (-1)))||(geI x0.last_ types))||(ltI x0.now (-1)))=false)),oR True ((((((!r15)||((gtI x0.split 1)&&((neI x0.pick.place (-1))&&(neI x0.drop.place (-1)))))||(ltI x0.last_ (-1)))||(geI x0.last_ types))||(ltI x0.now (-1)))=false),bT h55,oO (Eq.refl ([2].map e_i64).length),aO e_i64 h56,hW 5,hH (.frz 3),rp 4 (oO (Eq.refl ((l10++[2]).map e_i64).length))]
  ·obtain rfl:=Option.some.inj h
   exact gr 9 [] [rp 5 hP,rp 3 (oI ((neI x0.pick.place (-1))=true)),oR True ((neI x0.pick.place (-1))=true),cC (Qau h52),rp 3 (nF h53),cC (Qau h54),rp 2 (nF h53),rp 26 hP,rp 4 (oI ((!r15)=false)),oI (((!r15)=false)∧(gtI x0.split 1)=true),oR True ((!r15)=false),rp 2 (oI (((!r15)||((gtI x0.split 1)&&((neI x0.pick.place (-1))&&(neI x0.drop.place (-1)))))=false)),oR True (((!r15)||((gtI x0.split 1)&&((neI x0.pick.place (-1))&&(neI x0.drop.place (-1)))))=false),rp 3 (oI ((((!r15)||((gtI x0.split 1)&&((neI x0.pick.place (-1))&&(neI x0.drop.place (-1)))))||(ltI x0.last_ (-1)))=false)),oR True ((((!r15)||((gtI x0.split 1)&&((neI x0.pick.place (-1))&&(neI x0.drop.place (-1)))))||(ltI x0.last_ (-1)))=false),rp 2 (oI (((((!r15)||((gtI x0.split 1)&&((neI x0.pick.place (-1))&&(neI x0.drop.place (-1)))))||(ltI x0.last_ (-1)))||(geI x0.last_ types))=false)),oR True (((((!r15)||((gtI x0.split 1)&&((neI x0.pick.place (-1))&&(neI x0.drop.place (-1)))))||(ltI x0.last_ (-1)))||(geI x0.last_ types))=false),rp 3 (oI ((((((!r15)||((gtI x0.split 1)&&((neI x0.pick.place (-1))&&(neI x0.drop.place (-1)))))||(ltI x0.last_ (-1)))||(geI x0.last_ types))||(ltI x0.now (-1)))=false)),oR True ((((((!r15)||((gtI x0.split 1)&&((neI x0.pick.place (-1))&&(neI x0.drop.place (-1)))))||(ltI x0.last_ (-1)))||(geI x0.last_ types))||(ltI x0.now (-1)))=false),bF h55,hW 5,hH (.frz 0),rp 3 (eL l10 e_i64)]
 ·obtain ⟨h57,h⟩:=Qas h
  obtain rfl:=Option.some.inj h
  exact gr 9 [] [rp 5 hP,rp 3 (oI ((neI x0.pick.place (-1))=true)),oR True ((neI x0.pick.place (-1))=true),cC (Qau h52),rp 5 (nT h53),rp 4 tT,kF,rp 21 tT,oO (Eq.refl ([2].map e_i64).length),aO e_i64 h57,hW 5,hH (.frz 3),rp 4 (oO (Eq.refl ((l10++[2]).map e_i64).length))]
theorem Qhl (Γ:Gam) (rv:List Int) {types x0 l12} (h:QeK types x0 l12=some rv):QaU Γ rv ⟨[.c 2047],⟨156,[vI 2 types,vO 11 0 1 l12 e_i64,vP 12 1 16],[oS 1 59 l12 e_i64,oX 16 83 (Qag.enc x0)]⟩⟩:=by
 unfold QeK at h
 obtain ⟨r18,h64,h⟩:=Qae h
 rcases Qai h with ⟨h65,h⟩|⟨h65,h⟩
 ·obtain ⟨r19,h66,h⟩:=Qae h
  rcases Qai h with ⟨h67,h⟩|⟨h67,h⟩
  ·obtain ⟨h68,h⟩:=Qas h
   obtain rfl:=Option.some.inj h
   exact gr 9 [] [rp 5 hP,rp 3 (oI ((neI x0.pick.place (-1))=true)),oR True ((neI x0.pick.place (-1))=true),cC (Qau h64),rp 3 (nF h65),cC (Qau h66),rp 2 (nF h65),rp 26 hP,rp 4 (oI ((!r19)=false)),oI (((!r19)=false)∧(gtI x0.split 1)=true),oR True ((!r19)=false),rp 2 (oI (((!r19)||((gtI x0.split 1)&&((neI x0.pick.place (-1))&&(neI x0.drop.place (-1)))))=false)),oR True (((!r19)||((gtI x0.split 1)&&((neI x0.pick.place (-1))&&(neI x0.drop.place (-1)))))=false),rp 3 (oI ((((!r19)||((gtI x0.split 1)&&((neI x0.pick.place (-1))&&(neI x0.drop.place (-1)))))||(ltI x0.last_ (-1)))=false)),oR True ((((!r19)||((gtI x0.split 1)&&((neI x0.pick.place (-1))&&(neI x0.drop.place (-1)))))||(ltI x0.last_ (-1)))=false),rp 2 (oI (((((!r19)||((gtI x0.split 1)&&((neI x0.pick.place (-1))&&(neI x0.drop.place (-1)))))||(ltI x0.last_ (-1)))||(geI x0.last_ types))=false)),oR True (((((!r19)||((gtI x0.split 1)&&((neI x0.pick.place (-1))&&(neI x0.drop.place (-1)))))||(ltI x0.last_ (-1)))||(geI x0.last_ types))=false),rp 3 (oI ((((((!r19)||((gtI x0.split 1)&&((neI x0.pick.place (-1))&&(neI x0.drop.place (-1)))))||(ltI x0.last_ (-1)))||(geI x0.last_ types))||(ltI x0.now (-1)))=false)),oR True ((((((!r19)||((gtI x0.split 1)&&((neI x0.pick.place (-1))&&(neI x0.drop.place (-1)))))||(ltI x0.last_ (-1)))||(geI x0.last_ types))||(ltI x0.now (-1)))=false),bT h67,oO (Eq.refl ([2].map e_i64).length),aO e_i64 h68,hW 5,hH (.frz 3),rp 4 (oO (Eq.refl ((l12++[2]).map e_i64).length))]
  ·obtain rfl:=Option.some.inj h
   exact gr 9 [] [rp 5 hP,rp 3 (oI ((neI x0.pick.place (-1))=true)),oR True ((neI x0.pick.place (-1))=true),cC (Qau h64),rp 3 (nF h65),cC (Qau h66),rp 2 (nF h65),rp 26 hP,rp 4 (oI ((!r19)=false)),oI (((!r19)=false)∧(gtI x0.split 1)=true),oR True ((!r19)=false),rp 2 (oI (((!r19)||((gtI x0.split 1)&&((neI x0.pick.place (-1))&&(neI x0.drop.place (-1)))))=false)),oR True (((!r19)||((gtI x0.split 1)&&((neI x0.pick.place (-1))&&(neI x0.drop.place (-1)))))=false),rp 3 (oI ((((!r19)||((gtI x0.split 1)&&((neI x0.pick.place (-1))&&(neI x0.drop.place (-1)))))||(ltI x0.last_ (-1)))=false)),oR True ((((!r19)||((gtI x0.split 1)&&((neI x0.pick.place (-1))&&(neI x0.drop.place (-1)))))||(ltI x0.last_ (-1)))=false),rp 2 (oI (((((!r19)||((gtI x0.split 1)&&((neI x0.pick.place (-1))&&(neI x0.drop.place (-1)))))||(ltI x0.last_ (-1)))||(geI x0.last_ types))=false)),oR True (((((!r19)||((gtI x0.split 1)&&((neI x0.pick.place (-1))&&(neI x0.drop.place (-1)))))||(ltI x0.last_ (-1)))||(geI x0.last_ types))=false),rp 3 (oI ((((((!r19)||((gtI x0.split 1)&&((neI x0.pick.place (-1))&&(neI x0.drop.place (-1)))))||(ltI x0.last_ (-1)))||(geI x0.last_ types))||(ltI x0.now (-1)))=false)),oR True ((((((!r19)||((gtI x0.split 1)&&((neI x0.pick.place (-1))&&(neI x0.drop.place (-1)))))||(ltI x0.last_ (-1)))||(geI x0.last_ types))||(ltI x0.now (-1)))=false),bF h67,hW 5,hH (.frz 0),rp 3 (eL l12 e_i64)]
 ·obtain ⟨h69,h⟩:=Qas h
  obtain rfl:=Option.some.inj h
  exact gr 9 [] [rp 5 hP,rp 3 (oI ((neI x0.pick.place (-1))=true)),oR True ((neI x0.pick.place (-1))=true),cC (Qau h64),rp 5 (nT h65),rp 4 tT,kF,rp 21 tT,oO (Eq.refl ([2].map e_i64).length),aO e_i64 h69,hW 5,hH (.frz 3),rp 4 (oO (Eq.refl ((l12++[2]).map e_i64).length))]
theorem Qhk (Γ:Gam) (rv:List Int) {types x0 l11} (h:QeJ types x0 l11=some rv):QaU Γ rv ⟨[.c 1023],⟨156,[vI 2 types,vO 11 0 1 l11 e_i64,vP 12 1 16],[oS 1 59 l11 e_i64,oX 16 83 (Qag.enc x0)]⟩⟩:=by
 unfold QeJ at h
 obtain ⟨r17,h61,h⟩:=Qae h
 rcases Qai h with ⟨h62,h⟩|⟨h62,h⟩
 ·exact gn 5 [2,11,12] [0,1] [cC (Qau h61),nF h62] (Qhl Γ rv h)
 ·obtain ⟨h63,h⟩:=Qas h
  exact gn 5 [2,11,12] [3,1] [cC (Qau h61),nT h62,oO (Eq.refl ([18].map e_i64).length),aO e_i64 h63] (Qhl Γ rv h)
theorem Qin (Γ:Gam) (rv:List Int) {types x0 l9} (h:Qfb types x0 l9=some rv):QaU Γ rv ⟨[.c 511],⟨156,[vI 2 types,vO 11 0 1 l9 e_i64,vP 12 1 16],[oS 1 59 l9 e_i64,oX 16 83 (Qag.enc x0)]⟩⟩:=by
 unfold Qfb at h
 obtain ⟨r12,h46,h⟩:=Qae h
 rcases Qai h with ⟨h47,h⟩|⟨h47,h⟩
 ·obtain ⟨h48,h⟩:=Qas h
  obtain ⟨r13,h49,h⟩:=Qae h
  rcases Qai h with ⟨h50,h⟩|⟨h50,h⟩
  ·exact gn 10 [2,11,12] [3,1] [cC (QaV h46),rp 5 (bT h47),tT,oO (Eq.refl ([14].map e_i64).length),aO e_i64 h48,cC (Qau h49),nF h50] (Qio Γ rv h)
  ·obtain ⟨h51,h⟩:=Qas h
   exact gn 10 [2,11,12] [5,1] [cC (QaV h46),rp 5 (bT h47),tT,oO (Eq.refl ([14].map e_i64).length),aO e_i64 h48,cC (Qau h49),nT h50,oO (Eq.refl ([18].map e_i64).length),aO e_i64 h51] (Qio Γ rv h)
 ·obtain ⟨r16,h58,h⟩:=Qae h
  rcases Qai h with ⟨h59,h⟩|⟨h59,h⟩
  ·obtain ⟨h60,h⟩:=Qas h
   exact gn 5 [2,11,12] [3,1] [cC (QaV h46),rp 3 (bF h47),cC (QaV h58),rp 2 (bF h47),bT h59,oO (Eq.refl ([14].map e_i64).length),aO e_i64 h60] (Qhk Γ rv h)
  ·exact gn 5 [2,11,12] [0,1] [cC (QaV h46),rp 3 (bF h47),cC (QaV h58),rp 2 (bF h47),bF h59] (Qhk Γ rv h)
theorem Qih (Γ:Gam) (rv:List Int) {places types x0 l3} (h:Qbi places types x0 l3=some rv):QaU Γ rv ⟨[.c 127],⟨156,[vI 0 places,vI 2 types,vO 11 0 1 l3 e_i64,vP 12 1 16],[oS 1 59 l3 e_i64,oX 16 83 (Qag.enc x0)]⟩⟩:=by
 unfold Qbi at h
 obtain ⟨r2,h12,h⟩:=Qae h
 rcases Qai h with ⟨h13,h⟩|⟨h13,h⟩
 ·obtain ⟨r3,h14,h⟩:=Qae h
  rcases Qai h with ⟨h15,h⟩|⟨h15,h⟩
  ·exact gn 5 [2,11,12] [0,1] [cC (Qau h12),rp 6 (nF h13),cC (Qau h14),rp 2 (nF h13),nF h15] (Qii Γ rv h)
  ·obtain ⟨h16,h⟩:=Qas h
   exact gn 5 [2,11,12] [3,1] [cC (Qau h12),rp 6 (nF h13),cC (Qau h14),rp 2 (nF h13),nT h15,oO (Eq.refl ([11].map e_i64).length),aO e_i64 h16] (Qii Γ rv h)
 ·obtain ⟨h43,h⟩:=Qas h
  rcases Qai h with ⟨h44,h⟩|⟨h44,h⟩
  ·obtain ⟨h45,h⟩:=Qas h
   exact gn 10 [2,11,12] [5,1] [cC (Qau h12),rp 8 (nT h13),tT,oO (Eq.refl ([11].map e_i64).length),aO e_i64 h43,rp 5 hP,rp 3 (oI ((eqI x0.pick.place (-1))=true)),oR True ((eqI x0.pick.place (-1))=true),bT h44,oO (Eq.refl ([19].map e_i64).length),aO e_i64 h45] (Qin Γ rv h)
  ·exact gn 10 [2,11,12] [3,1] [cC (Qau h12),rp 8 (nT h13),tT,oO (Eq.refl ([11].map e_i64).length),aO e_i64 h43,rp 5 hP,rp 3 (oI ((eqI x0.pick.place (-1))=true)),oR True ((eqI x0.pick.place (-1))=true),bF h44] (Qin Γ rv h)
theorem Qig (Γ:Gam) (rv:List Int) {places dims types l at_ x0 l1} (h:Qc2 places dims types l at_ x0 l1=some rv):QaU Γ rv ⟨[.c 31],⟨156,[vI 0 places,vI 1 dims,vI 2 types,vL 3 16 l Qag.enc,vI 4 at_,vO 11 0 1 l1 e_i64,vP 12 1 16],[oS 1 59 l1 e_i64,oX 16 83 (Qag.enc x0)]⟩⟩:=by
 unfold Qc2 at h
 obtain ⟨e0,h8,h⟩:=Qae h
 refine gn 5 [0,1,2,3,4,11,12,13] [0,1] [] (QmX Γ rv h8 ?_)
 obtain ⟨l2,rfl⟩:∃ x,x=e0:=⟨_,rfl⟩
 replace h:(bnd (Qdy x0.load dims) fun r1=>br r1 (Qbi places types x0 l2) (chk (okN (l2++[17]).length 8) (Qbi places types x0 (l2++[17]))):Option (List Int))=some _:=h
 obtain ⟨r1,h9,h⟩:=Qae h
 rcases Qai h with ⟨h10,h⟩|⟨h10,h⟩
 ·exact gn 5 [0,2,11,12] [0,1] [cC (Qkr h9),nF h10] (Qih Γ rv h)
 ·obtain ⟨h11,h⟩:=Qas h
  exact gn 5 [0,2,11,12] [3,1] [cC (Qkr h9),nT h10,oO (Eq.refl ([17].map e_i64).length),aO e_i64 h11] (Qih Γ rv h)
theorem Qoy {places dims types l at_} {rv:List Int} (h:Qfm places dims types l at_=some rv):AFn Tryz.prog 111 [.one (lI places),.one (lI dims),.one (lI types),.one (lL 16 l Qag.enc),.one (lI at_)] [] (one (lL 1 rv e_i64)) []:=by
 refine QaM Tryz.func111 (by kernel_rfl) (by kernel_rfl) (fun Γ=>?_)
 unfold Qfm at h
 obtain ⟨x0,h0,h⟩:=Qae h
 obtain ⟨r,h1,h⟩:=Qae h
 rcases Qai h with ⟨h2,h⟩|⟨h2,h⟩
 ·exact gn 11 [0,1,2,3,4,11,12] [1,0] [cE Qag.enc h0,cC (Qdp h1),nF h2,hW 1,hH (.adopt 11 1 59)] (Qig Γ rv h)
 ·obtain ⟨h3,h⟩:=Qas h
  exact gn 11 [0,1,2,3,4,11,12] [2,0] [cE Qag.enc h0,cC (Qdp h1),nT h2,oO (Eq.refl ([5].map e_i64).length),aN (l:=([5]:List Int)) e_i64 h3] (Qig Γ rv h)
def Qel (Γ:Gam) (rv:List Qaa) (cf:Cf):Prop:=Go Tryz.prog Tryz.f68 [] Γ (one (lL 2 rv Qaa.enc)) [] cf
def Qi2 (Γ:Gam) (rv:List Qaa) (n:Qak) (dims:Int) (types:Int) (l:List Qag) (i:Int) (r:List Int) (l3:List Qaa) (k:Int):Prop:=Qel Γ rv ⟨[.c 31308,.l 31308,.b 2,.b 1,.c 979,.l 244,.b 0,.c 31],⟨51,[vI 1 dims,vI 2 types,vL 3 16 l Qag.enc,vP 4 0 2,vO 9 1 2 l3 Qaa.enc,vI 10 i,vL 11 1 r e_i64,vI 12 k],[oX 2 25 (Qak.enc n),oS 2 164 l3 Qaa.enc]⟩⟩
def Qif (Γ:Gam) (rv:List Qaa) (n:Qak) (dims:Int) (types:Int) (l:List Qag) (i:Int) (r:List Int) (l4:List Qaa):Prop:=Qel Γ rv ⟨[.b 1,.c 979,.l 244,.b 0,.c 31],⟨51,[vI 1 dims,vI 2 types,vL 3 16 l Qag.enc,vP 4 0 2,vO 9 1 2 l4 Qaa.enc,vI 10 i],[oX 2 25 (Qak.enc n),oS 2 164 l4 Qaa.enc]⟩⟩
def Qi1 (Γ:Gam) (rv:List Qaa) (n:Qak) (dims:Int) (types:Int) (l:List Qag) (l2:List Qaa) (i:Int):Prop:=Qel Γ rv ⟨[.c 244,.l 244,.b 0,.c 31],⟨51,[vI 1 dims,vI 2 types,vL 3 16 l Qag.enc,vP 4 0 2,vO 9 1 2 l2 Qaa.enc,vI 10 i],[oX 2 25 (Qak.enc n),oS 2 164 l2 Qaa.enc]⟩⟩
def Qie (Γ:Gam) (rv:List Qaa) (n:Qak) (dims:Int) (types:Int) (l:List Qag) (l5:List Qaa):Prop:=Qel Γ rv ⟨[.c 31],⟨51,[vO 9 0 2 l5 Qaa.enc],[oS 2 164 l5 Qaa.enc]⟩⟩
theorem QmW (Γ:Gam) (rv:List Qaa) {n dims types l i r} {s:List Qaa×Int} {e:List Qaa} (h:loopF (fun s=>Qe9 n dims types l i r s.1 s.2) s=some e) (hD:Qif Γ rv n dims types l i r e):Qi2 Γ rv n dims types l i r s.1 s.2:=by
 refine Qaz (C:=fun (s:List Qaa×Int)=>Qi2 Γ rv n dims types l i r s.1 s.2) (D:=fun (e:List Qaa)=>Qif Γ rv n dims types l i r e) ?_ h hD
 clear h hD s e
 rintro ⟨l3,k⟩ z_ h hI hE
 replace h:Qe9 n dims types l i r l3 k=_:=h
 unfold Qe9 at h
 rcases Qai h with ⟨h4,h⟩|⟨h4,h⟩
 ·obtain ⟨x0,h5,h⟩:=Qae h
  obtain ⟨r1,h6,h⟩:=Qae h
  obtain ⟨h7,h⟩:=Qas h
  exact gn 11 [1,2,3,4,9,10,11,12] [0,3] [nL e_i64 r,bT h4,hH (.draw 9 []),cE e_i64 h5,cC (Qbd h6),oO (Eq.refl ([(Qaa.mk x0 r1)].map Qaa.enc).length),aO Qaa.enc h7] (hI _ (oJ h))
 ·exact gn 5 [1,2,3,4,9,10] [0,1] [nL e_i64 r,bF h4] (hE _ (oJ h))
theorem QmV (Γ:Gam) (rv:List Qaa) {n dims types l} {s:List Qaa×Int} {e:List Qaa} (h:loopF (fun s=>Qb3 n dims types l s.1 s.2) s=some e) (hD:Qie Γ rv n dims types l e):Qi1 Γ rv n dims types l s.1 s.2:=by
 refine Qaz (C:=fun (s:List Qaa×Int)=>Qi1 Γ rv n dims types l s.1 s.2) (D:=fun (e:List Qaa)=>Qie Γ rv n dims types l e) ?_ h hD
 clear h hD s e
 rintro ⟨l2,i⟩ z_ h hI hE
 replace h:Qb3 n dims types l l2 i=_:=h
 unfold Qb3 at h
 rcases Qai h with ⟨h2,h⟩|⟨h2,h⟩
 ·obtain ⟨r,h3,h⟩:=Qae h
  obtain ⟨e0,h8,h⟩:=Qae h
  refine gn 13 [1,2,3,4,9,10,11,12] [0,1] [nL Qag.enc l,bT h2,nL e_str n.places,cC (Qoy h3)] (QmW Γ rv h8 ?_)
  obtain ⟨l4,rfl⟩:∃ x,x=e0:=⟨_,rfl⟩
  replace h:(some (.inl (l4,(addK .i64 i 1))):Option ((List Qaa×Int)⊕(List Qaa)))=some _:=h
  exact gn 3 [1,2,3,4,9,10] [0,1] [] (hI _ (oJ h))
 ·exact gn 5 [9] [1] [nL Qag.enc l,bF h2] (hE _ (oJ h))
theorem Qid (Γ:Gam) (rv:List Qaa) {n dims types l l1} (h:QdU n dims types l l1=some rv):Qel Γ rv ⟨[.c 15],⟨51,[vI 1 dims,vI 2 types,vL 3 16 l Qag.enc,vP 4 0 2,vO 9 1 2 l1 Qaa.enc],[oX 2 25 (Qak.enc n),oS 2 164 l1 Qaa.enc]⟩⟩:=by
 unfold QdU at h
 obtain ⟨e1,h9,h⟩:=Qae h
 refine gn 5 [1,2,3,4,9,10] [0,1] [] (QmV Γ rv h9 ?_)
 obtain ⟨l5,rfl⟩:∃ x,x=e1:=⟨_,rfl⟩
 replace h:(some l5:Option (List Qaa))=some _:=h
 obtain rfl:=Option.some.inj h
 exact gr 2 [] [hW 4,hH (.frz 0),rp 3 (eL l5 Qaa.enc)]
theorem Qox {n dims types l} {rv:List Qaa} (h:Qfl n dims types l=some rv):AFn Tryz.prog 68 [.agg (Qak.enc n),.one (lI dims),.one (lI types),.one (lL 16 l Qag.enc)] [] (one (lL 2 rv Qaa.enc)) []:=by
 refine QaM Tryz.func68 (by kernel_rfl) (by kernel_rfl) (fun Γ=>?_)
 unfold Qfl at h
 rcases Qai h with ⟨h0,h⟩|⟨h0,h⟩
 ·obtain ⟨h1,h⟩:=Qas h
  exact gn 9 [1,2,3,4,9] [0,2] [nL Qag.enc l,bT h0,oO (Eq.refl ([(Qaa.mk 4 ByteArray.empty)].map Qaa.enc).length),aN (l:=([(Qaa.mk 4 ByteArray.empty)]:List Qaa)) Qaa.enc h1] (Qid Γ rv h)
 ·exact gn 9 [1,2,3,4,9] [0,1] [nL Qag.enc l,bF h0,hW 1,hH (.adopt 9 2 164)] (Qid Γ rv h)
def QjO (Γ:Gam) (rv:ByteArray) (cf:Cf):Prop:=Go Tryz.prog Tryz.f138 [] Γ (one (.str rv)) [] cf
def Qhm (Γ:Gam) (rv:ByteArray) (n1:Int) (s0:ByteArray):Prop:=QjO Γ rv ⟨[.c 56,.l 56,.b 0,.c 15],⟨23,[vI 0 n1,vS 3 s0],[]⟩⟩
def QgV (Γ:Gam) (rv:ByteArray) (n2:Int) (s1:ByteArray):Prop:=QjO Γ rv ⟨[.c 15],⟨23,[vI 0 n2,vS 3 s1],[]⟩⟩
theorem QlQ (Γ:Gam) (rv:ByteArray) {s:Int×ByteArray} {e:Int×ByteArray} (h:loopF (fun s=>Qcp s.1 s.2) s=some e) (hD:QgV Γ rv e.1 e.2):Qhm Γ rv s.1 s.2:=by
 refine Qaz (C:=fun (s:Int×ByteArray)=>Qhm Γ rv s.1 s.2) (D:=fun (e:Int×ByteArray)=>QgV Γ rv e.1 e.2) ?_ h hD
 clear h hD s e
 rintro ⟨n1,s0⟩ z_ h hI hE
 replace h:Qcp n1 s0=_:=h
 unfold Qcp at h
 rcases Qai h with ⟨h0,h⟩|⟨h0,h⟩
 ·obtain ⟨h1,h⟩:=Qas h
  exact gn 11 [0,3] [] [bT h0,hH (.ints [(cvK .u8 (addK .i64 48 (remK n1 10)))]),oO (oA (n:=10)),oO (Eq.refl ([(cvK .u8 (addK .i64 48 (remK n1 10)))].map e_u8).length),oO (Eq.refl (([(cvK .u8 (addK .i64 48 (remK n1 10)))].map e_u8):List (List Lf))),oO (h1),oO (oA (n:=10))] (hI _ (oJ h))
 ·exact gn 5 [0,3] [] [bF h0] (hE _ (oJ h))
theorem Qec {n} {rv:ByteArray} (h:Qdu n=some rv):AFn Tryz.prog 138 [.one (lI n)] [] (one (.str rv)) []:=by
 refine QaM Tryz.func138 (by kernel_rfl) (by kernel_rfl) (fun Γ=>?_)
 unfold Qdu at h
 obtain ⟨e0,h2,h⟩:=Qae h
 refine gn 7 [0,3] [] [] (QlQ Γ rv h2 ?_)
 obtain ⟨n2,s1⟩:=e0
 replace h:(chk ((QnZ [(cvK .u8 (addK .i64 48 n2))]).size+s1.size≤9223372036854775807) (some (catS (QnZ [(cvK .u8 (addK .i64 48 n2))]) s1)):Option ByteArray)=some _:=h
 obtain ⟨h3,h⟩:=Qas h
 obtain rfl:=Option.some.inj h
 exact gr 2 [] [hH (.ints [(cvK .u8 (addK .i64 48 n2))]),oO (Eq.refl ([(cvK .u8 (addK .i64 48 n2))].map e_u8).length),oO (Eq.refl (([(cvK .u8 (addK .i64 48 n2))].map e_u8):List (List Lf))),oO (h3)]
def QdV (Γ:Gam) (rv:List Qaa) (cf:Cf):Prop:=Go Tryz.prog Tryz.f112 [] Γ (one (lL 2 rv Qaa.enc)) [] cf
def Qir (Γ:Gam) (rv:List Qaa) (orders:Int) (l:List Qar) (word:ByteArray) (turned:Bool) (l2:List Qaa) (i:Int) (x0:Qar) (r:ByteArray) (twice:Bool) (k:Int):Prop:=QdV Γ rv ⟨[.c 1001972,.l 1001972,.b 2,.c 125247,.b 1,.c 979,.l 244,.b 0,.c 31],⟨123,[vI 0 orders,vL 1 2 l Qar.enc,vS 2 word,vB 3 turned,vO 9 0 2 l2 Qaa.enc,vI 10 i,vI 11 x0.x0,vI 12 x0.x1,vS 13 (catS (catS word QbY) r),vB 14 twice,vI 15 k],[oS 2 164 l2 Qaa.enc]⟩⟩
def Qhp (Γ:Gam) (rv:List Qaa) (orders:Int) (l:List Qar) (word:ByteArray) (turned:Bool) (l2:List Qaa) (i:Int) (x0:Qar) (r:ByteArray) (twice1:Bool):Prop:=QdV Γ rv ⟨[.c 125247,.b 1,.c 979,.l 244,.b 0,.c 31],⟨123,[vI 0 orders,vL 1 2 l Qar.enc,vS 2 word,vB 3 turned,vO 9 0 2 l2 Qaa.enc,vI 10 i,vS 13 (catS (catS word QbY) r),vB 14 twice1],[oS 2 164 l2 Qaa.enc]⟩⟩
def Qiq (Γ:Gam) (rv:List Qaa) (orders:Int) (l:List Qar) (word:ByteArray) (turned:Bool) (l2:List Qaa) (i:Int):Prop:=QdV Γ rv ⟨[.c 244,.l 244,.b 0,.c 31],⟨123,[vI 0 orders,vL 1 2 l Qar.enc,vS 2 word,vB 3 turned,vO 9 0 2 l2 Qaa.enc,vI 10 i],[oS 2 164 l2 Qaa.enc]⟩⟩
def Qho (Γ:Gam) (rv:List Qaa) (orders:Int) (l:List Qar) (word:ByteArray) (turned:Bool) (l3:List Qaa):Prop:=QdV Γ rv ⟨[.c 31],⟨123,[vO 9 0 2 l3 Qaa.enc],[oS 2 164 l3 Qaa.enc]⟩⟩
theorem Qmu (Γ:Gam) (rv:List Qaa) {orders l word turned l2 i x0 r} {s:Bool×Int} {e:Bool} (h:loopF (fun s=>QcB orders l word turned l2 i x0 r s.1 s.2) s=some e) (hD:Qhp Γ rv orders l word turned l2 i x0 r e):Qir Γ rv orders l word turned l2 i x0 r s.1 s.2:=by
 refine Qaz (C:=fun (s:Bool×Int)=>Qir Γ rv orders l word turned l2 i x0 r s.1 s.2) (D:=fun (e:Bool)=>Qhp Γ rv orders l word turned l2 i x0 r e) ?_ h hD
 clear h hD s e
 rintro ⟨twice,k⟩ z_ h hI hE
 replace h:QcB orders l word turned l2 i x0 r twice k=_:=h
 unfold QcB at h
 rcases Qai h with ⟨h9,h⟩|⟨h9,h⟩
 ·rcases Qai h with ⟨h10,h⟩|⟨h10,h⟩
  ·exact gn 11 [0,1,2,3,9,10,11,12,13,14,15] [0] [bT h9,rp 8 (bT h10),rp 7 kF,rp 2 (bT h10),tT,tT,rp 7 kF,tT,tT,rp 7 kF,tT,tT] (hI _ (oJ h))
  ·obtain ⟨x1,h11,h⟩:=Qae h
   rcases Qai h with ⟨h12,h⟩|⟨h12,h⟩
   ·rcases Qai h with ⟨h13,h⟩|⟨h13,h⟩
    ·exact gn 11 [0,1,2,3,9,10,11,12,13,14,15] [0] [bT h9,rp 3 (bF h10),cE Qar.enc h11,bF h10,oO (zL 0),oO (lT 0 2),rp 4 (bF h10),rp 3 (bT h12),cE Qar.enc h11,bT h12,oO (zL 1),oO (lT 1 2),rp 3 (bT h12),bF h10,bT h12,bF h10,rp 2 (bT h13),rp 7 kF,rp 2 (bT h13),rp 7 kF,rp 2 (bT h13)] (hI _ (oJ h))
    ·rcases Qai h with ⟨h14,h⟩|⟨h14,h⟩
     ·rcases Qai h with ⟨h15,h⟩|⟨h15,h⟩
      ·exact gn 11 [0,1,2,3,9,10,11,12,13,14,15] [0] [bT h9,rp 3 (bF h10),cE Qar.enc h11,bF h10,oO (zL 0),oO (lT 0 2),rp 4 (bF h10),rp 3 (bT h12),cE Qar.enc h11,bT h12,oO (zL 1),oO (lT 1 2),rp 3 (bT h12),bF h10,bT h12,bF h10,rp 2 (bF h13),rp 3 (bT h14),cE Qar.enc h11,bT h14,oO (zL 0),oO (lT 0 2),rp 3 (bT h14),bF h13,bT h14,bF h13,rp 3 (bT h15),cE Qar.enc h11,bT h15,oO (zL 1),oO (lT 1 2),rp 3 (bT h15),bF h13,bT h15,bF h13] (hI _ (oJ h))
      ·exact gn 11 [0,1,2,3,9,10,11,12,13,14,15] [0] [bT h9,rp 3 (bF h10),cE Qar.enc h11,bF h10,oO (zL 0),oO (lT 0 2),rp 4 (bF h10),rp 3 (bT h12),cE Qar.enc h11,bT h12,oO (zL 1),oO (lT 1 2),rp 3 (bT h12),bF h10,bT h12,bF h10,rp 2 (bF h13),rp 3 (bT h14),cE Qar.enc h11,bT h14,oO (zL 0),oO (lT 0 2),rp 3 (bT h14),bF h13,bT h14,bF h13,rp 7 (bF h15),bF h13,bF h15,bF h13] (hI _ (oJ h))
     ·exact gn 11 [0,1,2,3,9,10,11,12,13,14,15] [0] [bT h9,rp 3 (bF h10),cE Qar.enc h11,bF h10,oO (zL 0),oO (lT 0 2),rp 4 (bF h10),rp 3 (bT h12),cE Qar.enc h11,bT h12,oO (zL 1),oO (lT 1 2),rp 3 (bT h12),bF h10,bT h12,bF h10,rp 2 (bF h13),rp 7 (bF h14),bF h13,bF h14,bF h13,rp 7 fF,bF h13,fF,bF h13] (hI _ (oJ h))
   ·rcases Qai h with ⟨h16,h⟩|⟨h16,h⟩
    ·rcases Qai h with ⟨h17,h⟩|⟨h17,h⟩
     ·exact gn 11 [0,1,2,3,9,10,11,12,13,14,15] [0] [bT h9,rp 3 (bF h10),cE Qar.enc h11,bF h10,oO (zL 0),oO (lT 0 2),rp 4 (bF h10),rp 7 (bF h12),bF h10,bF h12,bF h10,fF,fF,rp 3 (bT h16),cE Qar.enc h11,bT h16,oO (zL 0),oO (lT 0 2),rp 3 (bT h16),fF,bT h16,fF,rp 3 (bT h17),cE Qar.enc h11,bT h17,oO (zL 1),oO (lT 1 2),rp 3 (bT h17),fF,bT h17,fF] (hI _ (oJ h))
     ·exact gn 11 [0,1,2,3,9,10,11,12,13,14,15] [0] [bT h9,rp 3 (bF h10),cE Qar.enc h11,bF h10,oO (zL 0),oO (lT 0 2),rp 4 (bF h10),rp 7 (bF h12),bF h10,bF h12,bF h10,fF,fF,rp 3 (bT h16),cE Qar.enc h11,bT h16,oO (zL 0),oO (lT 0 2),rp 3 (bT h16),fF,bT h16,fF,rp 7 (bF h17),fF,bF h17,fF] (hI _ (oJ h))
    ·exact gn 11 [0,1,2,3,9,10,11,12,13,14,15] [0] [bT h9,rp 3 (bF h10),cE Qar.enc h11,bF h10,oO (zL 0),oO (lT 0 2),rp 4 (bF h10),rp 7 (bF h12),bF h10,bF h12,bF h10,fF,fF,rp 7 (bF h16),fF,bF h16,rp 11 fF] (hI _ (oJ h))
 ·exact gn 5 [0,1,2,3,9,10,13,14] [0] [bF h9] (hE _ (oJ h))
theorem Qmt (Γ:Gam) (rv:List Qaa) {orders l word turned} {s:List Qaa×Int} {e:List Qaa} (h:loopF (fun s=>QbG orders l word turned s.1 s.2) s=some e) (hD:Qho Γ rv orders l word turned e):Qiq Γ rv orders l word turned s.1 s.2:=by
 refine Qaz (C:=fun (s:List Qaa×Int)=>Qiq Γ rv orders l word turned s.1 s.2) (D:=fun (e:List Qaa)=>Qho Γ rv orders l word turned e) ?_ h hD
 clear h hD s e
 rintro ⟨l2,i⟩ z_ h hI hE
 replace h:QbG orders l word turned l2 i=_:=h
 unfold QbG at h
 rcases Qai h with ⟨h2,h⟩|⟨h2,h⟩
 ·obtain ⟨x0,h3,h⟩:=Qae h
  obtain ⟨h4,h⟩:=Qas h
  obtain ⟨r,h5,h⟩:=Qae h
  obtain ⟨h6,h⟩:=Qas h
  rcases Qai h with ⟨h7,h⟩|⟨h7,h⟩
  ·obtain ⟨h8,h⟩:=Qas h
   exact gn 22 [0,1,2,3,9,10] [2] [nL Qar.enc l,bT h2,cE Qar.enc h3,oO (zL 0),oO (lT 0 2),cE Qar.enc h3,oO (zL 1),oO (lT 1 2),oO (h4),cC (Qec h5),rp 15 hP,oO (h6),rp 2 (oI ((ltI x0.x0 0)=false)),oR True ((ltI x0.x0 0)=false),oI (((ltI x0.x0 0)||(geI x0.x0 orders))=false),oR True (((ltI x0.x0 0)||(geI x0.x0 orders))=false),rp 2 (oI ((((ltI x0.x0 0)||(geI x0.x0 orders))||(ltI x0.x1 0))=false)),oR True ((((ltI x0.x0 0)||(geI x0.x0 orders))||(ltI x0.x1 0))=false),rp 2 (oI (((((ltI x0.x0 0)||(geI x0.x0 orders))||(ltI x0.x1 0))||(geI x0.x1 orders))=false)),oR True (((((ltI x0.x0 0)||(geI x0.x0 orders))||(ltI x0.x1 0))||(geI x0.x1 orders))=false),bT h7,oO (Eq.refl ([(Qaa.mk 2 (catS (catS word QbY) r))].map Qaa.enc).length),aO Qaa.enc h8] (hI _ (oJ h))
  ·obtain ⟨e0,h18,h⟩:=Qae h
   refine gn 25 [0,1,2,3,9,10,11,12,13,14,15] [0] [nL Qar.enc l,bT h2,cE Qar.enc h3,oO (zL 0),oO (lT 0 2),cE Qar.enc h3,oO (zL 1),oO (lT 1 2),oO (h4),cC (Qec h5),rp 15 hP,oO (h6),rp 2 (oI ((ltI x0.x0 0)=false)),oR True ((ltI x0.x0 0)=false),oI (((ltI x0.x0 0)||(geI x0.x0 orders))=false),oR True (((ltI x0.x0 0)||(geI x0.x0 orders))=false),rp 2 (oI ((((ltI x0.x0 0)||(geI x0.x0 orders))||(ltI x0.x1 0))=false)),oR True ((((ltI x0.x0 0)||(geI x0.x0 orders))||(ltI x0.x1 0))=false),rp 2 (oI (((((ltI x0.x0 0)||(geI x0.x0 orders))||(ltI x0.x1 0))||(geI x0.x1 orders))=false)),oR True (((((ltI x0.x0 0)||(geI x0.x0 orders))||(ltI x0.x1 0))||(geI x0.x1 orders))=false),bF h7] (Qmu Γ rv h18 ?_)
   obtain ⟨twice1,rfl⟩:∃ x,x=e0:=⟨_,rfl⟩
   replace h:(br twice1 (chk (okN (l2++[(Qaa.mk 6 (catS (catS word QbY) r))]).length 24) (some (.inl ((l2++[(Qaa.mk 6 (catS (catS word QbY) r))]),(addK .i64 i 1))))) (some (.inl (l2,(addK .i64 i 1)))):Option ((List Qaa×Int)⊕(List Qaa)))=some _:=h
   rcases Qai h with ⟨h19,h⟩|⟨h19,h⟩
   ·obtain ⟨h20,h⟩:=Qas h
    exact gn 7 [0,1,2,3,9,10] [2] [bT h19,oO (Eq.refl ([(Qaa.mk 6 (catS (catS word QbY) r))].map Qaa.enc).length),aO Qaa.enc h20] (hI _ (oJ h))
   ·exact gn 7 [0,1,2,3,9,10] [0] [bF h19] (hI _ (oJ h))
 ·exact gn 5 [9] [0] [nL Qar.enc l,bF h2] (hE _ (oJ h))
theorem Qhn (Γ:Gam) (rv:List Qaa) {orders l word turned l1} (h:QdB orders l word turned l1=some rv):QdV Γ rv ⟨[.c 15],⟨123,[vI 0 orders,vL 1 2 l Qar.enc,vS 2 word,vB 3 turned,vO 9 0 2 l1 Qaa.enc],[oS 2 164 l1 Qaa.enc]⟩⟩:=by
 unfold QdB at h
 obtain ⟨e1,h21,h⟩:=Qae h
 refine gn 5 [0,1,2,3,9,10] [0] [] (Qmt Γ rv h21 ?_)
 obtain ⟨l3,rfl⟩:∃ x,x=e1:=⟨_,rfl⟩
 replace h:(some l3:Option (List Qaa))=some _:=h
 obtain rfl:=Option.some.inj h
 exact gr 2 [] [hW 4,hH (.frz 0),rp 3 (eL l3 Qaa.enc)]
theorem Qn8 {orders l word turned} {rv:List Qaa} (h:QeT orders l word turned=some rv):AFn Tryz.prog 112 [.one (lI orders),.one (lL 2 l Qar.enc),.one (.str word),.one (.bool turned)] [] (one (lL 2 rv Qaa.enc)) []:=by
 refine QaM Tryz.func112 (by kernel_rfl) (by kernel_rfl) (fun Γ=>?_)
 unfold QeT at h
 rcases Qai h with ⟨h0,h⟩|⟨h0,h⟩
 ·obtain ⟨h1,h⟩:=Qas h
  exact gn 9 [0,1,2,3,9] [1] [nL Qar.enc l,bT h0,oO (Eq.refl ([(Qaa.mk 4 word)].map Qaa.enc).length),aN (l:=([(Qaa.mk 4 word)]:List Qaa)) Qaa.enc h1] (Qhn Γ rv h)
 ·exact gn 9 [0,1,2,3,9] [0] [nL Qar.enc l,bF h0,hW 1,hH (.adopt 9 2 164)] (Qhn Γ rv h)
def Qcw (Γ:Gam) (rv:List Qaa) (cf:Cf):Prop:=Go Tryz.prog Tryz.f112 [] Γ (one (lO 0 2 rv Qaa.enc)) [oS 2 164 rv Qaa.enc] cf
def Qf3 (Γ:Gam) (rv:List Qaa) (orders:Int) (l:List Qar) (word:ByteArray) (turned:Bool) (l2:List Qaa) (i:Int) (x0:Qar) (r:ByteArray) (twice:Bool) (k:Int):Prop:=Qcw Γ rv ⟨[.c 1001972,.l 1001972,.b 2,.c 125247,.b 1,.c 979,.l 244,.b 0,.c 31],⟨123,[vI 0 orders,vL 1 2 l Qar.enc,vS 2 word,vB 3 turned,vO 9 0 2 l2 Qaa.enc,vI 10 i,vI 11 x0.x0,vI 12 x0.x1,vS 13 (catS (catS word QbY) r),vB 14 twice,vI 15 k],[oS 2 164 l2 Qaa.enc]⟩⟩
def QfP (Γ:Gam) (rv:List Qaa) (orders:Int) (l:List Qar) (word:ByteArray) (turned:Bool) (l2:List Qaa) (i:Int) (x0:Qar) (r:ByteArray) (twice1:Bool):Prop:=Qcw Γ rv ⟨[.c 125247,.b 1,.c 979,.l 244,.b 0,.c 31],⟨123,[vI 0 orders,vL 1 2 l Qar.enc,vS 2 word,vB 3 turned,vO 9 0 2 l2 Qaa.enc,vI 10 i,vS 13 (catS (catS word QbY) r),vB 14 twice1],[oS 2 164 l2 Qaa.enc]⟩⟩
def Qf2 (Γ:Gam) (rv:List Qaa) (orders:Int) (l:List Qar) (word:ByteArray) (turned:Bool) (l2:List Qaa) (i:Int):Prop:=Qcw Γ rv ⟨[.c 244,.l 244,.b 0,.c 31],⟨123,[vI 0 orders,vL 1 2 l Qar.enc,vS 2 word,vB 3 turned,vO 9 0 2 l2 Qaa.enc,vI 10 i],[oS 2 164 l2 Qaa.enc]⟩⟩
def QfO (Γ:Gam) (rv:List Qaa) (orders:Int) (l:List Qar) (word:ByteArray) (turned:Bool) (l3:List Qaa):Prop:=Qcw Γ rv ⟨[.c 31],⟨123,[vO 9 0 2 l3 Qaa.enc],[oS 2 164 l3 Qaa.enc]⟩⟩
theorem Qkj (Γ:Gam) (rv:List Qaa) {orders l word turned l2 i x0 r} {s:Bool×Int} {e:Bool} (h:loopF (fun s=>Qdf orders l word turned l2 i x0 r s.1 s.2) s=some e) (hD:QfP Γ rv orders l word turned l2 i x0 r e):Qf3 Γ rv orders l word turned l2 i x0 r s.1 s.2:=by
 refine Qaz (C:=fun (s:Bool×Int)=>Qf3 Γ rv orders l word turned l2 i x0 r s.1 s.2) (D:=fun (e:Bool)=>QfP Γ rv orders l word turned l2 i x0 r e) ?_ h hD
 clear h hD s e
 rintro ⟨twice,k⟩ z_ h hI hE
 replace h:Qdf orders l word turned l2 i x0 r twice k=_:=h
 unfold Qdf at h
 rcases Qai h with ⟨h9,h⟩|⟨h9,h⟩
 ·rcases Qai h with ⟨h10,h⟩|⟨h10,h⟩
  ·exact gn 11 [0,1,2,3,9,10,11,12,13,14,15] [0] [bT h9,rp 8 (bT h10),rp 7 kF,rp 2 (bT h10),tT,tT,rp 7 kF,tT,tT,rp 7 kF,tT,tT] (hI _ (oJ h))
  ·obtain ⟨x1,h11,h⟩:=Qae h
   rcases Qai h with ⟨h12,h⟩|⟨h12,h⟩
   ·rcases Qai h with ⟨h13,h⟩|⟨h13,h⟩
    ·exact gn 11 [0,1,2,3,9,10,11,12,13,14,15] [0] [bT h9,rp 3 (bF h10),cE Qar.enc h11,bF h10,oO (zL 0),oO (lT 0 2),rp 4 (bF h10),rp 3 (bT h12),cE Qar.enc h11,bT h12,oO (zL 1),oO (lT 1 2),rp 3 (bT h12),bF h10,bT h12,bF h10,rp 2 (bT h13),rp 7 kF,rp 2 (bT h13),rp 7 kF,rp 2 (bT h13)] (hI _ (oJ h))
    ·rcases Qai h with ⟨h14,h⟩|⟨h14,h⟩
     ·rcases Qai h with ⟨h15,h⟩|⟨h15,h⟩
      ·exact gn 11 [0,1,2,3,9,10,11,12,13,14,15] [0] [bT h9,rp 3 (bF h10),cE Qar.enc h11,bF h10,oO (zL 0),oO (lT 0 2),rp 4 (bF h10),rp 3 (bT h12),cE Qar.enc h11,bT h12,oO (zL 1),oO (lT 1 2),rp 3 (bT h12),bF h10,bT h12,bF h10,rp 2 (bF h13),rp 3 (bT h14),cE Qar.enc h11,bT h14,oO (zL 0),oO (lT 0 2),rp 3 (bT h14),bF h13,bT h14,bF h13,rp 3 (bT h15),cE Qar.enc h11,bT h15,oO (zL 1),oO (lT 1 2),rp 3 (bT h15),bF h13,bT h15,bF h13] (hI _ (oJ h))
      ·exact gn 11 [0,1,2,3,9,10,11,12,13,14,15] [0] [bT h9,rp 3 (bF h10),cE Qar.enc h11,bF h10,oO (zL 0),oO (lT 0 2),rp 4 (bF h10),rp 3 (bT h12),cE Qar.enc h11,bT h12,oO (zL 1),oO (lT 1 2),rp 3 (bT h12),bF h10,bT h12,bF h10,rp 2 (bF h13),rp 3 (bT h14),cE Qar.enc h11,bT h14,oO (zL 0),oO (lT 0 2),rp 3 (bT h14),bF h13,bT h14,bF h13,rp 7 (bF h15),bF h13,bF h15,bF h13] (hI _ (oJ h))
     ·exact gn 11 [0,1,2,3,9,10,11,12,13,14,15] [0] [bT h9,rp 3 (bF h10),cE Qar.enc h11,bF h10,oO (zL 0),oO (lT 0 2),rp 4 (bF h10),rp 3 (bT h12),cE Qar.enc h11,bT h12,oO (zL 1),oO (lT 1 2),rp 3 (bT h12),bF h10,bT h12,bF h10,rp 2 (bF h13),rp 7 (bF h14),bF h13,bF h14,bF h13,rp 7 fF,bF h13,fF,bF h13] (hI _ (oJ h))
   ·rcases Qai h with ⟨h16,h⟩|⟨h16,h⟩
    ·rcases Qai h with ⟨h17,h⟩|⟨h17,h⟩
     ·exact gn 11 [0,1,2,3,9,10,11,12,13,14,15] [0] [bT h9,rp 3 (bF h10),cE Qar.enc h11,bF h10,oO (zL 0),oO (lT 0 2),rp 4 (bF h10),rp 7 (bF h12),bF h10,bF h12,bF h10,fF,fF,rp 3 (bT h16),cE Qar.enc h11,bT h16,oO (zL 0),oO (lT 0 2),rp 3 (bT h16),fF,bT h16,fF,rp 3 (bT h17),cE Qar.enc h11,bT h17,oO (zL 1),oO (lT 1 2),rp 3 (bT h17),fF,bT h17,fF] (hI _ (oJ h))
     ·exact gn 11 [0,1,2,3,9,10,11,12,13,14,15] [0] [bT h9,rp 3 (bF h10),cE Qar.enc h11,bF h10,oO (zL 0),oO (lT 0 2),rp 4 (bF h10),rp 7 (bF h12),bF h10,bF h12,bF h10,fF,fF,rp 3 (bT h16),cE Qar.enc h11,bT h16,oO (zL 0),oO (lT 0 2),rp 3 (bT h16),fF,bT h16,fF,rp 7 (bF h17),fF,bF h17,fF] (hI _ (oJ h))
    ·exact gn 11 [0,1,2,3,9,10,11,12,13,14,15] [0] [bT h9,rp 3 (bF h10),cE Qar.enc h11,bF h10,oO (zL 0),oO (lT 0 2),rp 4 (bF h10),rp 7 (bF h12),bF h10,bF h12,bF h10,fF,fF,rp 7 (bF h16),fF,bF h16,rp 11 fF] (hI _ (oJ h))
 ·exact gn 5 [0,1,2,3,9,10,13,14] [0] [bF h9] (hE _ (oJ h))
theorem Qki (Γ:Gam) (rv:List Qaa) {orders l word turned} {s:List Qaa×Int} {e:List Qaa} (h:loopF (fun s=>Qde orders l word turned s.1 s.2) s=some e) (hD:QfO Γ rv orders l word turned e):Qf2 Γ rv orders l word turned s.1 s.2:=by
 refine Qaz (C:=fun (s:List Qaa×Int)=>Qf2 Γ rv orders l word turned s.1 s.2) (D:=fun (e:List Qaa)=>QfO Γ rv orders l word turned e) ?_ h hD
 clear h hD s e
 rintro ⟨l2,i⟩ z_ h hI hE
 replace h:Qde orders l word turned l2 i=_:=h
 unfold Qde at h
 rcases Qai h with ⟨h2,h⟩|⟨h2,h⟩
 ·obtain ⟨x0,h3,h⟩:=Qae h
  obtain ⟨h4,h⟩:=Qas h
  obtain ⟨r,h5,h⟩:=Qae h
  obtain ⟨h6,h⟩:=Qas h
  rcases Qai h with ⟨h7,h⟩|⟨h7,h⟩
  ·obtain ⟨h8,h⟩:=Qas h
   exact gn 22 [0,1,2,3,9,10] [2] [nL Qar.enc l,bT h2,cE Qar.enc h3,oO (zL 0),oO (lT 0 2),cE Qar.enc h3,oO (zL 1),oO (lT 1 2),oO (h4),cC (Qec h5),rp 15 hP,oO (h6),rp 2 (oI ((ltI x0.x0 0)=false)),oR True ((ltI x0.x0 0)=false),oI (((ltI x0.x0 0)||(geI x0.x0 orders))=false),oR True (((ltI x0.x0 0)||(geI x0.x0 orders))=false),rp 2 (oI ((((ltI x0.x0 0)||(geI x0.x0 orders))||(ltI x0.x1 0))=false)),oR True ((((ltI x0.x0 0)||(geI x0.x0 orders))||(ltI x0.x1 0))=false),rp 2 (oI (((((ltI x0.x0 0)||(geI x0.x0 orders))||(ltI x0.x1 0))||(geI x0.x1 orders))=false)),oR True (((((ltI x0.x0 0)||(geI x0.x0 orders))||(ltI x0.x1 0))||(geI x0.x1 orders))=false),bT h7,oO (Eq.refl ([(Qaa.mk 2 (catS (catS word QbY) r))].map Qaa.enc).length),aO Qaa.enc h8] (hI _ (oJ h))
  ·obtain ⟨e0,h18,h⟩:=Qae h
   refine gn 25 [0,1,2,3,9,10,11,12,13,14,15] [0] [nL Qar.enc l,bT h2,cE Qar.enc h3,oO (zL 0),oO (lT 0 2),cE Qar.enc h3,oO (zL 1),oO (lT 1 2),oO (h4),cC (Qec h5),rp 15 hP,oO (h6),rp 2 (oI ((ltI x0.x0 0)=false)),oR True ((ltI x0.x0 0)=false),oI (((ltI x0.x0 0)||(geI x0.x0 orders))=false),oR True (((ltI x0.x0 0)||(geI x0.x0 orders))=false),rp 2 (oI ((((ltI x0.x0 0)||(geI x0.x0 orders))||(ltI x0.x1 0))=false)),oR True ((((ltI x0.x0 0)||(geI x0.x0 orders))||(ltI x0.x1 0))=false),rp 2 (oI (((((ltI x0.x0 0)||(geI x0.x0 orders))||(ltI x0.x1 0))||(geI x0.x1 orders))=false)),oR True (((((ltI x0.x0 0)||(geI x0.x0 orders))||(ltI x0.x1 0))||(geI x0.x1 orders))=false),bF h7] (Qkj Γ rv h18 ?_)
   obtain ⟨twice1,rfl⟩:∃ x,x=e0:=⟨_,rfl⟩
   replace h:(br twice1 (chk (okN (l2++[(Qaa.mk 6 (catS (catS word QbY) r))]).length 24) (some (.inl ((l2++[(Qaa.mk 6 (catS (catS word QbY) r))]),(addK .i64 i 1))))) (some (.inl (l2,(addK .i64 i 1)))):Option ((List Qaa×Int)⊕(List Qaa)))=some _:=h
   rcases Qai h with ⟨h19,h⟩|⟨h19,h⟩
   ·obtain ⟨h20,h⟩:=Qas h
    exact gn 7 [0,1,2,3,9,10] [2] [bT h19,oO (Eq.refl ([(Qaa.mk 6 (catS (catS word QbY) r))].map Qaa.enc).length),aO Qaa.enc h20] (hI _ (oJ h))
   ·exact gn 7 [0,1,2,3,9,10] [0] [bF h19] (hI _ (oJ h))
 ·exact gn 5 [9] [0] [nL Qar.enc l,bF h2] (hE _ (oJ h))
theorem QfN (Γ:Gam) (rv:List Qaa) {orders l word turned l1} (h:Qdd orders l word turned l1=some rv):Qcw Γ rv ⟨[.c 15],⟨123,[vI 0 orders,vL 1 2 l Qar.enc,vS 2 word,vB 3 turned,vO 9 0 2 l1 Qaa.enc],[oS 2 164 l1 Qaa.enc]⟩⟩:=by
 unfold Qdd at h
 obtain ⟨e1,h21,h⟩:=Qae h
 refine gn 5 [0,1,2,3,9,10] [0] [] (Qki Γ rv h21 ?_)
 obtain ⟨l3,rfl⟩:∃ x,x=e1:=⟨_,rfl⟩
 replace h:(some l3:Option (List Qaa))=some _:=h
 obtain rfl:=Option.some.inj h
 exact gr 2 [0] []
theorem QlR {orders l word turned} {rv:List Qaa} (h:QfS orders l word turned=some rv):AFn Tryz.prog 112 [.one (lI orders),.one (lL 2 l Qar.enc),.one (.str word),.one (.bool turned)] [] (one (lO 0 2 rv Qaa.enc)) [oS 2 164 rv Qaa.enc]:=by
 refine QaM Tryz.func112 (by kernel_rfl) (by kernel_rfl) (fun Γ=>?_)
 unfold QfS at h
 rcases Qai h with ⟨h0,h⟩|⟨h0,h⟩
 ·obtain ⟨h1,h⟩:=Qas h
  exact gn 9 [0,1,2,3,9] [1] [nL Qar.enc l,bT h0,oO (Eq.refl ([(Qaa.mk 4 word)].map Qaa.enc).length),aN (l:=([(Qaa.mk 4 word)]:List Qaa)) Qaa.enc h1] (QfN Γ rv h)
 ·exact gn 9 [0,1,2,3,9] [0] [nL Qar.enc l,bF h0,hW 1,hH (.adopt 9 2 164)] (QfN Γ rv h)
theorem Qoz {orders apart before} {rv:List Qaa} (h:Qfn orders apart before=some rv):AFn Tryz.prog 70 [.one (lI orders),.one (lL 2 apart Qar.enc),.one (lL 2 before Qar.enc)] [] (one (lL 2 rv Qaa.enc)) []:=by
 refine QaM Tryz.func70 (by kernel_rfl) (by kernel_rfl) (fun Γ=>?_)
 unfold Qfn at h
 obtain ⟨r,h0,h⟩:=Qae h
 obtain ⟨r1,h1,h⟩:=Qae h
 obtain ⟨h2,h⟩:=Qas h
 obtain rfl:=Option.some.inj h
 exact gr 6 [] [cC (QlR h0),cC (Qn8 h1),aO Qaa.enc h2,hW 1,hH (.frz 1),rp 2 (oO (Eq.refl ((r++r1).map Qaa.enc).length))]
def Qfq (Γ:Gam) (rv:List Qaa) (cf:Cf):Prop:=Go Tryz.prog Tryz.f65 [] Γ (one (lO 0 2 rv Qaa.enc)) [oS 2 164 rv Qaa.enc] cf
def Qen (Γ:Gam) (rv:List Qaa) (word:ByteArray) (l:List Qaa) (l1:List Qaa) (i:Int):Prop:=Qfq Γ rv ⟨[.c 116,.l 116,.b 0,.c 15],⟨40,[vS 0 word,vL 1 2 l Qaa.enc,vO 5 0 2 l1 Qaa.enc,vI 6 i],[oS 2 164 l1 Qaa.enc]⟩⟩
def Qd5 (Γ:Gam) (rv:List Qaa) (word:ByteArray) (l:List Qaa) (l2:List Qaa):Prop:=Qfq Γ rv ⟨[.c 15],⟨40,[vO 5 0 2 l2 Qaa.enc],[oS 2 164 l2 Qaa.enc]⟩⟩
theorem Qf4 (Γ:Gam) (rv:List Qaa) {word l l1 i at_} {x:(List Qaa×Int)⊕(List Qaa)} (h:QdF word l l1 i at_=some x) (hI:∀ s:List Qaa×Int,x=.inl s→Qen Γ rv word l s.1 s.2) (hE:∀ e:List Qaa,x=.inr e→Qd5 Γ rv word l e):Qfq Γ rv ⟨[.c 3731,.b 1,.c 467,.l 116,.b 0,.c 15],⟨40,[vS 0 word,vL 1 2 l Qaa.enc,vO 5 0 2 l1 Qaa.enc,vI 6 i,vS 7 at_],[oS 2 164 l1 Qaa.enc]⟩⟩:=by
 unfold QdF at h
 obtain ⟨x1,h5,h⟩:=Qae h
 obtain ⟨h6,h⟩:=Qas h
 exact gn 4 [0,1,5,6] [2] [cE Qaa.enc h5,oO (Eq.refl ([(Qaa.mk x1.err at_)].map Qaa.enc).length),aO Qaa.enc h6] (hI _ (oJ h))
theorem QkX (Γ:Gam) (rv:List Qaa) {word l} {s:List Qaa×Int} {e:List Qaa} (h:loopF (fun s=>QdG word l s.1 s.2) s=some e) (hD:Qd5 Γ rv word l e):Qen Γ rv word l s.1 s.2:=by
 refine Qaz (C:=fun (s:List Qaa×Int)=>Qen Γ rv word l s.1 s.2) (D:=fun (e:List Qaa)=>Qd5 Γ rv word l e) ?_ h hD
 clear h hD s e
 rintro ⟨l1,i⟩ z_ h hI hE
 replace h:QdG word l l1 i=_:=h
 unfold QdG at h
 rcases Qai h with ⟨h0,h⟩|⟨h0,h⟩
 ·obtain ⟨x0,h1,h⟩:=Qae h
  rcases Qai h with ⟨h2,h⟩|⟨h2,h⟩
  ·exact gn 14 [0,1,5,6,7] [0] [nL Qaa.enc l,bT h0,cE Qaa.enc h1,nF h2] (Qf4 Γ rv h hI hE)
  ·obtain ⟨h3,h⟩:=Qas h
   obtain ⟨h4,h⟩:=Qas h
   exact gn 14 [0,1,5,6,7] [0] [nL Qaa.enc l,bT h0,cE Qaa.enc h1,nT h2,oO (h3),cE Qaa.enc h1,oO (h4)] (Qf4 Γ rv h hI hE)
 ·exact gn 5 [5] [0] [nL Qaa.enc l,bF h0] (hE _ (oJ h))
theorem Qmv {word l} {rv:List Qaa} (h:QeL word l=some rv):AFn Tryz.prog 65 [.one (.str word),.one (lL 2 l Qaa.enc)] [] (one (lO 0 2 rv Qaa.enc)) [oS 2 164 rv Qaa.enc]:=by
 refine QaM Tryz.func65 (by kernel_rfl) (by kernel_rfl) (fun Γ=>?_)
 unfold QeL at h
 obtain ⟨e0,h7,h⟩:=Qae h
 refine gn 9 [0,1,5,6] [0] [hW 12,hH (.adopt 5 2 164)] (QkX Γ rv h7 ?_)
 obtain ⟨l2,rfl⟩:∃ x,x=e0:=⟨_,rfl⟩
 replace h:(some l2:Option (List Qaa))=some _:=h
 obtain rfl:=Option.some.inj h
 exact gr 2 [0] []
theorem QoA {x0} {rv:List Qaa} (h:Qfo x0=some rv):AFn Tryz.prog 23 [.agg (Qac.enc x0)] [] (one (lL 2 rv Qaa.enc)) []:=by
 refine QaM Tryz.func23 (by kernel_rfl) (by kernel_rfl) (fun Γ=>?_)
 unfold Qfo at h
 obtain ⟨r,h0,h⟩:=Qae h
 obtain ⟨r1,h1,h⟩:=Qae h
 obtain ⟨r2,h2,h⟩:=Qae h
 obtain ⟨r3,h3,h⟩:=Qae h
 obtain ⟨h4,h⟩:=Qas h
 obtain ⟨r4,h5,h⟩:=Qae h
 obtain ⟨r5,h6,h⟩:=Qae h
 obtain ⟨r6,h7,h⟩:=Qae h
 obtain ⟨h8,h⟩:=Qas h
 obtain ⟨r7,h9,h⟩:=Qae h
 obtain ⟨r8,h10,h⟩:=Qae h
 obtain ⟨h11,h⟩:=Qas h
 obtain rfl:=Option.some.inj h
 exact gr 12 [] [cC (Qou h0),cC (Qmv h1),cC (Qov h2),cC (QgW h3),aO Qaa.enc h4,hH (.draw 13 []),cC (Qek h5),nL Qah.enc x0.types,cC (Qox h6),cC (QgW h7),aO Qaa.enc h8,nL Qag.enc x0.orders,cC (Qoz h9),cC (QgW h10),aO Qaa.enc h11,hW 5,hH (.frz 4),rp 4 (oO (Eq.refl ((((r1++r3)++r6)++r8).map Qaa.enc).length))]
theorem Qga {x0} {rv:Bool} (h:QfA x0=some rv):AFn Tryz.prog 7 [.agg (Qac.enc x0)] [] (one (.bool rv)) []:=by
 refine QaM Tryz.func7 (by kernel_rfl) (by kernel_rfl) (fun Γ=>?_)
 unfold QfA at h
 rcases Qai h with ⟨h0,h⟩|⟨h0,h⟩
 ·obtain ⟨r,h1,h⟩:=Qae h
  obtain rfl:=Option.some.inj h
  exact gr 4 [] [nL Qag.enc x0.orders,bT h0,bT h0,cC (QoA h1),bT h0,nL Qaa.enc r,bT h0,bT h0]
 ·obtain rfl:=Option.some.inj h
  exact gr 4 [] [nL Qag.enc x0.orders,rp 5 (bF h0)]
theorem Qax {set_ i} {rv:Bool} (h:QbZ set_ i=some rv):AFn Tryz.prog 71 [.one (lI set_),.one (lI i)] [] (one (.bool rv)) []:=by
 refine QaM Tryz.func71 (by kernel_rfl) (by kernel_rfl) (fun Γ=>?_)
 unfold QbZ at h
 rcases Qai h with ⟨h0,h⟩|⟨h0,h⟩
 ·obtain ⟨h1,h⟩:=Qas h
  obtain rfl:=Option.some.inj h
  exact gr 4 [] [hP,hP,hP,oI ((geI i 0)=true),oR True ((geI i 0)=true),rp 3 (bT h0),oO (h1),rp 3 (bT h0)]
 ·obtain rfl:=Option.some.inj h
  exact gr 4 [] [hP,hP,hP,oI ((geI i 0)=true),oR True ((geI i 0)=true),rp 6 (bF h0)]
def QoW (Γ:Gam) (rv:List Int) (cf:Cf):Prop:=Go Tryz.prog Tryz.f26 [] Γ (one (lL 1 rv e_i64)) [] cf
def Qmp (Γ:Gam) (rv:List Int) (set_:Int) (l:List Int) (v:Int):Prop:=QoW Γ rv ⟨[.c 116,.l 116,.b 0,.c 15],⟨17,[vI 0 set_,vO 3 0 1 l e_i64,vI 5 v],[oS 1 3 l e_i64]⟩⟩
def QlE (Γ:Gam) (rv:List Int) (set_:Int) (l1:List Int):Prop:=QoW Γ rv ⟨[.c 15],⟨17,[vO 3 0 1 l1 e_i64],[oS 1 3 l1 e_i64]⟩⟩
theorem Qpm (Γ:Gam) (rv:List Int) {set_} {s:List Int×Int} {e:List Int} (h:loopF (fun s=>Qch set_ s.1 s.2) s=some e) (hD:QlE Γ rv set_ e):Qmp Γ rv set_ s.1 s.2:=by
 refine Qaz (C:=fun (s:List Int×Int)=>Qmp Γ rv set_ s.1 s.2) (D:=fun (e:List Int)=>QlE Γ rv set_ e) ?_ h hD
 clear h hD s e
 rintro ⟨l,v⟩ z_ h hI hE
 replace h:Qch set_ l v=_:=h
 unfold Qch at h
 rcases Qai h with ⟨h0,h⟩|⟨h0,h⟩
 ·obtain ⟨r,h1,h⟩:=Qae h
  rcases Qai h with ⟨h2,h⟩|⟨h2,h⟩
  ·obtain ⟨h3,h⟩:=Qas h
   exact gn 16 [0,3,5] [2] [bT h0,cC (Qax h1),bT h2,oO (Eq.refl ([v].map e_i64).length),aO e_i64 h3] (hI _ (oJ h))
  ·exact gn 16 [0,3,5] [0] [bT h0,cC (Qax h1),bF h2] (hI _ (oJ h))
 ·exact gn 5 [3] [0] [bF h0] (hE _ (oJ h))
theorem Qk0 {set_} {rv:List Int} (h:Qgm set_=some rv):AFn Tryz.prog 26 [.one (lI set_)] [] (one (lL 1 rv e_i64)) []:=by
 refine QaM Tryz.func26 (by kernel_rfl) (by kernel_rfl) (fun Γ=>?_)
 unfold Qgm at h
 obtain ⟨e0,h4,h⟩:=Qae h
 refine gn 9 [0,3,5] [0] [hW 12,hH (.adopt 3 1 3)] (Qpm Γ rv h4 ?_)
 obtain ⟨l1,rfl⟩:∃ x,x=e0:=⟨_,rfl⟩
 replace h:(some l1:Option (List Int))=some _:=h
 obtain rfl:=Option.some.inj h
 exact gr 2 [] [hW 4,hH (.frz 0),rp 3 (eL l1 e_i64)]
def Qpx (Γ:Gam) (rv:Bool) (cf:Cf):Prop:=Go Tryz.prog Tryz.f24 [] Γ (one (.bool rv)) [] cf
def QmE (Γ:Gam) (rv:Bool) (x0:Qac) (r:List Int) (v:Int):Prop:=Qpx Γ rv ⟨[.c 116,.l 116,.b 0,.c 15],⟨32,[vP 2 0 6,vL 19 1 r e_i64,vI 20 (lenI r),vI 21 v],[oX 6 30 (Qac.enc x0)]⟩⟩
def Ql0 (Γ:Gam) (rv:Bool) (x0:Qac) (r:List Int):Prop:=Qpx Γ rv ⟨[.c 15],⟨32,[],[]⟩⟩
theorem QpE (Γ:Gam) (rv:Bool) {x0 r} {s:Int} {e:(Unit)⊕(Bool)} (h:loopF (fun s=>Qdb x0 r s) s=some e) (hD:sel e (fun e=>Ql0 Γ rv x0 r) (fun e=>e=rv)):QmE Γ rv x0 r s:=by
 refine Qaz (C:=fun (s:Int)=>QmE Γ rv x0 r s) (D:=fun (e:(Unit)⊕(Bool))=>sel e (fun e=>Ql0 Γ rv x0 r) (fun e=>e=rv)) ?_ h hD
 clear h hD s e
 intro v z_ h hI hE
 replace h:Qdb x0 r v=_:=h
 unfold Qdb at h
 rcases Qai h with ⟨h4,h⟩|⟨h4,h⟩
 ·obtain ⟨x1,h5,h⟩:=Qae h
  obtain ⟨x2,h6,h⟩:=Qae h
  rcases Qai h with ⟨h7,h⟩|⟨h7,h⟩
  ·obtain rfl:=(hE _ (oJ h):_=rv)
   exact gr 14 [] [bT h4,cE e_i64 h5,cE Qag.enc h6,bT h7]
  ·exact gn 16 [2,19,20,21] [0] [bT h4,cE e_i64 h5,cE Qag.enc h6,bF h7] (hI _ (oJ h))
 ·exact gn 5 [] [] [bF h4] (hE _ (oJ h))
theorem QlK {x0 set_} {rv:Bool} (h:Qk4 x0 set_=some rv):AFn Tryz.prog 24 [.agg (Qac.enc x0),.one (lI set_)] [] (one (.bool rv)) []:=by
 refine QaM Tryz.func24 (by kernel_rfl) (by kernel_rfl) (fun Γ=>?_)
 unfold Qk4 at h
 rcases Qai h with ⟨h0,h⟩|⟨h0,h⟩
 ·obtain rfl:=Option.some.inj h
  exact gr 8 [] [rp 8 (bT h0),tT]
 ·obtain ⟨h1,h⟩:=Qas h
  rcases Qai h with ⟨h2,h⟩|⟨h2,h⟩
  ·obtain rfl:=Option.some.inj h
   exact gr 8 [] [rp 4 (bF h0),nL Qag.enc x0.orders,bF h0,bF h0,oO (h1),bF h0,bF h0,bT h2]
  ·obtain ⟨r,h3,h⟩:=Qae h
   obtain ⟨e0,h8,h⟩:=Qae h
   refine gn 12 [2,19,20,21] [0] [rp 4 (bF h0),nL Qag.enc x0.orders,bF h0,bF h0,oO (h1),bF h0,bF h0,bF h2,cC (Qk0 h3),nL e_i64 r] (QpE Γ rv h8 ?_)
   rcases e0 with e0|e0
   ·replace h:(some true:Option Bool)=some _:=h
    obtain rfl:=Option.some.inj h
    exact gr 2 [] []
   ·obtain ⟨r1,rfl⟩:∃ x,x=e0:=⟨_,rfl⟩
    replace h:(some r1:Option Bool)=some _:=h
    exact Option.some.inj h
def Qjg (Γ:Gam) (rv:Bool) (cf:Cf):Prop:=Go Tryz.prog Tryz.f25 [] Γ (one (.bool rv)) [] cf
def Ql1 (Γ:Gam) (rv:Bool) (x0:Qac) (set_:Int) (v:Int):Prop:=Qjg Γ rv ⟨[.c 52,.l 52,.b 0,.c 7],⟨46,[vI 1 set_,vP 2 0 6,vL 10 2 x0.apart Qar.enc,vI 11 (lenI x0.apart),vI 12 v],[oX 6 30 (Qac.enc x0)]⟩⟩
def Qk5 (Γ:Gam) (rv:Bool) (x0:Qac) (set_:Int):Prop:=Qjg Γ rv ⟨[.c 7],⟨46,[vI 1 set_,vP 2 0 6],[oX 6 30 (Qac.enc x0)]⟩⟩
def Ql2 (Γ:Gam) (rv:Bool) (x0:Qac) (set_:Int) (v1:Int):Prop:=Qjg Γ rv ⟨[.c 116,.l 116,.b 2,.c 15],⟨46,[vI 1 set_,vL 28 2 x0.before Qar.enc,vI 29 (lenI x0.before),vI 30 v1],[]⟩⟩
def Qk6 (Γ:Gam) (rv:Bool) (x0:Qac) (set_:Int):Prop:=Qjg Γ rv ⟨[.c 15],⟨46,[],[]⟩⟩
theorem Qo8 (Γ:Gam) (rv:Bool) {x0 set_} {s:Int} {e:(Unit)⊕(Bool)} (h:loopF (fun s=>QcF x0 set_ s) s=some e) (hD:sel e (fun e=>Qk5 Γ rv x0 set_) (fun e=>e=rv)):Ql1 Γ rv x0 set_ s:=by
 refine Qaz (C:=fun (s:Int)=>Ql1 Γ rv x0 set_ s) (D:=fun (e:(Unit)⊕(Bool))=>sel e (fun e=>Qk5 Γ rv x0 set_) (fun e=>e=rv)) ?_ h hD
 clear h hD s e
 intro v z_ h hI hE
 replace h:QcF x0 set_ v=_:=h
 unfold QcF at h
 rcases Qai h with ⟨h0,h⟩|⟨h0,h⟩
 ·obtain ⟨x1,h1,h⟩:=Qae h
  obtain ⟨r,h2,h⟩:=Qae h
  rcases Qai h with ⟨h3,h⟩|⟨h3,h⟩
  ·obtain ⟨r1,h4,h⟩:=Qae h
   rcases Qai h with ⟨h5,h⟩|⟨h5,h⟩
   ·obtain rfl:=(hE _ (oJ h):_=rv)
    exact gr 14 [] [bT h0,cE Qar.enc h1,oO (zL 0),oO (lT 0 2),cC (Qax h2),bT h3,bT h3,oO (zL 1),oO (lT 1 2),bT h3,bT h3,cC (Qax h4),bT h3,bT h5]
   ·exact gn 16 [1,2,10,11,12] [0] [bT h0,cE Qar.enc h1,oO (zL 0),oO (lT 0 2),cC (Qax h2),bT h3,bT h3,oO (zL 1),oO (lT 1 2),bT h3,bT h3,cC (Qax h4),bT h3,bF h5] (hI _ (oJ h))
  ·exact gn 16 [1,2,10,11,12] [0] [bT h0,cE Qar.enc h1,oO (zL 0),oO (lT 0 2),cC (Qax h2),rp 5 (bF h3),fF] (hI _ (oJ h))
 ·exact gn 5 [1,2] [0] [bF h0] (hE _ (oJ h))
theorem Qo9 (Γ:Gam) (rv:Bool) {x0 set_} {s:Int} {e:(Unit)⊕(Bool)} (h:loopF (fun s=>Qce x0 set_ s) s=some e) (hD:sel e (fun e=>Qk6 Γ rv x0 set_) (fun e=>e=rv)):Ql2 Γ rv x0 set_ s:=by
 refine Qaz (C:=fun (s:Int)=>Ql2 Γ rv x0 set_ s) (D:=fun (e:(Unit)⊕(Bool))=>sel e (fun e=>Qk6 Γ rv x0 set_) (fun e=>e=rv)) ?_ h hD
 clear h hD s e
 intro v1 z_ h hI hE
 replace h:Qce x0 set_ v1=_:=h
 unfold Qce at h
 rcases Qai h with ⟨h7,h⟩|⟨h7,h⟩
 ·obtain ⟨x2,h8,h⟩:=Qae h
  obtain ⟨r2,h9,h⟩:=Qae h
  rcases Qai h with ⟨h10,h⟩|⟨h10,h⟩
  ·obtain ⟨r3,h11,h⟩:=Qae h
   rcases Qai h with ⟨h12,h⟩|⟨h12,h⟩
   ·exact gn 16 [1,28,29,30] [] [bT h7,cE Qar.enc h8,oO (zL 1),oO (lT 1 2),cC (Qax h9),rp 2 (bT h10),oO (zL 0),oO (lT 0 2),rp 2 (bT h10),cC (Qax h11),rp 2 (bT h10),nF h12] (hI _ (oJ h))
   ·obtain rfl:=(hE _ (oJ h):_=rv)
    exact gr 14 [] [bT h7,cE Qar.enc h8,oO (zL 1),oO (lT 1 2),cC (Qax h9),rp 2 (bT h10),oO (zL 0),oO (lT 0 2),rp 2 (bT h10),cC (Qax h11),rp 2 (bT h10),nT h12]
  ·exact gn 16 [1,28,29,30] [] [bT h7,cE Qar.enc h8,oO (zL 1),oO (lT 1 2),cC (Qax h9),rp 6 (bF h10),fF] (hI _ (oJ h))
 ·exact gn 5 [] [] [bF h7] (hE _ (oJ h))
theorem QnQ {x0 set_} {rv:Bool} (h:Qjw x0 set_=some rv):AFn Tryz.prog 25 [.agg (Qac.enc x0),.one (lI set_)] [] (one (.bool rv)) []:=by
 refine QaM Tryz.func25 (by kernel_rfl) (by kernel_rfl) (fun Γ=>?_)
 unfold Qjw at h
 obtain ⟨e0,h6,h⟩:=Qae h
 refine gn 7 [1,2,10,11,12] [0] [nL Qar.enc x0.apart] (Qo8 Γ rv h6 ?_)
 rcases e0 with e0|e0
 ·replace h:(bnd (loopF (fun s=>Qce x0 set_ s) 0) (fun e=>sel e (fun (_:Unit)=>some true) (fun r4=>some r4)):Option Bool)=some _:=h
  obtain ⟨e1,h13,h⟩:=Qae h
  refine gn 5 [1,28,29,30] [] [nL Qar.enc x0.before] (Qo9 Γ rv h13 ?_)
  rcases e1 with e1|e1
  ·replace h:(some true:Option Bool)=some _:=h
   obtain rfl:=Option.some.inj h
   exact gr 2 [] []
  ·obtain ⟨r4,rfl⟩:∃ x,x=e1:=⟨_,rfl⟩
   replace h:(some r4:Option Bool)=some _:=h
   exact Option.some.inj h
 ·obtain ⟨r5,rfl⟩:∃ x,x=e0:=⟨_,rfl⟩
  replace h:(some r5:Option Bool)=some _:=h
  exact Option.some.inj h
theorem Qeu {t skills} {rv:Bool} (h:QgF t skills=some rv):AFn Tryz.prog 27 [.agg (Qah.enc t),.one (lI skills)] [] (one (.bool rv)) []:=by
 refine QaM Tryz.func27 (by kernel_rfl) (by kernel_rfl) (fun Γ=>?_)
 unfold QgF at h
 obtain rfl:=Option.some.inj h
 exact gr 4 [] [rp 9 hP,oI ((geI t.skills 0)=true),oR True ((geI t.skills 0)=true),rp 4 (oI (((geI t.skills 0)&&(geI skills 0))=true)),oR True (((geI t.skills 0)&&(geI skills 0))=true)]
theorem Qr8 {a b} {rv:Int} (h:Qot a b=some rv):AFn Tryz.prog 73 [.one (lI a),.one (lI b)] [] (one (lI rv)) []:=by
 refine QaM Tryz.func73 (by kernel_rfl) (by kernel_rfl) (fun Γ=>?_)
 unfold Qot at h
 obtain rfl:=Option.some.inj h
 exact gr 4 [] []
def Qjy (Γ:Gam) (rv:List Int×Int) (cf:Cf):Prop:=Go Tryz.prog Tryz.f72 [] Γ (.tup [.one (lL 1 rv.1 e_i64),.one (lI rv.2)]) [] cf
def Qhd (Γ:Gam) (rv:List Int×Int) (a:List Int) (b:List Int) (l:List Int) (l1:List Int) (v:Int):Prop:=Qjy Γ rv ⟨[.c 244,.l 244,.b 0,.c 31],⟨38,[vL 0 1 a e_i64,vL 1 1 b e_i64,(2,one (.fn (.func 73) [])),vO 8 0 1 l1 e_i64,vI 19 (lenI a),vI 20 v],[oS 1 3 l1 e_i64]⟩⟩
def QgJ (Γ:Gam) (rv:List Int×Int) (a:List Int) (b:List Int) (l:List Int) (l2:List Int):Prop:=Qjy Γ rv ⟨[.c 31],⟨38,[vO 8 0 1 l2 e_i64],[oS 1 3 l2 e_i64]⟩⟩
theorem QlM (Γ:Gam) (rv:List Int×Int) {a b l} {s:List Int×Int} {e:List Int} (h:loopF (fun s=>Qbc a b l s.1 s.2) s=some e) (hD:QgJ Γ rv a b l e):Qhd Γ rv a b l s.1 s.2:=by
 refine Qaz (C:=fun (s:List Int×Int)=>Qhd Γ rv a b l s.1 s.2) (D:=fun (e:List Int)=>QgJ Γ rv a b l e) ?_ h hD
 clear h hD s e
 rintro ⟨l1,v⟩ z_ h hI hE
 replace h:Qbc a b l l1 v=_:=h
 unfold Qbc at h
 rcases Qai h with ⟨h2,h⟩|⟨h2,h⟩
 ·obtain ⟨x0,h3,h⟩:=Qae h
  obtain ⟨x1,h4,h⟩:=Qae h
  obtain ⟨r,h5,h⟩:=Qae h
  obtain ⟨x2,h6,h⟩:=Qae h
  exact gn 13 [0,1,2,8,19,20] [0] [bT h2,hH (.draw 13 []),cE e_i64 h3,cE e_i64 h4,cC (Qr8 h5),oO (getLo h6),oO (getHi e_i64 h6),rE e_i64 h6,hH (.rows ((setI l1 v r).map e_i64)),hH (.relen 0 ((setI l1 v r).map e_i64).length),oO (setM e_i64 l1 v r),rp 2 (oO (Qxw e_i64 l1 v r))] (hI _ (oJ h))
 ·exact gn 5 [8] [0] [bF h2] (hE _ (oJ h))
theorem Qns {a b} {rv:List Int×Int} (h:Qfz a b=some rv):AFn Tryz.prog 72 [.one (lL 1 a e_i64),.one (lL 1 b e_i64),.one (.fn (.func 73) [])] [] (.tup [.one (lL 1 rv.1 e_i64),.one (lI rv.2)]) []:=by
 refine QaM Tryz.func72 (by kernel_rfl) (by kernel_rfl) (fun Γ=>?_)
 unfold Qfz at h
 rcases Qai h with ⟨h0,h⟩|⟨h0,h⟩
 ·obtain rfl:=Option.some.inj h
  exact gr 8 [] [nL e_i64 a,nL e_i64 b,bT h0,hW 4,hH (.nilS 6 0 1)]
 ·obtain ⟨l,h1,h⟩:=Qae h
  obtain ⟨e0,h7,h⟩:=Qae h
  refine gn 14 [0,1,2,8,19,20] [0] [nL e_i64 a,nL e_i64 b,bF h0,nL e_i64 a,hH (.cells [lI 0]),hH (.rows (l.map e_i64)),oO (mk1 h1),oO (mk2 h1),oO (mk3 h1),oO (mk4 h1),oO (mk5 e_i64 h1),nL e_i64 a] (QlM Γ rv h7 ?_)
  obtain ⟨l2,rfl⟩:∃ x,x=e0:=⟨_,rfl⟩
  replace h:(some (l2,0):Option (List Int×Int))=some _:=h
  obtain rfl:=Option.some.inj h
  exact gr 2 [] [hW 5,hH (.frz 0),rp 3 (eL l2 e_i64)]
theorem Qqp {a b} {rv:List Int×Int} (h:Qnn a b=some rv):AFn Tryz.prog 28 [.one (lL 1 a e_i64),.one (lL 1 b e_i64)] [] (.tup [.one (lL 1 rv.1 e_i64),.one (lI rv.2)]) []:=by
 refine QaM Tryz.func28 (by kernel_rfl) (by kernel_rfl) (fun Γ=>?_)
 unfold Qnn at h
 obtain ⟨r,h0,h⟩:=Qae h
 obtain rfl:=Option.some.inj h
 exact gr 4 [] [cC (Qns h0)]
def Qqq (Γ:Gam) (rv:Bool) (cf:Cf):Prop:=Go Tryz.prog Tryz.f29 [] Γ (one (.bool rv)) [] cf
def QnR (Γ:Gam) (rv:Bool) (a:List Int) (capacity:List Int) (v:Int):Prop:=Qqq Γ rv ⟨[.c 116,.l 116,.b 0,.c 15],⟨26,[vL 1 1 capacity e_i64,vL 12 1 a e_i64,vI 13 (lenI a),vI 14 v],[]⟩⟩
def QmJ (Γ:Gam) (rv:Bool) (a:List Int) (capacity:List Int):Prop:=Qqq Γ rv ⟨[.c 15],⟨26,[],[]⟩⟩
theorem Qqr (Γ:Gam) (rv:Bool) {a capacity} {s:Int} {e:(Unit)⊕(Bool)} (h:loopF (fun s=>QdN a capacity s) s=some e) (hD:sel e (fun e=>QmJ Γ rv a capacity) (fun e=>e=rv)):QnR Γ rv a capacity s:=by
 refine Qaz (C:=fun (s:Int)=>QnR Γ rv a capacity s) (D:=fun (e:(Unit)⊕(Bool))=>sel e (fun e=>QmJ Γ rv a capacity) (fun e=>e=rv)) ?_ h hD
 clear h hD s e
 intro v z_ h hI hE
 replace h:QdN a capacity v=_:=h
 unfold QdN at h
 rcases Qai h with ⟨h1,h⟩|⟨h1,h⟩
 ·obtain ⟨x0,h2,h⟩:=Qae h
  obtain ⟨x1,h3,h⟩:=Qae h
  rcases Qai h with ⟨h4,h⟩|⟨h4,h⟩
  ·obtain rfl:=(hE _ (oJ h):_=rv)
   exact gr 14 [] [bT h1,cE e_i64 h2,cE e_i64 h3,bT h4]
  ·exact gn 16 [1,12,13,14] [] [bT h1,cE e_i64 h2,cE e_i64 h3,bF h4] (hI _ (oJ h))
 ·exact gn 5 [] [] [bF h1] (hE _ (oJ h))
theorem Qfe {a capacity} {rv:Bool} (h:QgH a capacity=some rv):AFn Tryz.prog 29 [.one (lL 1 a e_i64),.one (lL 1 capacity e_i64)] [] (one (.bool rv)) []:=by
 refine QaM Tryz.func29 (by kernel_rfl) (by kernel_rfl) (fun Γ=>?_)
 unfold QgH at h
 rcases Qai h with ⟨h0,h⟩|⟨h0,h⟩
 ·obtain rfl:=Option.some.inj h
  exact gr 8 [] [nL e_i64 a,nL e_i64 capacity,bT h0]
 ·obtain ⟨e0,h5,h⟩:=Qae h
  refine gn 12 [1,12,13,14] [] [nL e_i64 a,nL e_i64 capacity,bF h0,nL e_i64 a] (Qqr Γ rv h5 ?_)
  rcases e0 with e0|e0
  ·replace h:(some true:Option Bool)=some _:=h
   obtain rfl:=Option.some.inj h
   exact gr 2 [] []
  ·obtain ⟨r,rfl⟩:∃ x,x=e0:=⟨_,rfl⟩
   replace h:(some r:Option Bool)=some _:=h
   exact Option.some.inj h
theorem Qpy {t l} {rv:List Qad} (h:Qjx t l=some rv):AFn Tryz.prog 30 [.agg (Qah.enc t),.agg (Qad.enc l)] [] (one (lL 9 rv Qad.enc)) []:=by
 refine QaM Tryz.func30 (by kernel_rfl) (by kernel_rfl) (fun Γ=>?_)
 unfold Qjx at h
 obtain rfl:=Option.some.inj h
 exact gr 10 [] [hW 29,hH (.frz 3),rp 2 (oO (Eq.refl ([l,(Qad.mk l.type_ l.visits l.place (addK .i64 l.time t.rest_) 0 l.miles l.load l.done l.open_)].map Qad.enc).length))]
def Qpw (Γ:Gam) (rv:List Qad) (cf:Cf):Prop:=Go Tryz.prog Tryz.f9 [] Γ (one (lL 9 rv Qad.enc)) [] cf
def QmB (Γ:Gam) (rv:List Qad) (x0:Qac) (kind:Int) (x1:Qah) (l:List Int) (r2:List Int) (open_:Int) (time:Int) (load:List Int) (open_1:Int) (v:Int):Prop:=Qpw Γ rv ⟨[.c 500,.l 500,.b 0,.c 63],⟨95,[vP 3 0 6,vP 7 1 14,vP 8 2 9,vL 49 1 r2 e_i64,vI 50 (lenI r2),vI 51 v],[oX 6 30 (Qac.enc x0),oX 14 79 [.str x1.name,lI x1.count,lI x1.from_,lI x1.to_,lL 1 x1.cap e_i64,lI x1.skills,lI x1.profile,lI open_,lI x1.close,lI x1.drive,lI x1.rest_,lI x1.fixed,lI x1.perMile,lI x1.perTick],oX 9 47 [lI kind,.nils,lI x1.from_,lI time,lI 0,lI 0,lL 1 load e_i64,lI 0,lI open_1]]⟩⟩
def QlZ (Γ:Gam) (rv:List Qad) (x0:Qac) (kind:Int) (x1:Qah) (l:List Int) (r2:List Int) (open_2:Int) (time1:Int) (load1:List Int) (open_3:Int):Prop:=Qpw Γ rv ⟨[.c 63],⟨95,[vP 7 0 14,vP 8 1 9],[oX 14 79 [.str x1.name,lI x1.count,lI x1.from_,lI x1.to_,lL 1 x1.cap e_i64,lI x1.skills,lI x1.profile,lI open_2,lI x1.close,lI x1.drive,lI x1.rest_,lI x1.fixed,lI x1.perMile,lI x1.perTick],oX 9 47 [lI kind,.nils,lI x1.from_,lI time1,lI 0,lI 0,lL 1 load1 e_i64,lI 0,lI open_3]]⟩⟩
theorem QpD (Γ:Gam) (rv:List Qad) {x0 kind x1 l r2} {s:Int×Int×List Int×Int×Int} {e:(Int×Int×List Int×Int)⊕(List Qad)} (h:loopF (fun s=>QeA x0 kind x1 l r2 s.1 s.2.1 s.2.2.1 s.2.2.2.1 s.2.2.2.2) s=some e) (hD:sel e (fun e=>QlZ Γ rv x0 kind x1 l r2 e.1 e.2.1 e.2.2.1 e.2.2.2) (fun e=>e=rv)):QmB Γ rv x0 kind x1 l r2 s.1 s.2.1 s.2.2.1 s.2.2.2.1 s.2.2.2.2:=by
 refine Qaz (C:=fun (s:Int×Int×List Int×Int×Int)=>QmB Γ rv x0 kind x1 l r2 s.1 s.2.1 s.2.2.1 s.2.2.2.1 s.2.2.2.2) (D:=fun (e:(Int×Int×List Int×Int)⊕(List Qad))=>sel e (fun e=>QlZ Γ rv x0 kind x1 l r2 e.1 e.2.1 e.2.2.1 e.2.2.2) (fun e=>e=rv)) ?_ h hD
 clear h hD s e
 rintro ⟨open_,time,load,open_1,v⟩ z_ h hI hE
 replace h:QeA x0 kind x1 l r2 open_ time load open_1 v=_:=h
 unfold QeA at h
 rcases Qai h with ⟨h8,h⟩|⟨h8,h⟩
 ·obtain ⟨x2,h9,h⟩:=Qae h
  obtain ⟨x3,h10,h⟩:=Qae h
  obtain ⟨r3,h11,h⟩:=Qae h
  rcases Qai h with ⟨h12,h⟩|⟨h12,h⟩
  ·rcases Qai h with ⟨h13,h⟩|⟨h13,h⟩
   ·obtain ⟨r4,h14,h⟩:=Qae h
    obtain ⟨h15,h⟩:=Qas h
    exact gn 25 [3,7,8,49,50,51] [0,1,2] [bT h8,cE e_i64 h9,cE Qag.enc h10,cC (Qeu h11),nF h12,bT h13,cC (Qqp h14),oO (h15)] (hI _ (oJ h))
   ·exact gn 23 [3,7,8,49,50,51] [0,1,2] [bT h8,cE e_i64 h9,cE Qag.enc h10,cC (Qeu h11),nF h12,bF h13] (hI _ (oJ h))
  ·obtain rfl:=(hE _ (oJ h):_=rv)
   exact gr 17 [] [bT h8,cE e_i64 h9,cE Qag.enc h10,cC (Qeu h11),nT h12,hW 3,hH (.nilS 6 0 9)]
 ·exact gn 5 [7,8] [1,2] [bF h8] (hE _ (oJ h))
theorem Qci {x0 kind set_} {rv:List Qad} (h:Qgq x0 kind set_=some rv):AFn Tryz.prog 9 [.agg (Qac.enc x0),.one (lI kind),.one (lI set_)] [] (one (lL 9 rv Qad.enc)) []:=by
 refine QaM Tryz.func9 (by kernel_rfl) (by kernel_rfl) (fun Γ=>?_)
 unfold Qgq at h
 rcases Qai h with ⟨h0,h⟩|⟨h0,h⟩
 ·obtain rfl:=Option.some.inj h
  exact gr 8 [] [rp 4 hP,rp 2 (oI ((ltI kind 0)=false)),nL Qah.enc x0.types,hP,hP,rp 2 (oI ((ltI kind 0)=false)),oR True ((ltI kind 0)=false),rp 5 (bT h0),rp 6 tT,hW 3,hH (.nilS 6 0 9)]
 ·obtain ⟨r,h1,h⟩:=Qae h
  rcases Qai h with ⟨h2,h⟩|⟨h2,h⟩
  ·obtain ⟨r1,h3,h⟩:=Qae h
   rcases Qai h with ⟨h4,h⟩|⟨h4,h⟩
   ·obtain ⟨x1,h5,h⟩:=Qae h
    obtain ⟨l,h6,h⟩:=Qae h
    obtain ⟨r2,h7,h⟩:=Qae h
    obtain ⟨e0,h16,h⟩:=Qae h
    refine gn 16 [3,7,8,49,50,51] [0,1,3] [rp 4 hP,rp 2 (oI ((ltI kind 0)=false)),nL Qah.enc x0.types,hP,hP,rp 2 (oI ((ltI kind 0)=false)),oR True ((ltI kind 0)=false),rp 3 (bF h0),cC (QlK h1),bF h0,bF h0,rp 3 (nF h2),cC (QnQ h3),nF h2,nF h2,nF h4,cE Qah.enc h5,hH (.draw 11 []),nL e_i64 x1.cap,hH (.cells [lI 0]),hH (.rows (l.map e_i64)),oO (mk1 h6),oO (mk2 h6),oO (mk3 h6),oO (mk4 h6),oO (mk5 e_i64 h6),cC (Qk0 h7),nL e_i64 r2,hW 3,hH (.frz 2),rp 3 (eL l e_i64)] (QpD Γ rv h16 ?_)
    rcases e0 with e0|e0
    ·obtain ⟨open_2,time1,load1,open_3⟩:=e0
     replace h:(bnd (QgH load1 x1.cap) fun r5=>br r5 (bnd (Qjx (Qah.mk x1.name x1.count x1.from_ x1.to_ x1.cap x1.skills x1.profile open_2 x1.close x1.drive x1.rest_ x1.fixed x1.perMile x1.perTick) (Qad.mk kind [] x1.from_ time1 0 0 load1 0 open_3)) fun r6=>some r6) (some []):Option (List Qad))=some _:=h
     obtain ⟨r5,h17,h⟩:=Qae h
     rcases Qai h with ⟨h18,h⟩|⟨h18,h⟩
     ·obtain ⟨r6,h19,h⟩:=Qae h
      obtain rfl:=Option.some.inj h
      exact gr 7 [] [cC (Qfe h17),nF h18,hW 5,hH (.nilS 93 1 2),cC (Qpy h19)]
     ·obtain rfl:=Option.some.inj h
      exact gr 6 [] [cC (Qfe h17),nT h18,hW 3,hH (.nilS 6 0 9)]
    ·obtain ⟨r7,rfl⟩:∃ x,x=e0:=⟨_,rfl⟩
     replace h:(some r7:Option (List Qad))=some _:=h
     exact Option.some.inj h
   ·obtain rfl:=Option.some.inj h
    exact gr 8 [] [rp 4 hP,rp 2 (oI ((ltI kind 0)=false)),nL Qah.enc x0.types,hP,hP,rp 2 (oI ((ltI kind 0)=false)),oR True ((ltI kind 0)=false),rp 3 (bF h0),cC (QlK h1),bF h0,bF h0,rp 3 (nF h2),cC (QnQ h3),nF h2,nF h2,nT h4,hW 3,hH (.nilS 6 0 9)]
  ·obtain rfl:=Option.some.inj h
   exact gr 8 [] [rp 4 hP,rp 2 (oI ((ltI kind 0)=false)),nL Qah.enc x0.types,hP,hP,rp 2 (oI ((ltI kind 0)=false)),oR True ((ltI kind 0)=false),rp 3 (bF h0),cC (QlK h1),bF h0,bF h0,rp 5 (nT h2),tT,hW 3,hH (.nilS 6 0 9)]
theorem Qcm {n i} {rv:Bool} (h:QgC n i=some rv):AFn Tryz.prog 78 [.agg (Qak.enc n),.one (lI i)] [] (one (.bool rv)) []:=by
 refine QaM Tryz.func78 (by kernel_rfl) (by kernel_rfl) (fun Γ=>?_)
 unfold QgC at h
 obtain rfl:=Option.some.inj h
 exact gr 4 [] [rp 4 hP,rp 2 (oI ((geI i 0)=true)),nL e_str n.places,hP,hP,rp 2 (oI ((geI i 0)=true)),oR True ((geI i 0)=true)]
theorem Qm2 {a} {rv:Qgo} (h:QkG a=some rv):AFn Tryz.prog 114 [.agg (Qan.enc a)] [] (gG [lI rv.from_,lI rv.to_,lI rv.profile]) []:=by
 refine QaM Tryz.func114 (by kernel_rfl) (by kernel_rfl) (fun Γ=>?_)
 unfold QkG at h
 obtain rfl:=Option.some.inj h
 exact gr 4 [] []
def QoD (Γ:Gam) (rv:Qan×Bool) (cf:Cf):Prop:=Go Tryz.prog Tryz.f79 [] Γ (.tup [.agg [lI rv.1.from_,lI rv.1.to_,lI rv.1.profile,lI rv.1.miles,lL 2 rv.1.travel Qaj.enc,lL 2 rv.1.slow Qaj.enc],.one (.bool rv.2)]) [] cf
def Qmg (Γ:Gam) (rv:Qan×Bool) (n:Qak) (profile:Int) (from_:Int) (to_:Int) (v:Int):Prop:=QoD Γ rv ⟨[.c 116,.l 116,.b 0,.c 15],⟨31,[vP 8 0 6,vP 10 1 3,vL 18 6 n.arcs Qan.enc,vI 19 (lenI n.arcs),vI 20 v],[oX 6 77 [lI 0,lI 0,lI 0,lI 0,.nils,.nils],oX 3 173 [lI from_,lI to_,lI profile]]⟩⟩
def Qln (Γ:Gam) (rv:Qan×Bool) (n:Qak) (profile:Int) (from_:Int) (to_:Int):Prop:=QoD Γ rv ⟨[.c 15],⟨31,[vP 8 0 6],[oX 6 77 [lI 0,lI 0,lI 0,lI 0,.nils,.nils]]⟩⟩
theorem Qpa (Γ:Gam) (rv:Qan×Bool) {n profile from_ to_} {s:Int} {e:(Unit)⊕(Qan×Bool)} (h:loopF (fun s=>Qe0 n profile from_ to_ s) s=some e) (hD:sel e (fun e=>Qln Γ rv n profile from_ to_) (fun e=>e=rv)):Qmg Γ rv n profile from_ to_ s:=by
 refine Qaz (C:=fun (s:Int)=>Qmg Γ rv n profile from_ to_ s) (D:=fun (e:(Unit)⊕(Qan×Bool))=>sel e (fun e=>Qln Γ rv n profile from_ to_) (fun e=>e=rv)) ?_ h hD
 clear h hD s e
 intro v z_ h hI hE
 replace h:Qe0 n profile from_ to_ v=_:=h
 unfold Qe0 at h
 rcases Qai h with ⟨h0,h⟩|⟨h0,h⟩
 ·obtain ⟨x0,h1,h⟩:=Qae h
  obtain ⟨r,h2,h⟩:=Qae h
  rcases Qai h with ⟨h3,h⟩|⟨h3,h⟩
  ·obtain rfl:=(hE _ (oJ h):_=rv)
   exact gr 14 [] [bT h0,cE Qan.enc h1,hH (.draw 4 []),cC (Qm2 h2),bT h3]
  ·exact gn 16 [8,10,18,19,20] [0,1] [bT h0,cE Qan.enc h1,hH (.draw 4 []),cC (Qm2 h2),bF h3] (hI _ (oJ h))
 ·exact gn 5 [8] [0] [bF h0] (hE _ (oJ h))
theorem QnS {n profile from_ to_} {rv:Qan×Bool} (h:Qj1 n profile from_ to_=some rv):AFn Tryz.prog 79 [.agg (Qak.enc n),.one (lI profile),.one (lI from_),.one (lI to_)] [] (.tup [.agg [lI rv.1.from_,lI rv.1.to_,lI rv.1.profile,lI rv.1.miles,lL 2 rv.1.travel Qaj.enc,lL 2 rv.1.slow Qaj.enc],.one (.bool rv.2)]) []:=by
 refine QaM Tryz.func79 (by kernel_rfl) (by kernel_rfl) (fun Γ=>?_)
 unfold Qj1 at h
 obtain ⟨e0,h4,h⟩:=Qae h
 refine gn 9 [8,10,18,19,20] [1,2] [nL Qan.enc n.arcs] (Qpa Γ rv h4 ?_)
 rcases e0 with e0|e0
 ·replace h:(some ((Qan.mk 0 0 0 0 [] []),false):Option (Qan×Bool))=some _:=h
  obtain rfl:=Option.some.inj h
  exact gr 2 [] [hW 5,hH (.nilB 0 4 2),hH (.nilB 0 5 2)]
 ·obtain ⟨r1,rfl⟩:∃ x,x=e0:=⟨_,rfl⟩
  replace h:(some r1:Option (Qan×Bool))=some _:=h
  exact Option.some.inj h
theorem Qfv {n least most} {rv:Bool} (h:Qez n least most=some rv):AFn Tryz.prog 139 [.one (lI n),.one (lI least),.one (lI most)] [] (one (.bool rv)) []:=by
 refine QaM Tryz.func139 (by kernel_rfl) (by kernel_rfl) (fun Γ=>?_)
 unfold Qez at h
 obtain rfl:=Option.some.inj h
 exact gr 4 [] [rp 4 hP,rp 2 (oI ((geI n least)=true)),oR True ((geI n least)=true)]
theorem QqN {i} {rv:ByteArray} (h:Qnd i=some rv):AFn Tryz.prog 164 [.one (lI i)] [] (one (.str rv)) []:=by
 refine QaM Tryz.func164 (by kernel_rfl) (by kernel_rfl) (fun Γ=>?_)
 unfold Qnd at h
 rcases Qai h with ⟨h0,h⟩|⟨h0,h⟩
 ·obtain ⟨s0,h1,h⟩:=Qae h
  obtain rfl:=Option.some.inj h
  exact gr 8 [] [bT h0,oO (ss1 h1),oO (ss2 h1),oO (ss3 h1)]
 ·obtain ⟨s1,h2,h⟩:=Qae h
  obtain rfl:=Option.some.inj h
  exact gr 9 [] [bF h0,oO (ss1 h2),oO (ss2 h2),oO (ss3 h2)]
def QoZ (Γ:Gam) (rv:ByteArray) (cf:Cf):Prop:=Go Tryz.prog Tryz.f163 [] Γ (one (.str rv)) [] cf
theorem Qhv (Γ:Gam) (rv:ByteArray) {i u} (h:QeN i u=some rv):QoZ Γ rv ⟨[.c 431,.c 7],⟨54,[vI 0 i,vP 5 0 24,(6,one (.int .u64 u))],[oX 24 218 [.int .u8 0,.int .u8 0,.int .u8 0,.int .u8 0,.int .u8 0,.int .u8 0,.int .u8 0,.int .u8 0,.int .u8 0,.int .u8 0,.int .u8 0,.int .u8 0,.int .u8 0,.int .u8 0,.int .u8 0,.int .u8 0,.int .u8 0,.int .u8 0,.int .u8 0,.int .u8 0,.int .u8 0,.int .u8 0,.int .u8 0,.int .u8 0]]⟩⟩:=by
 unfold QeN at h
 obtain ⟨r1,h4,h⟩:=Qae h
 cases h
theorem Qom {i base} {rv:ByteArray} (h:QiM i base=some rv):AFn Tryz.prog 163 [.one (lI i),.one (lI base)] [] (one (.str rv)) []:=by
 refine QaM Tryz.func163 (by kernel_rfl) (by kernel_rfl) (fun Γ=>?_)
 unfold QiM at h
 rcases Qai h with ⟨h0,h⟩|⟨h0,h⟩
 ·rcases Qai h with ⟨h1,h⟩|⟨h1,h⟩
  ·obtain ⟨r,h2,h⟩:=Qae h
   obtain rfl:=Option.some.inj h
   exact gr 12 [] [bT h0,hP,hP,hP,oI ((leI 0 i)=true),oR True ((leI 0 i)=true),bT h1,cC (QqN h2)]
  ·rcases Qai h with ⟨h3,h⟩|⟨h3,h⟩
   ·exact gn 20 [0,5,6] [0] [bT h0,hP,hP,hP,oI ((leI 0 i)=true),oR True ((leI 0 i)=true),bF h1,bT h3] (Qhv Γ rv h)
   ·exact gn 20 [0,5,6] [0] [bT h0,hP,hP,hP,oI ((leI 0 i)=true),oR True ((leI 0 i)=true),bF h1,bF h3] (Qhv Γ rv h)
 ·cases h
theorem Qq2 {i} {rv:ByteArray} (h:Qon i=some rv):AFn Tryz.prog 161 [.one (lI i)] [] (one (.str rv)) []:=by
 refine QaM Tryz.func161 (by kernel_rfl) (by kernel_rfl) (fun Γ=>?_)
 unfold Qon at h
 obtain ⟨r,h0,h⟩:=Qae h
 obtain rfl:=Option.some.inj h
 exact gr 4 [] [cC (Qom h0)]
theorem Qmq {i} {rv:ByteArray} (h:Qjk i=some rv):AFn Tryz.prog 159 [.one (lI i)] [] (one (.str rv)) []:=by
 refine QaM Tryz.func159 (by kernel_rfl) (by kernel_rfl) (fun Γ=>?_)
 unfold Qjk at h
 obtain ⟨r,h0,h⟩:=Qae h
 obtain rfl:=Option.some.inj h
 exact gr 4 [] [cC (Qq2 h0)]
def Qjl (Γ:Gam) (rv:List Qaa) (cf:Cf):Prop:=Go Tryz.prog Tryz.f151 [] Γ (one (lL 2 rv Qaa.enc)) [] cf
def QiN (Γ:Gam) (rv:List Qaa) (l:List Qaj) (l2:List Qaa) (v:Int):Prop:=Qjl Γ rv ⟨[.c 244,.l 244,.b 0,.c 31],⟨83,[vL 0 2 l Qaj.enc,vO 3 0 2 l2 Qaa.enc,vL 19 2 l Qaj.enc,vI 20 (lenI l),vI 21 v],[oS 2 164 l2 Qaa.enc]⟩⟩
def QhJ (Γ:Gam) (rv:List Qaa) (l:List Qaj) (l4:List Qaa):Prop:=Qjl Γ rv ⟨[.c 31],⟨83,[vO 3 0 2 l4 Qaa.enc],[oS 2 164 l4 Qaa.enc]⟩⟩
theorem QlG (Γ:Gam) (rv:List Qaa) {l v x0 r l3} {x:(List Qaa×Int)⊕(List Qaa)} (h:Qf9 l v x0 r l3=some x) (hI:∀ s:List Qaa×Int,x=.inl s→QiN Γ rv l s.1 s.2) (hE:∀ e:List Qaa,x=.inr e→QhJ Γ rv l e):Qjl Γ rv ⟨[.c 31335,.b 1,.c 1959,.l 244,.b 0,.c 31],⟨83,[vL 0 2 l Qaj.enc,vO 3 0 2 l3 Qaa.enc,vI 4 v,vP 5 1 2,vS 6 r,vL 19 2 l Qaj.enc,vI 20 (lenI l),vI 21 v],[oS 2 164 l3 Qaa.enc,oX 2 74 (Qaj.enc x0)]⟩⟩:=by
 unfold Qf9 at h
 rcases Qai h with ⟨h8,h⟩|⟨h8,h⟩
 ·obtain ⟨x1,h9,h⟩:=Qae h
  rcases Qai h with ⟨h10,h⟩|⟨h10,h⟩
  ·obtain ⟨h11,h⟩:=Qas h
   exact gn 7 [0,3,19,20,21] [3] [hH (.draw 24 []),rp 6 (bT h8),cE Qaj.enc h9,rp 4 (bT h8),rp 9 (bT h10),bT h8,bT h10,bT h8,tT,oO (Eq.refl ([(Qaa.mk 13 r)].map Qaa.enc).length),aO Qaa.enc h11] (hI _ (oJ h))
  ·rcases Qai h with ⟨h12,h⟩|⟨h12,h⟩
   ·obtain ⟨h13,h⟩:=Qas h
    exact gn 7 [0,3,19,20,21] [3] [hH (.draw 24 []),rp 6 (bT h8),cE Qaj.enc h9,rp 4 (bT h8),rp 6 (bF h10),cE Qaj.enc h9,rp 3 (bF h10),bT h8,bF h10,bT h8,bT h12,oO (Eq.refl ([(Qaa.mk 13 r)].map Qaa.enc).length),aO Qaa.enc h13] (hI _ (oJ h))
   ·exact gn 7 [0,3,19,20,21] [0] [hH (.draw 24 []),rp 6 (bT h8),cE Qaj.enc h9,rp 4 (bT h8),rp 6 (bF h10),cE Qaj.enc h9,rp 3 (bF h10),bT h8,bF h10,bT h8,bF h12] (hI _ (oJ h))
 ·exact gn 7 [0,3,19,20,21] [0] [hH (.draw 24 []),rp 10 (bF h8),rp 9 kF,bF h8,bF h8,fF] (hI _ (oJ h))
theorem Qpp (Γ:Gam) (rv:List Qaa) {l} {s:List Qaa×Int} {e:List Qaa} (h:loopF (fun s=>QcK l s.1 s.2) s=some e) (hD:QhJ Γ rv l e):QiN Γ rv l s.1 s.2:=by
 refine Qaz (C:=fun (s:List Qaa×Int)=>QiN Γ rv l s.1 s.2) (D:=fun (e:List Qaa)=>QhJ Γ rv l e) ?_ h hD
 clear h hD s e
 rintro ⟨l2,v⟩ z_ h hI hE
 replace h:QcK l l2 v=_:=h
 unfold QcK at h
 rcases Qai h with ⟨h2,h⟩|⟨h2,h⟩
 ·obtain ⟨x0,h3,h⟩:=Qae h
  obtain ⟨r,h4,h⟩:=Qae h
  obtain ⟨r1,h5,h⟩:=Qae h
  rcases Qai h with ⟨h6,h⟩|⟨h6,h⟩
  ·obtain ⟨h7,h⟩:=Qas h
   exact gn 16 [0,3,4,5,6,19,20,21] [3,1] [bT h2,cE Qaj.enc h3,cC (Qmq h4),cC (Qfv h5),rp 13 hP,rp 4 (oI ((!r1)=false)),oR True ((!r1)=false),rp 5 (oI (((!r1)||(ltI x0.a x0.t))=false)),oR True (((!r1)||(ltI x0.a x0.t))=false),bT h6,oO (Eq.refl ([(Qaa.mk 2 r)].map Qaa.enc).length),aO Qaa.enc h7] (QlG Γ rv h hI hE)
  ·exact gn 16 [0,3,4,5,6,19,20,21] [0,1] [bT h2,cE Qaj.enc h3,cC (Qmq h4),cC (Qfv h5),rp 13 hP,rp 4 (oI ((!r1)=false)),oR True ((!r1)=false),rp 5 (oI (((!r1)||(ltI x0.a x0.t))=false)),oR True (((!r1)||(ltI x0.a x0.t))=false),bF h6] (QlG Γ rv h hI hE)
 ·exact gn 5 [3] [0] [bF h2] (hE _ (oJ h))
theorem QlF (Γ:Gam) (rv:List Qaa) {l l1} (h:Qf8 l l1=some rv):Qjl Γ rv ⟨[.c 15],⟨83,[vL 0 2 l Qaj.enc,vO 3 0 2 l1 Qaa.enc],[oS 2 164 l1 Qaa.enc]⟩⟩:=by
 unfold Qf8 at h
 obtain ⟨e0,h14,h⟩:=Qae h
 refine gn 5 [0,3,19,20,21] [0] [nL Qaj.enc l] (Qpp Γ rv h14 ?_)
 obtain ⟨l4,rfl⟩:∃ x,x=e0:=⟨_,rfl⟩
 replace h:(some l4:Option (List Qaa))=some _:=h
 obtain rfl:=Option.some.inj h
 exact gr 2 [] [hW 4,hH (.frz 0),rp 3 (eL l4 Qaa.enc)]
theorem Qq3 {l} {rv:List Qaa} (h:Qkd l=some rv):AFn Tryz.prog 151 [.one (lL 2 l Qaj.enc)] [] (one (lL 2 rv Qaa.enc)) []:=by
 refine QaM Tryz.func151 (by kernel_rfl) (by kernel_rfl) (fun Γ=>?_)
 unfold Qkd at h
 rcases Qai h with ⟨h0,h⟩|⟨h0,h⟩
 ·obtain ⟨h1,h⟩:=Qas h
  exact gn 9 [0,3] [1] [nL Qaj.enc l,hP,hP,oI ((eqI (lenI l) 0)=false),nL Qaj.enc l,hP,hP,oI ((eqI (lenI l) 0)=false),oR True ((eqI (lenI l) 0)=false),bT h0,oO (Eq.refl ([(Qaa.mk 4 ByteArray.empty)].map Qaa.enc).length),aN (l:=([(Qaa.mk 4 ByteArray.empty)]:List Qaa)) Qaa.enc h1] (QlF Γ rv h)
 ·exact gn 9 [0,3] [0] [nL Qaj.enc l,hP,hP,oI ((eqI (lenI l) 0)=false),nL Qaj.enc l,hP,hP,oI ((eqI (lenI l) 0)=false),oR True ((eqI (lenI l) 0)=false),bF h0,hW 1,hH (.adopt 3 2 164)] (QlF Γ rv h)
theorem QnW {l} {rv:Bool} (h:Qke l=some rv):AFn Tryz.prog 140 [.one (lL 2 l Qaj.enc)] [] (one (.bool rv)) []:=by
 refine QaM Tryz.func140 (by kernel_rfl) (by kernel_rfl) (fun Γ=>?_)
 unfold Qke at h
 obtain ⟨r,h0,h⟩:=Qae h
 obtain rfl:=Option.some.inj h
 exact gr 4 [] [cC (Qq3 h0),nL Qaa.enc r]
theorem QhK {p t} {rv:Int} (h:Qd7 p t=some rv):AFn Tryz.prog 153 [.agg (Qaj.enc p),.one (lI t)] [] (one (lI rv)) []:=by
 refine QaM Tryz.func153 (by kernel_rfl) (by kernel_rfl) (fun Γ=>?_)
 unfold Qd7 at h
 obtain rfl:=Option.some.inj h
 exact gr 4 [] []
def Qbb (Γ:Gam) (rv:Int×Bool) (cf:Cf):Prop:=Go Tryz.prog Tryz.f152 [] Γ (.tup [.one (lI rv.1),.one (.bool rv.2)]) [] cf
def Qba (Γ:Gam) (rv:Int×Bool) (x0:List Qaj) (target:Int) (i:Int) (j:Int):Prop:=Qbb Γ rv ⟨[.c 120,.l 120,.b 0,.c 31],⟨49,[vL 0 2 x0 Qaj.enc,vI 1 target,(2,one (.fn (.func 153) [])),vI 8 (lenI x0),vI 9 i,vI 10 j],[]⟩⟩
def QaZ (Γ:Gam) (rv:Int×Bool) (x0:List Qaj) (target:Int) (i1:Int):Prop:=Qbb Γ rv ⟨[.c 31],⟨49,[vL 0 2 x0 Qaj.enc,vI 1 target,(2,one (.fn (.func 153) [])),vI 8 (lenI x0),vI 9 i1],[]⟩⟩
theorem Qcc (Γ:Gam) (rv:Int×Bool) {x0 target} {s:Int×Int} {e:Int} (h:loopF (fun s=>Qay x0 target s.1 s.2) s=some e) (hD:QaZ Γ rv x0 target e):Qba Γ rv x0 target s.1 s.2:=by
 refine Qaz (C:=fun (s:Int×Int)=>Qba Γ rv x0 target s.1 s.2) (D:=fun (e:Int)=>QaZ Γ rv x0 target e) ?_ h hD
 clear h hD s e
 rintro ⟨i,j⟩ z_ h hI hE
 replace h:Qay x0 target i j=_:=h
 unfold Qay at h
 rcases Qai h with ⟨h0,h⟩|⟨h0,h⟩
 ·obtain ⟨x1,h1,h⟩:=Qae h
  obtain ⟨r,h2,h⟩:=Qae h
  rcases Qai h with ⟨h3,h⟩|⟨h3,h⟩
  ·exact gn 14 [0,1,2,8,9,10] [] [bT h0,oO (zL 1),cE Qaj.enc h1,cC (QhK h2),bT h3] (hI _ (oJ h))
  ·exact gn 14 [0,1,2,8,9,10] [] [bT h0,oO (zL 1),cE Qaj.enc h1,cC (QhK h2),bF h3] (hI _ (oJ h))
 ·exact gn 5 [0,1,2,8,9] [] [bF h0] (hE _ (oJ h))
theorem QaH {x0 target} {rv:Int×Bool} (h:QaJ x0 target=some rv):AFn Tryz.prog 152 [.one (lL 2 x0 Qaj.enc),.one (lI target),.one (.fn (.func 153) [])] [] (.tup [.one (lI rv.1),.one (.bool rv.2)]) []:=by
 refine QaM Tryz.func152 (by kernel_rfl) (by kernel_rfl) (fun Γ=>?_)
 unfold QaJ at h
 obtain ⟨e0,h4,h⟩:=Qae h
 refine gn 9 [0,1,2,8,9,10] [] [nL Qaj.enc x0] (Qcc Γ rv h4 ?_)
 obtain ⟨i1,rfl⟩:∃ x,x=e0:=⟨_,rfl⟩
 replace h:(br (ltI i1 (lenI x0)) (bnd (getI x0 i1) fun x2=>bnd (Qd7 x2 target) fun r1=>some (i1,(eqI r1 0))) (some (i1,false)):Option (Int×Bool))=some _:=h
 rcases Qai h with ⟨h5,h⟩|⟨h5,h⟩
 ·obtain ⟨x2,h6,h⟩:=Qae h
  obtain ⟨r1,h7,h⟩:=Qae h
  obtain rfl:=Option.some.inj h
  exact gr 2 [] [rp 4 (bT h5),cE Qaj.enc h6,rp 3 (bT h5),cC (QhK h7),bT h5,bT h5]
 ·obtain rfl:=Option.some.inj h
  exact gr 2 [] [rp 9 (bF h5)]
theorem QqT {l t} {rv:Int} (h:QiE l t=some rv):AFn Tryz.prog 141 [.one (lL 2 l Qaj.enc),.one (lI t)] [] (one (lI rv)) []:=by
 refine QaM Tryz.func141 (by kernel_rfl) (by kernel_rfl) (fun Γ=>?_)
 unfold QiE at h
 obtain ⟨r,h0,h⟩:=Qae h
 rcases Qai h with ⟨h1,h⟩|⟨h1,h⟩
 ·obtain ⟨x0,h2,h⟩:=Qae h
  obtain rfl:=Option.some.inj h
  exact gr 11 [] [cC (QaH h0),bT h1,cE Qaj.enc h2]
 ·rcases Qai h with ⟨h3,h⟩|⟨h3,h⟩
  ·obtain ⟨x1,h4,h⟩:=Qae h
   obtain rfl:=Option.some.inj h
   exact gr 14 [] [cC (QaH h0),bF h1,bT h3,hH (.draw 12 []),rp 2 (cE Qaj.enc h4)]
  ·rcases Qai h with ⟨h5,h⟩|⟨h5,h⟩
   ·obtain ⟨x2,h6,h⟩:=Qae h
    obtain rfl:=Option.some.inj h
    exact gr 17 [] [cC (QaH h0),bF h1,bF h3,nL Qaj.enc l,bT h5,hH (.draw 16 []),rp 2 (cE Qaj.enc h6)]
   ·obtain ⟨x3,h7,h⟩:=Qae h
    obtain ⟨x4,h8,h⟩:=Qae h
    obtain ⟨h9,h⟩:=Qas h
    obtain rfl:=Option.some.inj h
    exact gr 23 [] [cC (QaH h0),bF h1,bF h3,nL Qaj.enc l,bF h5,hH (.draw 13 [(0,11),(1,12)]),cE Qaj.enc h7,cE Qaj.enc h8,hH (.draw 19 []),oO (h9)]
theorem QqS {l t} {rv:Int} (h:QiD l t=some rv):AFn Tryz.prog 115 [.one (lL 2 l Qaj.enc),.one (lI t)] [] (one (lI rv)) []:=by
 refine QaM Tryz.func115 (by kernel_rfl) (by kernel_rfl) (fun Γ=>?_)
 unfold QiD at h
 obtain ⟨r,h0,h⟩:=Qae h
 rcases Qai h with ⟨h1,h⟩|⟨h1,h⟩
 ·obtain ⟨r1,h2,h⟩:=Qae h
  rcases Qai h with ⟨h3,h⟩|⟨h3,h⟩
  ·obtain ⟨r2,h4,h⟩:=Qae h
   obtain rfl:=Option.some.inj h
   exact gr 9 [] [cC (Qfv h0),nF h1,nF h1,cC (QnW h2),nF h1,nF h1,nF h3,cC (QqT h4)]
  ·obtain rfl:=Option.some.inj h
   exact gr 8 [] [cC (Qfv h0),nF h1,nF h1,cC (QnW h2),nF h1,nF h1,nT h3]
 ·obtain rfl:=Option.some.inj h
  exact gr 8 [] [cC (Qfv h0),rp 4 (nT h1),tT]
def Qmh (Γ:Gam) (rv:Int) (cf:Cf):Prop:=Go Tryz.prog Tryz.f80 [] Γ (one (lI rv)) [] cf
def Qj2 (Γ:Gam) (rv:Int) (a:Qan) (t:Int) (out:Int) (v:Int):Prop:=Qmh Γ rv ⟨[.c 116,.l 116,.b 0,.c 15],⟨29,[vI 1 t,vI 5 out,vL 13 2 a.slow Qaj.enc,vI 14 (lenI a.slow),vI 15 v],[]⟩⟩
def Qje (Γ:Gam) (rv:Int) (a:Qan) (t:Int) (out1:Int):Prop:=Qmh Γ rv ⟨[.c 15],⟨29,[vI 5 out1],[]⟩⟩
theorem QnG (Γ:Gam) (rv:Int) {a t} {s:Int×Int} {e:Int} (h:loopF (fun s=>QfI a t s.1 s.2) s=some e) (hD:Qje Γ rv a t e):Qj2 Γ rv a t s.1 s.2:=by
 refine Qaz (C:=fun (s:Int×Int)=>Qj2 Γ rv a t s.1 s.2) (D:=fun (e:Int)=>Qje Γ rv a t e) ?_ h hD
 clear h hD s e
 rintro ⟨out,v⟩ z_ h hI hE
 replace h:QfI a t out v=_:=h
 unfold QfI at h
 rcases Qai h with ⟨h1,h⟩|⟨h1,h⟩
 ·obtain ⟨x0,h2,h⟩:=Qae h
  rcases Qai h with ⟨h3,h⟩|⟨h3,h⟩
  ·exact gn 16 [1,5,13,14,15] [] [bT h1,cE Qaj.enc h2,bT h3] (hI _ (oJ h))
  ·exact gn 16 [1,5,13,14,15] [] [bT h1,cE Qaj.enc h2,bF h3] (hI _ (oJ h))
 ·exact gn 5 [5] [] [bF h1] (hE _ (oJ h))
theorem Qpb {a t} {rv:Int} (h:Qf6 a t=some rv):AFn Tryz.prog 80 [.agg (Qan.enc a),.one (lI t)] [] (one (lI rv)) []:=by
 refine QaM Tryz.func80 (by kernel_rfl) (by kernel_rfl) (fun Γ=>?_)
 unfold Qf6 at h
 obtain ⟨r,h0,h⟩:=Qae h
 obtain ⟨e0,h4,h⟩:=Qae h
 refine gn 9 [1,5,13,14,15] [] [cC (QqS h0),nL Qaj.enc a.slow] (QnG Γ rv h4 ?_)
 obtain ⟨out1,rfl⟩:∃ x,x=e0:=⟨_,rfl⟩
 replace h:(some out1:Option Int)=some _:=h
 obtain rfl:=Option.some.inj h
 exact gr 2 [] []
theorem QdY {n profile from_ to_ t} {rv:Int×Int×Int} (h:Qlo n profile from_ to_ t=some rv):AFn Tryz.prog 39 [.agg (Qak.enc n),.one (lI profile),.one (lI from_),.one (lI to_),.one (lI t)] [] (.tup [.one (lI rv.1),.one (lI rv.2.1),.one (lI rv.2.2)]) []:=by
 refine QaM Tryz.func39 (by kernel_rfl) (by kernel_rfl) (fun Γ=>?_)
 unfold Qlo at h
 obtain ⟨r,h0,h⟩:=Qae h
 rcases Qai h with ⟨h1,h⟩|⟨h1,h⟩
 ·obtain ⟨r1,h2,h⟩:=Qae h
  rcases Qai h with ⟨h3,h⟩|⟨h3,h⟩
  ·rcases Qai h with ⟨h4,h⟩|⟨h4,h⟩
   ·obtain rfl:=Option.some.inj h
    exact gr 13 [] [cC (Qcm h0),rp 3 (nF h1),cC (Qcm h2),nF h1,nF h1,nF h3,bT h4]
   ·obtain ⟨r2,h5,h⟩:=Qae h
    rcases Qai h with ⟨h6,h⟩|⟨h6,h⟩
    ·obtain ⟨r3,h7,h⟩:=Qae h
     obtain rfl:=Option.some.inj h
     exact gr 21 [] [cC (Qcm h0),rp 3 (nF h1),cC (Qcm h2),nF h1,nF h1,nF h3,bF h4,cC (QnS h5),nF h6,hH (.draw 8 []),cC (Qpb h7)]
    ·obtain rfl:=Option.some.inj h
     exact gr 20 [] [cC (Qcm h0),rp 3 (nF h1),cC (Qcm h2),nF h1,nF h1,nF h3,bF h4,cC (QnS h5),nT h6]
  ·obtain rfl:=Option.some.inj h
   exact gr 8 [] [cC (Qcm h0),rp 3 (nF h1),cC (Qcm h2),nF h1,nF h1,nT h3]
 ·obtain rfl:=Option.some.inj h
  exact gr 8 [] [cC (Qcm h0),rp 5 (nT h1),tT]
theorem Qg2 {kind own} {rv:Bool} (h:QiA kind own=some rv):AFn Tryz.prog 81 [.one (lI kind),.one (lI own)] [] (one (.bool rv)) []:=by
 refine QaM Tryz.func81 (by kernel_rfl) (by kernel_rfl) (fun Γ=>?_)
 unfold QiA at h
 obtain rfl:=Option.some.inj h
 exact gr 4 [] [rp 4 hP,rp 2 (oI ((neI kind (-1))=true)),oR True ((neI kind (-1))=true)]
def Qm7 (Γ:Gam) (rv:QaK) (cf:Cf):Prop:=Go Tryz.prog Tryz.f40 [] Γ (gG [lI rv.cost,lI rv.moved,lI rv.other,lI rv.work]) [] cf
def Qj3 (Γ:Gam) (rv:QaK) (x0:Qac) (r:Qaw) (s0:QaB) (x1:Qah) (l:List (Int×Int)) (moved:Int) (other:Int) (v:Int):Prop:=Qm7 Γ rv ⟨[.c 4084,.l 4084,.b 0,.c 511],⟨114,[vP 3 0 6,vP 4 1 4,vP 6 2 4,vP 10 3 4,(11,one (.mp 4)),vL 59 2 r.visits Qab.enc,vI 60 (lenI r.visits),vI 61 v],[oX 6 30 (Qac.enc x0),oX 4 66 (Qaw.enc r),oX 4 98 [lI 0,lI 0,lI 0,lI 0],oX 4 98 [lI (addK .i64 (addK .i64 x1.fixed (mulK .i64 x1.perMile s0.miles)) (mulK .i64 x1.perTick (subK .i64 s0.end_ x1.open_))),lI moved,lI other,lI (mulK .i64 (quoK .i64 (subK .i64 s0.end_ x1.open_) 64) (quoK .i64 (subK .i64 s0.end_ x1.open_) 64))],oM 145 l (mE kI lI)]⟩⟩
def QiH (Γ:Gam) (rv:QaK) (x0:Qac) (r:Qaw) (s0:QaB) (x1:Qah) (moved2:Int) (other1:Int):Prop:=Qm7 Γ rv ⟨[.c 511],⟨114,[vP 6 0 4,vP 10 1 4],[oX 4 98 [lI 0,lI 0,lI 0,lI 0],oX 4 98 [lI (addK .i64 (addK .i64 x1.fixed (mulK .i64 x1.perMile s0.miles)) (mulK .i64 x1.perTick (subK .i64 s0.end_ x1.open_))),lI moved2,lI other1,lI (mulK .i64 (quoK .i64 (subK .i64 s0.end_ x1.open_) 64) (quoK .i64 (subK .i64 s0.end_ x1.open_) 64))]]⟩⟩
theorem Qmi (Γ:Gam) (rv:QaK) {x0 r s0 x1 l other v x2 x3 moved1} {x:(List (Int×Int)×Int×Int×Int)⊕(Int×Int)} (h:Qg1 x0 r s0 x1 l other v x2 x3 moved1=some x) (hI:∀ s:List (Int×Int)×Int×Int×Int,x=.inl s→Qj3 Γ rv x0 r s0 x1 s.1 s.2.1 s.2.2.1 s.2.2.2) (hE:∀ e:Int×Int,x=.inr e→QiH Γ rv x0 r s0 x1 e.1 e.2):Qm7 Γ rv ⟨[.c 2091423,.b 1,.c 32679,.l 4084,.b 0,.c 511],⟨114,[vP 3 0 6,vP 4 1 4,vP 6 2 4,vP 10 3 4,(11,one (.mp 4)),vP 14 5 16,vL 59 2 r.visits Qab.enc,vI 60 (lenI r.visits),vI 61 v],[oX 6 30 (Qac.enc x0),oX 4 66 (Qaw.enc r),oX 4 98 [lI 0,lI 0,lI 0,lI 0],oX 4 98 [lI (addK .i64 (addK .i64 x1.fixed (mulK .i64 x1.perMile s0.miles)) (mulK .i64 x1.perTick (subK .i64 s0.end_ x1.open_))),lI moved1,lI other,lI (mulK .i64 (quoK .i64 (subK .i64 s0.end_ x1.open_) 64) (quoK .i64 (subK .i64 s0.end_ x1.open_) 64))],oM 145 (mPut eqI l x2.order (addK .i64 (mGet eqI l x2.order 0) 1)) (mE kI lI),oX 16 83 (Qag.enc x3)]⟩⟩:=by
 unfold Qg1 at h
 obtain ⟨r2,h9,h⟩:=Qae h
 rcases Qai h with ⟨h10,h⟩|⟨h10,h⟩
 ·exact gn 7 [3,4,6,10,11,59,60,61] [0,1,2,3,4] [cC (Qg2 h9),bT h10] (hI _ (oJ h))
 ·exact gn 7 [3,4,6,10,11,59,60,61] [0,1,2,3,4] [cC (Qg2 h9),bF h10] (hI _ (oJ h))
theorem QpP (Γ:Gam) (rv:QaK) {x0 r s0 x1} {s:List (Int×Int)×Int×Int×Int} {e:Int×Int} (h:loopF (fun s=>QcJ x0 r s0 x1 s.1 s.2.1 s.2.2.1 s.2.2.2) s=some e) (hD:QiH Γ rv x0 r s0 x1 e.1 e.2):Qj3 Γ rv x0 r s0 x1 s.1 s.2.1 s.2.2.1 s.2.2.2:=by
 refine Qaz (C:=fun (s:List (Int×Int)×Int×Int×Int)=>Qj3 Γ rv x0 r s0 x1 s.1 s.2.1 s.2.2.1 s.2.2.2) (D:=fun (e:Int×Int)=>QiH Γ rv x0 r s0 x1 e.1 e.2) ?_ h hD
 clear h hD s e
 rintro ⟨l,moved,other,v⟩ z_ h hI hE
 replace h:QcJ x0 r s0 x1 l moved other v=_:=h
 unfold QcJ at h
 rcases Qai h with ⟨h2,h⟩|⟨h2,h⟩
 ·obtain ⟨x2,h3,h⟩:=Qae h
  rcases Qai h with ⟨h4,h⟩|⟨h4,h⟩
  ·exact gn 18 [3,4,6,10,11,59,60,61] [0,1,2,3,4] [bT h2,cE Qab.enc h3,mG kqI lI l x2.order 0,mU kqI lI l x2.order (addK .i64 (mGet eqI l x2.order 0) 1),rp 5 hP,rp 3 (oI ((ltI x2.order 0)=false)),nL Qag.enc x0.orders,hP,hP,rp 2 (oI ((ltI x2.order 0)=false)),oR True ((ltI x2.order 0)=false),rp 6 (bT h4),tT] (hI _ (oJ h))
  ·rcases Qai h with ⟨h5,h⟩|⟨h5,h⟩
   ·exact gn 18 [3,4,6,10,11,59,60,61] [0,1,2,3,4] [bT h2,cE Qab.enc h3,mG kqI lI l x2.order 0,mU kqI lI l x2.order (addK .i64 (mGet eqI l x2.order 0) 1),rp 5 hP,rp 3 (oI ((ltI x2.order 0)=false)),nL Qag.enc x0.orders,hP,hP,rp 2 (oI ((ltI x2.order 0)=false)),oR True ((ltI x2.order 0)=false),rp 4 (bF h4),mG kqI lI (mPut eqI l x2.order (addK .i64 (mGet eqI l x2.order 0) 1)) x2.order 0,bF h4,bF h4,bT h5] (hI _ (oJ h))
   ·obtain ⟨x3,h6,h⟩:=Qae h
    obtain ⟨r1,h7,h⟩:=Qae h
    rcases Qai h with ⟨h8,h⟩|⟨h8,h⟩
    ·exact gn 23 [3,4,6,10,11,14,59,60,61] [0,1,2,3,4,6] [bT h2,cE Qab.enc h3,mG kqI lI l x2.order 0,mU kqI lI l x2.order (addK .i64 (mGet eqI l x2.order 0) 1),rp 5 hP,rp 3 (oI ((ltI x2.order 0)=false)),nL Qag.enc x0.orders,hP,hP,rp 2 (oI ((ltI x2.order 0)=false)),oR True ((ltI x2.order 0)=false),rp 4 (bF h4),mG kqI lI (mPut eqI l x2.order (addK .i64 (mGet eqI l x2.order 0) 1)) x2.order 0,bF h4,bF h4,bF h5,cE Qag.enc h6,cC (Qg2 h7),bT h8] (Qmi Γ rv h hI hE)
    ·exact gn 23 [3,4,6,10,11,14,59,60,61] [0,1,2,3,4,6] [bT h2,cE Qab.enc h3,mG kqI lI l x2.order 0,mU kqI lI l x2.order (addK .i64 (mGet eqI l x2.order 0) 1),rp 5 hP,rp 3 (oI ((ltI x2.order 0)=false)),nL Qag.enc x0.orders,hP,hP,rp 2 (oI ((ltI x2.order 0)=false)),oR True ((ltI x2.order 0)=false),rp 4 (bF h4),mG kqI lI (mPut eqI l x2.order (addK .i64 (mGet eqI l x2.order 0) 1)) x2.order 0,bF h4,bF h4,bF h5,cE Qag.enc h6,cC (Qg2 h7),bF h8] (Qmi Γ rv h hI hE)
 ·exact gn 5 [6,10] [2,3] [bF h2] (hE _ (oJ h))
theorem QoK {x0 r s0} {rv:QaK} (h:Qjp x0 r s0=some rv):AFn Tryz.prog 40 [.agg (Qac.enc x0),.agg (Qaw.enc r),.agg (QaB.enc s0)] [] (gG [lI rv.cost,lI rv.moved,lI rv.other,lI rv.work]) []:=by
 refine QaM Tryz.func40 (by kernel_rfl) (by kernel_rfl) (fun Γ=>?_)
 unfold Qjp at h
 rcases Qai h with ⟨h0,h⟩|⟨h0,h⟩
 ·obtain rfl:=Option.some.inj h
  exact gr 8 [] [rp 5 hP,rp 3 (oI ((ltI r.type_ 0)=false)),nL Qah.enc x0.types,hP,hP,rp 2 (oI ((ltI r.type_ 0)=false)),oR True ((ltI r.type_ 0)=false),bT h0]
 ·obtain ⟨x1,h1,h⟩:=Qae h
  obtain ⟨e0,h11,h⟩:=Qae h
  refine gn 22 [3,4,6,10,11,59,60,61] [0,1,3,5,6] [rp 5 hP,rp 3 (oI ((ltI r.type_ 0)=false)),nL Qah.enc x0.types,hP,hP,rp 2 (oI ((ltI r.type_ 0)=false)),oR True ((ltI r.type_ 0)=false),bF h0,cE Qah.enc h1,oO (oA (n:=64)),nL Qab.enc r.visits] (QpP Γ rv h11 ?_)
  obtain ⟨moved2,other1⟩:=e0
  replace h:(some (QaK.mk (addK .i64 (addK .i64 x1.fixed (mulK .i64 x1.perMile s0.miles)) (mulK .i64 x1.perTick (subK .i64 s0.end_ x1.open_))) moved2 other1 (mulK .i64 (quoK .i64 (subK .i64 s0.end_ x1.open_) 64) (quoK .i64 (subK .i64 s0.end_ x1.open_) 64))):Option QaK)=some _:=h
  obtain rfl:=Option.some.inj h
  exact gr 2 [] []
theorem QfK {s0} {rv:QtV} (h:Qlr s0=some rv):AFn Tryz.prog 82 [.agg (QaK.enc s0)] [] (gG [lI rv.x0,lI rv.x1,lI rv.x2,lI rv.x3]) []:=by
 refine QaM Tryz.func82 (by kernel_rfl) (by kernel_rfl) (fun Γ=>?_)
 unfold Qlr at h
 obtain rfl:=Option.some.inj h
 exact gr 4 [] []
theorem QnT {s0} {rv:Int×Int} (h:QeM s0=some rv):AFn Tryz.prog 41 [.agg (QaK.enc s0)] [] (.tup [.one (lI rv.1),.one (lI rv.2)]) []:=by
 refine QaM Tryz.func41 (by kernel_rfl) (by kernel_rfl) (fun Γ=>?_)
 unfold QeM at h
 obtain ⟨r,h0,h⟩:=Qae h
 rcases Qai h with ⟨h1,h⟩|⟨h1,h⟩
 ·obtain rfl:=Option.some.inj h
  exact gr 23 [] [cC (QfK h0),tT,oO (zL 0),oO (lT 0 4),bT h1]
 ·rcases Qai h with ⟨h2,h⟩|⟨h2,h⟩
  ·obtain rfl:=Option.some.inj h
   exact gr 39 [] [cC (QfK h0),tT,oO (zL 0),oO (lT 0 4),bF h1,tT,oO (zL 1),oO (lT 1 4),bT h2]
  ·rcases Qai h with ⟨h3,h⟩|⟨h3,h⟩
   ·obtain rfl:=Option.some.inj h
    exact gr 55 [] [cC (QfK h0),tT,oO (zL 0),oO (lT 0 4),bF h1,tT,oO (zL 1),oO (lT 1 4),bF h2,tT,oO (zL 2),oO (lT 2 4),bT h3]
   ·rcases Qai h with ⟨h4,h⟩|⟨h4,h⟩
    ·obtain rfl:=Option.some.inj h
     exact gr 71 [] [cC (QfK h0),tT,oO (zL 0),oO (lT 0 4),bF h1,tT,oO (zL 1),oO (lT 1 4),bF h2,tT,oO (zL 2),oO (lT 2 4),bF h3,tT,oO (zL 3),oO (lT 3 4),bT h4]
    ·rcases Qai h with ⟨h5,h⟩|⟨h5,h⟩
     ·obtain rfl:=Option.some.inj h
      exact gr 84 [] [cC (QfK h0),tT,oO (zL 0),oO (lT 0 4),bF h1,tT,oO (zL 1),oO (lT 1 4),bF h2,tT,oO (zL 2),oO (lT 2 4),bF h3,tT,oO (zL 3),oO (lT 3 4),bF h4,fF,rp 12 hP,rp 2 (oI ((gtI s0.cost 1073741824)=false)),oR True ((gtI s0.cost 1073741824)=false),rp 2 (oI (((gtI s0.cost 1073741824)||(geI s0.moved 16))=false)),oR True (((gtI s0.cost 1073741824)||(geI s0.moved 16))=false),rp 2 (oI ((((gtI s0.cost 1073741824)||(geI s0.moved 16))||(geI s0.other 16))=false)),oR True ((((gtI s0.cost 1073741824)||(geI s0.moved 16))||(geI s0.other 16))=false),bT h5]
     ·obtain rfl:=Option.some.inj h
      exact gr 85 [] [cC (QfK h0),tT,oO (zL 0),oO (lT 0 4),bF h1,tT,oO (zL 1),oO (lT 1 4),bF h2,tT,oO (zL 2),oO (lT 2 4),bF h3,tT,oO (zL 3),oO (lT 3 4),bF h4,fF,rp 12 hP,rp 2 (oI ((gtI s0.cost 1073741824)=false)),oR True ((gtI s0.cost 1073741824)=false),rp 2 (oI (((gtI s0.cost 1073741824)||(geI s0.moved 16))=false)),oR True (((gtI s0.cost 1073741824)||(geI s0.moved 16))=false),rp 2 (oI ((((gtI s0.cost 1073741824)||(geI s0.moved 16))||(geI s0.other 16))=false)),oR True ((((gtI s0.cost 1073741824)||(geI s0.moved 16))||(geI s0.other 16))=false),bF h5]
theorem QdM {x0 l} {rv:Int×Int×Bool} (h:Qgp x0 l=some rv):AFn Tryz.prog 12 [.agg (Qac.enc x0),.agg (Qad.enc l)] [] (.tup [.one (lI rv.1),.one (lI rv.2.1),.one (.bool rv.2.2)]) []:=by
 refine QaM Tryz.func12 (by kernel_rfl) (by kernel_rfl) (fun Γ=>?_)
 unfold Qgp at h
 rcases Qai h with ⟨h0,h⟩|⟨h0,h⟩
 ·obtain rfl:=Option.some.inj h
  exact gr 8 [] [nL Qab.enc l.visits,rp 13 hP,rp 2 (oI ((eqI (lenI l.visits) 0)=false)),oR True ((eqI (lenI l.visits) 0)=false),rp 2 (oI (((eqI (lenI l.visits) 0)||(neI l.open_ 0))=false)),oR True (((eqI (lenI l.visits) 0)||(neI l.open_ 0))=false),rp 3 (oI ((((eqI (lenI l.visits) 0)||(neI l.open_ 0))||(ltI l.type_ 0))=false)),nL Qah.enc x0.types,hP,hP,rp 2 (oI ((((eqI (lenI l.visits) 0)||(neI l.open_ 0))||(ltI l.type_ 0))=false)),oR True ((((eqI (lenI l.visits) 0)||(neI l.open_ 0))||(ltI l.type_ 0))=false),bT h0]
 ·obtain ⟨x1,h1,h⟩:=Qae h
  obtain ⟨r,h2,h⟩:=Qae h
  rcases Qai h with ⟨h3,h⟩|⟨h3,h⟩
  ·obtain rfl:=Option.some.inj h
   exact gr 17 [] [nL Qab.enc l.visits,rp 13 hP,rp 2 (oI ((eqI (lenI l.visits) 0)=false)),oR True ((eqI (lenI l.visits) 0)=false),rp 2 (oI (((eqI (lenI l.visits) 0)||(neI l.open_ 0))=false)),oR True (((eqI (lenI l.visits) 0)||(neI l.open_ 0))=false),rp 3 (oI ((((eqI (lenI l.visits) 0)||(neI l.open_ 0))||(ltI l.type_ 0))=false)),nL Qah.enc x0.types,hP,hP,rp 2 (oI ((((eqI (lenI l.visits) 0)||(neI l.open_ 0))||(ltI l.type_ 0))=false)),oR True ((((eqI (lenI l.visits) 0)||(neI l.open_ 0))||(ltI l.type_ 0))=false),bF h0,cE Qah.enc h1,cC (QdY h2),rp 16 hP,rp 9 (oI ((neI r.2.2 0)=false)),oR True ((neI r.2.2 0)=false),rp 3 (oI (((neI r.2.2 0)||(gtI (subK .i64 (addK .i64 l.driven r.1) l.time) x1.drive))=false)),oR True (((neI r.2.2 0)||(gtI (subK .i64 (addK .i64 l.driven r.1) l.time) x1.drive))=false),bT h3]
  ·obtain ⟨r1,h4,h⟩:=Qae h
   obtain ⟨r2,h5,h⟩:=Qae h
   rcases Qai h with ⟨h6,h⟩|⟨h6,h⟩
   ·obtain rfl:=Option.some.inj h
    exact gr 26 [] [nL Qab.enc l.visits,rp 13 hP,rp 2 (oI ((eqI (lenI l.visits) 0)=false)),oR True ((eqI (lenI l.visits) 0)=false),rp 2 (oI (((eqI (lenI l.visits) 0)||(neI l.open_ 0))=false)),oR True (((eqI (lenI l.visits) 0)||(neI l.open_ 0))=false),rp 3 (oI ((((eqI (lenI l.visits) 0)||(neI l.open_ 0))||(ltI l.type_ 0))=false)),nL Qah.enc x0.types,hP,hP,rp 2 (oI ((((eqI (lenI l.visits) 0)||(neI l.open_ 0))||(ltI l.type_ 0))=false)),oR True ((((eqI (lenI l.visits) 0)||(neI l.open_ 0))||(ltI l.type_ 0))=false),bF h0,cE Qah.enc h1,cC (QdY h2),rp 16 hP,rp 9 (oI ((neI r.2.2 0)=false)),oR True ((neI r.2.2 0)=false),rp 3 (oI (((neI r.2.2 0)||(gtI (subK .i64 (addK .i64 l.driven r.1) l.time) x1.drive))=false)),oR True (((neI r.2.2 0)||(gtI (subK .i64 (addK .i64 l.driven r.1) l.time) x1.drive))=false),bF h3,hW 15,hH (.nilS 81 2 1),hH (.nilS 87 2 4),cC (QoK h4),cC (QnT h5),bT h6]
   ·obtain rfl:=Option.some.inj h
    exact gr 27 [] [nL Qab.enc l.visits,rp 13 hP,rp 2 (oI ((eqI (lenI l.visits) 0)=false)),oR True ((eqI (lenI l.visits) 0)=false),rp 2 (oI (((eqI (lenI l.visits) 0)||(neI l.open_ 0))=false)),oR True (((eqI (lenI l.visits) 0)||(neI l.open_ 0))=false),rp 3 (oI ((((eqI (lenI l.visits) 0)||(neI l.open_ 0))||(ltI l.type_ 0))=false)),nL Qah.enc x0.types,hP,hP,rp 2 (oI ((((eqI (lenI l.visits) 0)||(neI l.open_ 0))||(ltI l.type_ 0))=false)),oR True ((((eqI (lenI l.visits) 0)||(neI l.open_ 0))||(ltI l.type_ 0))=false),bF h0,cE Qah.enc h1,cC (QdY h2),rp 16 hP,rp 9 (oI ((neI r.2.2 0)=false)),oR True ((neI r.2.2 0)=false),rp 3 (oI (((neI r.2.2 0)||(gtI (subK .i64 (addK .i64 l.driven r.1) l.time) x1.drive))=false)),oR True (((neI r.2.2 0)||(gtI (subK .i64 (addK .i64 l.driven r.1) l.time) x1.drive))=false),bF h3,hW 15,hH (.nilS 81 2 1),hH (.nilS 87 2 4),cC (QoK h4),cC (QnT h5),bF h6]
theorem QfJ {l at_} {rv:Bool} (h:Qlq l at_=some rv):AFn Tryz.prog 88 [.one (lL 16 l Qag.enc),.one (lI at_)] [] (one (.bool rv)) []:=by
 refine QaM Tryz.func88 (by kernel_rfl) (by kernel_rfl) (fun Γ=>?_)
 unfold Qlq at h
 obtain rfl:=Option.some.inj h
 exact gr 4 [] [hP,hP,hP,oI ((geI at_ 0)=true),nL Qag.enc l,hP,hP,rp 2 (oI ((geI at_ 0)=true)),oR True ((geI at_ 0)=true)]
def QsL (Γ:Gam) (rv:Qap×Int) (cf:Cf):Prop:=Go Tryz.prog Tryz.f45 [] Γ (.tup [.agg [lI rv.1.place,lI rv.1.open_,lI rv.1.close,lI rv.1.service],.one (lI rv.2)]) [] cf
theorem Qm5 (Γ:Gam) (rv:Qap×Int) {x1} (h:Qiy x1=some rv):QsL Γ rv ⟨[.c 31],⟨32,[vP 4 0 4,vP 6 1 4],[oX 4 81 [lI 0,lI 0,lI 0,lI 0],oX 4 81 (Qap.enc x1)]⟩⟩:=by
 unfold Qiy at h
 rcases Qai h with ⟨h4,h⟩|⟨h4,h⟩
 ·obtain rfl:=Option.some.inj h
  exact gr 6 [] [bT h4]
 ·obtain rfl:=Option.some.inj h
  exact gr 7 [] [bF h4]
theorem Qey {l v} {rv:Qap×Int} (h:Qm4 l v=some rv):AFn Tryz.prog 45 [.one (lL 16 l Qag.enc),.agg (Qab.enc v)] [] (.tup [.agg [lI rv.1.place,lI rv.1.open_,lI rv.1.close,lI rv.1.service],.one (lI rv.2)]) []:=by
 refine QaM Tryz.func45 (by kernel_rfl) (by kernel_rfl) (fun Γ=>?_)
 unfold Qm4 at h
 obtain ⟨r,h0,h⟩:=Qae h
 rcases Qai h with ⟨h1,h⟩|⟨h1,h⟩
 ·obtain ⟨x0,h2,h⟩:=Qae h
  rcases Qai h with ⟨h3,h⟩|⟨h3,h⟩
  ·exact gn 14 [4,6] [1,2] [cC (QfJ h0),nF h1,cE Qag.enc h2,bT h3,cE Qag.enc h2] (Qm5 Γ rv h)
  ·exact gn 14 [4,6] [1,2] [cC (QfJ h0),nF h1,cE Qag.enc h2,bF h3] (Qm5 Γ rv h)
 ·obtain rfl:=Option.some.inj h
  exact gr 8 [] [cC (QfJ h0),nT h1]
def Qev (Γ:Gam) (rv:Bool) (cf:Cf):Prop:=Go Tryz.prog Tryz.f46 [] Γ (one (.bool rv)) [] cf
def QmF (Γ:Gam) (rv:Bool) (x0:Qac) (l:Qad) (v:Qab) (x1:Qag) (v1:Int):Prop:=Qev Γ rv ⟨[.c 500,.l 500,.b 0,.c 63],⟨127,[vP 3 0 6,vP 4 1 9,vP 5 2 2,vI 8 (orK .i64 l.done l.open_),vL 63 2 x0.apart Qar.enc,vI 64 (lenI x0.apart),vI 65 v1],[oX 6 30 (Qac.enc x0),oX 9 47 (Qad.enc l),oX 2 54 (Qab.enc v)]⟩⟩
def Ql3 (Γ:Gam) (rv:Bool) (x0:Qac) (l:Qad) (v:Qab) (x1:Qag):Prop:=Qev Γ rv ⟨[.c 63],⟨127,[vP 3 0 6,vP 4 1 9,vP 5 2 2],[oX 6 30 (Qac.enc x0),oX 9 47 (Qad.enc l),oX 2 54 (Qab.enc v)]⟩⟩
def QmG (Γ:Gam) (rv:Bool) (x0:Qac) (l:Qad) (v:Qab) (x1:Qag) (v2:Int):Prop:=Qev Γ rv ⟨[.c 2036,.l 2036,.b 2,.c 255],⟨127,[vP 4 0 9,vP 5 1 2,vL 100 2 x0.before Qar.enc,vI 101 (lenI x0.before),vI 102 v2],[oX 9 47 (Qad.enc l),oX 2 54 (Qab.enc v)]⟩⟩
def Ql4 (Γ:Gam) (rv:Bool) (x0:Qac) (l:Qad) (v:Qab) (x1:Qag):Prop:=Qev Γ rv ⟨[.c 255],⟨127,[],[]⟩⟩
def QmH (Γ:Gam) (rv:Bool) (x0:Qac) (l:Qad) (v:Qab) (x1:Qag) (v3:Int):Prop:=Qev Γ rv ⟨[.c 500,.l 500,.b 0,.c 63],⟨127,[vP 3 0 6,vP 4 1 9,vP 5 2 2,vI 8 (orK .i64 l.done l.open_),vL 63 2 x0.apart Qar.enc,vI 64 (lenI x0.apart),vI 65 v3],[oX 6 30 (Qac.enc x0),oX 9 47 (Qad.enc l),oX 2 54 (Qab.enc v)]⟩⟩
def Ql5 (Γ:Gam) (rv:Bool) (x0:Qac) (l:Qad) (v:Qab) (x1:Qag):Prop:=Qev Γ rv ⟨[.c 63],⟨127,[vP 3 0 6,vP 4 1 9,vP 5 2 2],[oX 6 30 (Qac.enc x0),oX 9 47 (Qad.enc l),oX 2 54 (Qab.enc v)]⟩⟩
def QmI (Γ:Gam) (rv:Bool) (x0:Qac) (l:Qad) (v:Qab) (x1:Qag) (v4:Int):Prop:=Qev Γ rv ⟨[.c 2036,.l 2036,.b 2,.c 255],⟨127,[vP 4 0 9,vP 5 1 2,vL 100 2 x0.before Qar.enc,vI 101 (lenI x0.before),vI 102 v4],[oX 9 47 (Qad.enc l),oX 2 54 (Qab.enc v)]⟩⟩
def Ql6 (Γ:Gam) (rv:Bool) (x0:Qac) (l:Qad) (v:Qab) (x1:Qag):Prop:=Qev Γ rv ⟨[.c 255],⟨127,[],[]⟩⟩
theorem QpF (Γ:Gam) (rv:Bool) {x0 l v x1} {s:Int} {e:(Unit)⊕(Bool)} (h:loopF (fun s=>QcG x0 l v x1 s) s=some e) (hD:sel e (fun e=>Ql3 Γ rv x0 l v x1) (fun e=>e=rv)):QmF Γ rv x0 l v x1 s:=by
 refine Qaz (C:=fun (s:Int)=>QmF Γ rv x0 l v x1 s) (D:=fun (e:(Unit)⊕(Bool))=>sel e (fun e=>Ql3 Γ rv x0 l v x1) (fun e=>e=rv)) ?_ h hD
 clear h hD s e
 intro v1 z_ h hI hE
 replace h:QcG x0 l v x1 v1=_:=h
 unfold QcG at h
 rcases Qai h with ⟨h8,h⟩|⟨h8,h⟩
 ·obtain ⟨x3,h9,h⟩:=Qae h
  rcases Qai h with ⟨h10,h⟩|⟨h10,h⟩
  ·obtain ⟨r2,h11,h⟩:=Qae h
   rcases Qai h with ⟨h12,h⟩|⟨h12,h⟩
   ·obtain rfl:=(hE _ (oJ h):_=rv)
    exact gr 14 [] [bT h8,cE Qar.enc h9,oO (zL 0),oO (lT 0 2),rp 2 (bT h10),oO (zL 1),oO (lT 1 2),rp 2 (bT h10),cC (Qax h11),bT h10,rp 6 (bT h12),rp 4 kF,rp 2 (bT h12),tT]
   ·rcases Qai h with ⟨h13,h⟩|⟨h13,h⟩
    ·obtain ⟨r3,h14,h⟩:=Qae h
     rcases Qai h with ⟨h15,h⟩|⟨h15,h⟩
     ·obtain rfl:=(hE _ (oJ h):_=rv)
      exact gr 14 [] [bT h8,cE Qar.enc h9,oO (zL 0),oO (lT 0 2),rp 2 (bT h10),oO (zL 1),oO (lT 1 2),rp 2 (bT h10),cC (Qax h11),bT h10,bF h12,oO (zL 1),oO (lT 1 2),rp 5 (bF h12),rp 2 (bT h13),oO (zL 0),oO (lT 0 2),rp 2 (bT h13),cC (Qax h14),bF h12,bT h13,bF h12,bT h15]
     ·exact gn 16 [3,4,5,8,63,64,65] [0,1,2] [bT h8,cE Qar.enc h9,oO (zL 0),oO (lT 0 2),rp 2 (bT h10),oO (zL 1),oO (lT 1 2),rp 2 (bT h10),cC (Qax h11),bT h10,bF h12,oO (zL 1),oO (lT 1 2),rp 5 (bF h12),rp 2 (bT h13),oO (zL 0),oO (lT 0 2),rp 2 (bT h13),cC (Qax h14),bF h12,bT h13,bF h12,bF h15] (hI _ (oJ h))
    ·exact gn 16 [3,4,5,8,63,64,65] [0,1,2] [bT h8,cE Qar.enc h9,oO (zL 0),oO (lT 0 2),rp 2 (bT h10),oO (zL 1),oO (lT 1 2),rp 2 (bT h10),cC (Qax h11),bT h10,bF h12,oO (zL 1),oO (lT 1 2),rp 5 (bF h12),rp 4 (bF h13),bF h12,bF h13,bF h12,fF] (hI _ (oJ h))
  ·rcases Qai h with ⟨h16,h⟩|⟨h16,h⟩
   ·obtain ⟨r4,h17,h⟩:=Qae h
    rcases Qai h with ⟨h18,h⟩|⟨h18,h⟩
    ·obtain rfl:=(hE _ (oJ h):_=rv)
     exact gr 14 [] [bT h8,cE Qar.enc h9,oO (zL 0),oO (lT 0 2),rp 5 (bF h10),fF,oO (zL 1),oO (lT 1 2),rp 5 fF,rp 2 (bT h16),oO (zL 0),oO (lT 0 2),rp 2 (bT h16),cC (Qax h17),fF,bT h16,fF,bT h18]
    ·exact gn 16 [3,4,5,8,63,64,65] [0,1,2] [bT h8,cE Qar.enc h9,oO (zL 0),oO (lT 0 2),rp 5 (bF h10),fF,oO (zL 1),oO (lT 1 2),rp 5 fF,rp 2 (bT h16),oO (zL 0),oO (lT 0 2),rp 2 (bT h16),cC (Qax h17),fF,bT h16,fF,bF h18] (hI _ (oJ h))
   ·exact gn 16 [3,4,5,8,63,64,65] [0,1,2] [bT h8,cE Qar.enc h9,oO (zL 0),oO (lT 0 2),rp 5 (bF h10),fF,oO (zL 1),oO (lT 1 2),rp 5 fF,rp 4 (bF h16),fF,bF h16,fF,fF] (hI _ (oJ h))
 ·exact gn 5 [3,4,5] [0,1,2] [bF h8] (hE _ (oJ h))
theorem QpG (Γ:Gam) (rv:Bool) {x0 l v x1} {s:Int} {e:(Unit)⊕(Bool)} (h:loopF (fun s=>Qcj x0 l v x1 s) s=some e) (hD:sel e (fun e=>Ql4 Γ rv x0 l v x1) (fun e=>e=rv)):QmG Γ rv x0 l v x1 s:=by
 refine Qaz (C:=fun (s:Int)=>QmG Γ rv x0 l v x1 s) (D:=fun (e:(Unit)⊕(Bool))=>sel e (fun e=>Ql4 Γ rv x0 l v x1) (fun e=>e=rv)) ?_ h hD
 clear h hD s e
 intro v2 z_ h hI hE
 replace h:Qcj x0 l v x1 v2=_:=h
 unfold Qcj at h
 rcases Qai h with ⟨h22,h⟩|⟨h22,h⟩
 ·obtain ⟨x4,h23,h⟩:=Qae h
  rcases Qai h with ⟨h24,h⟩|⟨h24,h⟩
  ·obtain ⟨r6,h25,h⟩:=Qae h
   rcases Qai h with ⟨h26,h⟩|⟨h26,h⟩
   ·obtain ⟨r7,h27,h⟩:=Qae h
    rcases Qai h with ⟨h28,h⟩|⟨h28,h⟩
    ·obtain rfl:=(hE _ (oJ h):_=rv)
     exact gr 14 [] [bT h22,cE Qar.enc h23,oO (zL 1),oO (lT 1 2),rp 3 (bT h24),oO (zL 0),oO (lT 0 2),rp 2 (bT h24),cC (Qax h25),rp 2 (bT h24),rp 3 (nF h26),oO (zL 0),oO (lT 0 2),rp 2 (nF h26),cC (Qax h27),bT h24,nF h26,bT h24,bT h28]
    ·exact gn 16 [4,5,100,101,102] [0,1] [bT h22,cE Qar.enc h23,oO (zL 1),oO (lT 1 2),rp 3 (bT h24),oO (zL 0),oO (lT 0 2),rp 2 (bT h24),cC (Qax h25),rp 2 (bT h24),rp 3 (nF h26),oO (zL 0),oO (lT 0 2),rp 2 (nF h26),cC (Qax h27),bT h24,nF h26,bT h24,bF h28] (hI _ (oJ h))
   ·obtain rfl:=(hE _ (oJ h):_=rv)
    exact gr 14 [] [bT h22,cE Qar.enc h23,oO (zL 1),oO (lT 1 2),rp 3 (bT h24),oO (zL 0),oO (lT 0 2),rp 2 (bT h24),cC (Qax h25),rp 2 (bT h24),rp 5 (nT h26),bT h24,nT h26,bT h24,tT]
  ·exact gn 16 [4,5,100,101,102] [0,1] [bT h22,cE Qar.enc h23,oO (zL 1),oO (lT 1 2),rp 7 (bF h24),rp 5 kF,rp 2 (bF h24),fF] (hI _ (oJ h))
 ·exact gn 5 [] [] [bF h22] (hE _ (oJ h))
theorem QpH (Γ:Gam) (rv:Bool) {x0 l v x1} {s:Int} {e:(Unit)⊕(Bool)} (h:loopF (fun s=>QcH x0 l v x1 s) s=some e) (hD:sel e (fun e=>Ql5 Γ rv x0 l v x1) (fun e=>e=rv)):QmH Γ rv x0 l v x1 s:=by
 refine Qaz (C:=fun (s:Int)=>QmH Γ rv x0 l v x1 s) (D:=fun (e:(Unit)⊕(Bool))=>sel e (fun e=>Ql5 Γ rv x0 l v x1) (fun e=>e=rv)) ?_ h hD
 clear h hD s e
 intro v3 z_ h hI hE
 replace h:QcH x0 l v x1 v3=_:=h
 unfold QcH at h
 rcases Qai h with ⟨h32,h⟩|⟨h32,h⟩
 ·obtain ⟨x5,h33,h⟩:=Qae h
  rcases Qai h with ⟨h34,h⟩|⟨h34,h⟩
  ·obtain ⟨r11,h35,h⟩:=Qae h
   rcases Qai h with ⟨h36,h⟩|⟨h36,h⟩
   ·obtain rfl:=(hE _ (oJ h):_=rv)
    exact gr 14 [] [bT h32,cE Qar.enc h33,oO (zL 0),oO (lT 0 2),rp 2 (bT h34),oO (zL 1),oO (lT 1 2),rp 2 (bT h34),cC (Qax h35),bT h34,rp 6 (bT h36),rp 4 kF,rp 2 (bT h36),tT]
   ·rcases Qai h with ⟨h37,h⟩|⟨h37,h⟩
    ·obtain ⟨r12,h38,h⟩:=Qae h
     rcases Qai h with ⟨h39,h⟩|⟨h39,h⟩
     ·obtain rfl:=(hE _ (oJ h):_=rv)
      exact gr 14 [] [bT h32,cE Qar.enc h33,oO (zL 0),oO (lT 0 2),rp 2 (bT h34),oO (zL 1),oO (lT 1 2),rp 2 (bT h34),cC (Qax h35),bT h34,bF h36,oO (zL 1),oO (lT 1 2),rp 5 (bF h36),rp 2 (bT h37),oO (zL 0),oO (lT 0 2),rp 2 (bT h37),cC (Qax h38),bF h36,bT h37,bF h36,bT h39]
     ·exact gn 16 [3,4,5,8,63,64,65] [0,1,2] [bT h32,cE Qar.enc h33,oO (zL 0),oO (lT 0 2),rp 2 (bT h34),oO (zL 1),oO (lT 1 2),rp 2 (bT h34),cC (Qax h35),bT h34,bF h36,oO (zL 1),oO (lT 1 2),rp 5 (bF h36),rp 2 (bT h37),oO (zL 0),oO (lT 0 2),rp 2 (bT h37),cC (Qax h38),bF h36,bT h37,bF h36,bF h39] (hI _ (oJ h))
    ·exact gn 16 [3,4,5,8,63,64,65] [0,1,2] [bT h32,cE Qar.enc h33,oO (zL 0),oO (lT 0 2),rp 2 (bT h34),oO (zL 1),oO (lT 1 2),rp 2 (bT h34),cC (Qax h35),bT h34,bF h36,oO (zL 1),oO (lT 1 2),rp 5 (bF h36),rp 4 (bF h37),bF h36,bF h37,bF h36,fF] (hI _ (oJ h))
  ·rcases Qai h with ⟨h40,h⟩|⟨h40,h⟩
   ·obtain ⟨r13,h41,h⟩:=Qae h
    rcases Qai h with ⟨h42,h⟩|⟨h42,h⟩
    ·obtain rfl:=(hE _ (oJ h):_=rv)
     exact gr 14 [] [bT h32,cE Qar.enc h33,oO (zL 0),oO (lT 0 2),rp 5 (bF h34),fF,oO (zL 1),oO (lT 1 2),rp 5 fF,rp 2 (bT h40),oO (zL 0),oO (lT 0 2),rp 2 (bT h40),cC (Qax h41),fF,bT h40,fF,bT h42]
    ·exact gn 16 [3,4,5,8,63,64,65] [0,1,2] [bT h32,cE Qar.enc h33,oO (zL 0),oO (lT 0 2),rp 5 (bF h34),fF,oO (zL 1),oO (lT 1 2),rp 5 fF,rp 2 (bT h40),oO (zL 0),oO (lT 0 2),rp 2 (bT h40),cC (Qax h41),fF,bT h40,fF,bF h42] (hI _ (oJ h))
   ·exact gn 16 [3,4,5,8,63,64,65] [0,1,2] [bT h32,cE Qar.enc h33,oO (zL 0),oO (lT 0 2),rp 5 (bF h34),fF,oO (zL 1),oO (lT 1 2),rp 5 fF,rp 4 (bF h40),fF,bF h40,fF,fF] (hI _ (oJ h))
 ·exact gn 5 [3,4,5] [0,1,2] [bF h32] (hE _ (oJ h))
theorem QpI (Γ:Gam) (rv:Bool) {x0 l v x1} {s:Int} {e:(Unit)⊕(Bool)} (h:loopF (fun s=>Qck x0 l v x1 s) s=some e) (hD:sel e (fun e=>Ql6 Γ rv x0 l v x1) (fun e=>e=rv)):QmI Γ rv x0 l v x1 s:=by
 refine Qaz (C:=fun (s:Int)=>QmI Γ rv x0 l v x1 s) (D:=fun (e:(Unit)⊕(Bool))=>sel e (fun e=>Ql6 Γ rv x0 l v x1) (fun e=>e=rv)) ?_ h hD
 clear h hD s e
 intro v4 z_ h hI hE
 replace h:Qck x0 l v x1 v4=_:=h
 unfold Qck at h
 rcases Qai h with ⟨h46,h⟩|⟨h46,h⟩
 ·obtain ⟨x6,h47,h⟩:=Qae h
  rcases Qai h with ⟨h48,h⟩|⟨h48,h⟩
  ·obtain ⟨r15,h49,h⟩:=Qae h
   rcases Qai h with ⟨h50,h⟩|⟨h50,h⟩
   ·obtain ⟨r16,h51,h⟩:=Qae h
    rcases Qai h with ⟨h52,h⟩|⟨h52,h⟩
    ·obtain rfl:=(hE _ (oJ h):_=rv)
     exact gr 14 [] [bT h46,cE Qar.enc h47,oO (zL 1),oO (lT 1 2),rp 3 (bT h48),oO (zL 0),oO (lT 0 2),rp 2 (bT h48),cC (Qax h49),rp 2 (bT h48),rp 3 (nF h50),oO (zL 0),oO (lT 0 2),rp 2 (nF h50),cC (Qax h51),bT h48,nF h50,bT h48,bT h52]
    ·exact gn 16 [4,5,100,101,102] [0,1] [bT h46,cE Qar.enc h47,oO (zL 1),oO (lT 1 2),rp 3 (bT h48),oO (zL 0),oO (lT 0 2),rp 2 (bT h48),cC (Qax h49),rp 2 (bT h48),rp 3 (nF h50),oO (zL 0),oO (lT 0 2),rp 2 (nF h50),cC (Qax h51),bT h48,nF h50,bT h48,bF h52] (hI _ (oJ h))
   ·obtain rfl:=(hE _ (oJ h):_=rv)
    exact gr 14 [] [bT h46,cE Qar.enc h47,oO (zL 1),oO (lT 1 2),rp 3 (bT h48),oO (zL 0),oO (lT 0 2),rp 2 (bT h48),cC (Qax h49),rp 2 (bT h48),rp 5 (nT h50),bT h48,nT h50,bT h48,tT]
  ·exact gn 16 [4,5,100,101,102] [0,1] [bT h46,cE Qar.enc h47,oO (zL 1),oO (lT 1 2),rp 7 (bF h48),rp 5 kF,rp 2 (bF h48),fF] (hI _ (oJ h))
 ·exact gn 5 [] [] [bF h46] (hE _ (oJ h))
theorem QeB {x0 l v} {rv:Bool} (h:Qk7 x0 l v=some rv):AFn Tryz.prog 46 [.agg (Qac.enc x0),.agg (Qad.enc l),.agg (Qab.enc v)] [] (one (.bool rv)) []:=by
 refine QaM Tryz.func46 (by kernel_rfl) (by kernel_rfl) (fun Γ=>?_)
 unfold Qk7 at h
 obtain ⟨x1,h0,h⟩:=Qae h
 rcases Qai h with ⟨h1,h⟩|⟨h1,h⟩
 ·obtain rfl:=Option.some.inj h
  exact gr 10 [] [cE Qag.enc h0,hH (.draw 38 []),rp 11 (bT h1),tT,tT,tT,rp 6 kF,rp 6 tT,rp 5 kF,tT,tT,tT]
 ·obtain ⟨x2,h2,h⟩:=Qae h
  obtain ⟨r,h3,h⟩:=Qae h
  rcases Qai h with ⟨h4,h⟩|⟨h4,h⟩
  ·rcases Qai h with ⟨h5,h⟩|⟨h5,h⟩
   ·obtain ⟨r1,h6,h⟩:=Qae h
    rcases Qai h with ⟨h7,h⟩|⟨h7,h⟩
    ·obtain ⟨e0,h19,h⟩:=Qae h
     refine gn 16 [3,4,5,8,63,64,65] [0,1,2] [cE Qag.enc h0,hH (.draw 38 []),rp 5 (bF h1),cE Qah.enc h2,rp 4 (bF h1),cC (Qeu h3),bF h1,bF h1,rp 3 (nF h4),rp 5 (bT h5),cC (Qax h6),bT h5,nF h4,bT h5,nF h4,rp 4 (nF h7),rp 5 (nF h5),nF h7,nF h5,nF h7,fF,nL Qar.enc x0.apart] (QpF Γ rv h19 ?_)
     rcases e0 with e0|e0
     ·replace h:(bnd (QbZ l.done v.order) fun r5=>br r5 (some true) (bnd (loopF (fun s=>Qcj x0 l v x1 s) 0) (fun e=>sel e (fun (_:Unit)=>some true) (fun r8=>some r8))):Option Bool)=some _:=h
      obtain ⟨r5,h20,h⟩:=Qae h
      rcases Qai h with ⟨h21,h⟩|⟨h21,h⟩
      ·obtain rfl:=Option.some.inj h
       exact gr 6 [] [cC (Qax h20),bT h21]
      ·obtain ⟨e1,h29,h⟩:=Qae h
       refine gn 10 [4,5,100,101,102] [1,2] [cC (Qax h20),bF h21,nL Qar.enc x0.before] (QpG Γ rv h29 ?_)
       rcases e1 with e1|e1
       ·replace h:(some true:Option Bool)=some _:=h
        obtain rfl:=Option.some.inj h
        exact gr 2 [] []
       ·obtain ⟨r8,rfl⟩:∃ x,x=e1:=⟨_,rfl⟩
        replace h:(some r8:Option Bool)=some _:=h
        exact Option.some.inj h
     ·obtain ⟨r9,rfl⟩:∃ x,x=e0:=⟨_,rfl⟩
      replace h:(some r9:Option Bool)=some _:=h
      exact Option.some.inj h
    ·obtain rfl:=Option.some.inj h
     exact gr 10 [] [cE Qag.enc h0,hH (.draw 38 []),rp 5 (bF h1),cE Qah.enc h2,rp 4 (bF h1),cC (Qeu h3),bF h1,bF h1,rp 3 (nF h4),rp 5 (bT h5),cC (Qax h6),bT h5,nF h4,bT h5,nF h4,rp 4 (nT h7),rp 5 kF,nT h7,nT h7,tT]
   ·obtain ⟨r10,h30,h⟩:=Qae h
    rcases Qai h with ⟨h31,h⟩|⟨h31,h⟩
    ·obtain rfl:=Option.some.inj h
     exact gr 10 [] [cE Qag.enc h0,hH (.draw 38 []),rp 5 (bF h1),cE Qah.enc h2,rp 4 (bF h1),cC (Qeu h3),bF h1,bF h1,rp 3 (nF h4),rp 6 (bF h5),nF h4,bF h5,nF h4,rp 4 fF,rp 5 (nT h5),cC (Qax h30),fF,nT h5,fF,bT h31]
    ·obtain ⟨e2,h43,h⟩:=Qae h
     refine gn 16 [3,4,5,8,63,64,65] [0,1,2] [cE Qag.enc h0,hH (.draw 38 []),rp 5 (bF h1),cE Qah.enc h2,rp 4 (bF h1),cC (Qeu h3),bF h1,bF h1,rp 3 (nF h4),rp 6 (bF h5),nF h4,bF h5,nF h4,rp 4 fF,rp 5 (nT h5),cC (Qax h30),fF,nT h5,fF,bF h31,nL Qar.enc x0.apart] (QpH Γ rv h43 ?_)
     rcases e2 with e2|e2
     ·replace h:(bnd (QbZ l.done v.order) fun r14=>br r14 (some true) (bnd (loopF (fun s=>Qck x0 l v x1 s) 0) (fun e=>sel e (fun (_:Unit)=>some true) (fun r17=>some r17))):Option Bool)=some _:=h
      obtain ⟨r14,h44,h⟩:=Qae h
      rcases Qai h with ⟨h45,h⟩|⟨h45,h⟩
      ·obtain rfl:=Option.some.inj h
       exact gr 6 [] [cC (Qax h44),bT h45]
      ·obtain ⟨e3,h53,h⟩:=Qae h
       refine gn 10 [4,5,100,101,102] [1,2] [cC (Qax h44),bF h45,nL Qar.enc x0.before] (QpI Γ rv h53 ?_)
       rcases e3 with e3|e3
       ·replace h:(some true:Option Bool)=some _:=h
        obtain rfl:=Option.some.inj h
        exact gr 2 [] []
       ·obtain ⟨r17,rfl⟩:∃ x,x=e3:=⟨_,rfl⟩
        replace h:(some r17:Option Bool)=some _:=h
        exact Option.some.inj h
     ·obtain ⟨r18,rfl⟩:∃ x,x=e2:=⟨_,rfl⟩
      replace h:(some r18:Option Bool)=some _:=h
      exact Option.some.inj h
  ·obtain rfl:=Option.some.inj h
   exact gr 10 [] [cE Qag.enc h0,hH (.draw 38 []),rp 5 (bF h1),cE Qah.enc h2,rp 4 (bF h1),cC (Qeu h3),bF h1,bF h1,rp 3 (nT h4),rp 6 kF,nT h4,nT h4,rp 4 tT,rp 5 kF,tT,tT,tT]
end Go.Proofs.YtfjiafgldchinaaGreatDoor
