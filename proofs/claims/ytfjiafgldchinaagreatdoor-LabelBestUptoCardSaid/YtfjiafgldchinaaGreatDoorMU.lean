/- Part MU of the proof: texts L0. -/
import Derived.Test.YtfjiafgldchinaaGreatDoorMT
import Derived.Test.YtfjiafgldchinaaGreatDoorMC
import Derived.Test.YtfjiafgldchinaaGreatDoorProg
namespace Go.Proofs.YtfjiafgldchinaaGreatDoor
set_option linter.unusedVariables false
set_option linter.unusedSectionVars false
set_option linter.unusedSimpArgs false
set_option maxHeartbeats 4000000
set_option maxRecDepth 100000
def QiH (Γ:Gam) (rv:List Qac) (cf:Cf):Prop:=Go Tryz.prog Tryz.f65 [] Γ (one (lL 2 rv Qac.enc)) [] cf
def QgT (Γ:Gam) (rv:List Qac) (word:ByteArray) (l:List Qac) (l1:List Qac) (i:Int):Prop:=QiH Γ rv ⟨[.c 116,.l 116,.b 0,.c 15],⟨40,[vS 0 word,vL 1 2 l Qac.enc,vO 5 0 2 l1 Qac.enc,vI 6 i],[oS 2 164 l1 Qac.enc]⟩⟩
def Qgn (Γ:Gam) (rv:List Qac) (word:ByteArray) (l:List Qac) (l2:List Qac):Prop:=QiH Γ rv ⟨[.c 15],⟨40,[vO 5 0 2 l2 Qac.enc],[oS 2 164 l2 Qac.enc]⟩⟩
theorem Qjt (Γ:Gam) (rv:List Qac) {word l l1 i at_} {x:(List Qac×Int)⊕(List Qac)} (h:QeE word l l1 i at_=some x) (hI:∀ s:List Qac×Int,x=.inl s→QgT Γ rv word l s.1 s.2) (hE:∀ e:List Qac,x=.inr e→Qgn Γ rv word l e):QiH Γ rv ⟨[.c 3731,.b 1,.c 467,.l 116,.b 0,.c 15],⟨40,[vS 0 word,vL 1 2 l Qac.enc,vO 5 0 2 l1 Qac.enc,vI 6 i,vS 7 at_],[oS 2 164 l1 Qac.enc]⟩⟩:=by
 unfold QeE at h
 obtain ⟨x1,h5,h⟩:=Qae h
 obtain ⟨h6,h⟩:=Qat h
 exact gn 4 [0,1,5,6] [2] [cE Qac.enc h5,oO (Eq.refl ([(Qac.mk x1.err at_)].map Qac.enc).length),aO Qac.enc h6] (hI _ (oJ h))
theorem QoK (Γ:Gam) (rv:List Qac) {word l} {s:List Qac×Int} {e:List Qac} (h:QaK (fun s=>QdQ word l s.1 s.2) s=some e) (hD:Qgn Γ rv word l e):QgT Γ rv word l s.1 s.2:=by
 refine QaC (C:=fun (s:List Qac×Int)=>QgT Γ rv word l s.1 s.2) (D:=fun (e:List Qac)=>Qgn Γ rv word l e) ?_ h hD
 clear h hD s e
 rintro ⟨l1,i⟩ z_ h hI hE
 replace h:QdQ word l l1 i=_:=h
 unfold QdQ at h
 rcases Qah h with ⟨h0,h⟩|⟨h0,h⟩
 ·obtain ⟨x0,h1,h⟩:=Qae h
  rcases Qah h with ⟨h2,h⟩|⟨h2,h⟩
  ·exact gn 14 [0,1,5,6,7] [0] [nL Qac.enc l,bT h0,cE Qac.enc h1,nF h2] (Qjt Γ rv h hI hE)
  ·obtain ⟨h3,h⟩:=Qat h
   obtain ⟨h4,h⟩:=Qat h
   exact gn 14 [0,1,5,6,7] [0] [nL Qac.enc l,bT h0,cE Qac.enc h1,nT h2,oO (h3),cE Qac.enc h1,oO (h4)] (Qjt Γ rv h hI hE)
 ·exact gn 5 [5] [0] [nL Qac.enc l,bF h0] (hE _ (oJ h))
theorem QhP {word l} {rv:List Qac} (h:Qe7 word l=some rv):AFn Tryz.prog 65 [.one (.str word),.one (lL 2 l Qac.enc)] [] (one (lL 2 rv Qac.enc)) []:=by
 refine QaS Tryz.func65 (by kernel_rfl) (by kernel_rfl) (fun Γ=>?_)
 unfold Qe7 at h
 obtain ⟨e0,h7,h⟩:=Qae h
 refine gn 9 [0,1,5,6] [0] [hW 12,hH (.adopt 5 2 164)] (QoK Γ rv h7 ?_)
 obtain ⟨l2,rfl⟩:∃ x,x=e0:=⟨_,rfl⟩
 replace h:(some l2:Option (List Qac))=some _:=h
 obtain rfl:=Option.some.inj h
 exact gr 2 [] [hW 4,hH (.frz 0),rp 3 (eL l2 Qac.enc)]
def Qhd (Γ:Gam) (rv:ByteArray) (cf:Cf):Prop:=Go Tryz.prog Tryz.f110 [] Γ (one (.str rv)) [] cf
def QfY (Γ:Gam) (rv:ByteArray) (n:Int) (s0:ByteArray) (left:Int) (again:Bool):Prop:=Qhd Γ rv ⟨[.c 244,.l 244,.b 0,.c 31],⟨31,[vI 0 n,vS 3 s0,vI 4 left,vB 5 again],[]⟩⟩
def Qfr (Γ:Gam) (rv:ByteArray) (n:Int) (s1:ByteArray):Prop:=Qhd Γ rv ⟨[.c 31],⟨31,[vI 0 n,vS 3 s1],[]⟩⟩
theorem QhF (Γ:Gam) (rv:ByteArray) {n s0 left d} {x:(ByteArray×Int×Bool)⊕(ByteArray)} (h:Qc6 n s0 left d=some x) (hI:∀ s:ByteArray×Int×Bool,x=.inl s→QfY Γ rv n s.1 s.2.1 s.2.2) (hE:∀ e:ByteArray,x=.inr e→Qfr Γ rv n e):Qhd Γ rv ⟨[.c 7827,.b 1,.c 979,.l 244,.b 0,.c 31],⟨31,[vI 0 n,vS 3 s0,vI 4 left,vI 6 d],[]⟩⟩:=by
 unfold Qc6 at h
 obtain ⟨h2,h⟩:=Qat h
 exact gn 6 [0,3,4,5] [] [hH (.ints [(cvK .u8 (addK .i64 48 d))]),oO (Eq.refl ([(cvK .u8 (addK .i64 48 d))].map e_u8).length),oO (Eq.refl (([(cvK .u8 (addK .i64 48 d))].map e_u8):List (List Lf))),oO (h2),oO (oA (n:=10))] (hI _ (oJ h))
theorem Qnn (Γ:Gam) (rv:ByteArray) {n} {s:ByteArray×Int×Bool} {e:ByteArray} (h:QaK (fun s=>QeW n s.1 s.2.1 s.2.2) s=some e) (hD:Qfr Γ rv n e):QfY Γ rv n s.1 s.2.1 s.2.2:=by
 refine QaC (C:=fun (s:ByteArray×Int×Bool)=>QfY Γ rv n s.1 s.2.1 s.2.2) (D:=fun (e:ByteArray)=>Qfr Γ rv n e) ?_ h hD
 clear h hD s e
 rintro ⟨s0,left,again⟩ z_ h hI hE
 replace h:QeW n s0 left again=_:=h
 unfold QeW at h
 rcases Qah h with ⟨h0,h⟩|⟨h0,h⟩
 ·rcases Qah h with ⟨h1,h⟩|⟨h1,h⟩
  ·exact gn 14 [0,3,4,6] [] [bT h0,oO (oA (n:=10)),bT h1] (QhF Γ rv h hI hE)
  ·exact gn 14 [0,3,4,6] [] [bT h0,oO (oA (n:=10)),bF h1] (QhF Γ rv h hI hE)
 ·exact gn 5 [0,3] [] [bF h0] (hE _ (oJ h))
theorem QbC {n} {rv:ByteArray} (h:QbE n=some rv):AFn Tryz.prog 110 [.one (lI n)] [] (one (.str rv)) []:=by
 refine QaS Tryz.func110 (by kernel_rfl) (by kernel_rfl) (fun Γ=>?_)
 unfold QbE at h
 obtain ⟨e0,h3,h⟩:=Qae h
 refine gn 11 [0,3,4,5] [] [] (Qnn Γ rv h3 ?_)
 obtain ⟨s1,rfl⟩:∃ x,x=e0:=⟨_,rfl⟩
 replace h:(br (ltI n 0) (chk (QuU.size+s1.size≤9223372036854775807) (some (catS QuU s1))) (some s1):Option ByteArray)=some _:=h
 rcases Qah h with ⟨h4,h⟩|⟨h4,h⟩
 ·obtain ⟨h5,h⟩:=Qat h
  obtain rfl:=Option.some.inj h
  exact gr 6 [] [bT h4,oO (h5)]
 ·obtain rfl:=Option.some.inj h
  exact gr 7 [] [bF h4]
theorem Qf1 {c} {rv:Bool} (h:QhG c=some rv):AFn Tryz.prog 149 [.one (.int .u8 c)] [] (one (.bool rv)) []:=by
 refine QaS Tryz.func149 (by kernel_rfl) (by kernel_rfl) (fun Γ=>?_)
 unfold QhG at h
 obtain rfl:=Option.some.inj h
 exact gr 4 [] [hP,hP,hP,oI ((geI c 48)=true),oR True ((geI c 48)=true)]
theorem Qhe {c} {rv:Bool} (h:QjW c=some rv):AFn Tryz.prog 150 [.one (.int .u8 c)] [] (one (.bool rv)) []:=by
 refine QaS Tryz.func150 (by kernel_rfl) (by kernel_rfl) (fun Γ=>?_)
 unfold QjW at h
 obtain rfl:=Option.some.inj h
 exact gr 4 [] [rp 14 hP,oI ((geI c 97)=true),oR True ((geI c 97)=true),rp 2 (oI (((geI c 97)&&(leI c 122))=false)),oI ((((geI c 97)&&(leI c 122))=false)∧(geI c 65)=true),oI (((geI c 97)&&(leI c 122))=false),oI ((((geI c 97)&&(leI c 122))=false)∧(geI c 65)=true),oR True (((geI c 97)&&(leI c 122))=false),oI ((((geI c 97)&&(leI c 122))||((geI c 65)&&(leI c 90)))=false),oR True ((((geI c 97)&&(leI c 122))||((geI c 65)&&(leI c 90)))=false)]
def QnI (Γ:Gam) (rv:Bool) (cf:Cf):Prop:=Go Tryz.prog Tryz.f131 [] Γ (one (.bool rv)) [] cf
def Qk7 (Γ:Gam) (rv:Bool) (s0:ByteArray) (b:UInt8) (i:Int):Prop:=QnI Γ rv ⟨[.c 116,.l 116,.b 0,.c 15],⟨35,[vS 0 s0,vI 3 i],[]⟩⟩
def Qka (Γ:Gam) (rv:Bool) (s0:ByteArray) (b:UInt8):Prop:=QnI Γ rv ⟨[.c 15],⟨35,[],[]⟩⟩
theorem Qps (Γ:Gam) (rv:Bool) {s0 b} {s:Int} {e:(Unit)⊕(Bool)} (h:QaK (fun s=>Qd7 s0 b s) s=some e) (hD:sel e (fun e=>Qka Γ rv s0 b) (fun e=>e=rv)):Qk7 Γ rv s0 b s:=by
 refine QaC (C:=fun (s:Int)=>Qk7 Γ rv s0 b s) (D:=fun (e:(Unit)⊕(Bool))=>sel e (fun e=>Qka Γ rv s0 b) (fun e=>e=rv)) ?_ h hD
 clear h hD s e
 intro i z_ h hI hE
 replace h:Qd7 s0 b i=_:=h
 unfold Qd7 at h
 rcases Qah h with ⟨h4,h⟩|⟨h4,h⟩
 ·obtain ⟨b1,h5,h⟩:=Qae h
  obtain ⟨r1,h6,h⟩:=Qae h
  rcases Qah h with ⟨h7,h⟩|⟨h7,h⟩
  ·exact gn 14 [0,3] [] [bT h4,yE h5,cC (Qhe h6),rp 6 (nF h7),fF] (hI _ (oJ h))
  ·obtain ⟨r2,h8,h⟩:=Qae h
   rcases Qah h with ⟨h9,h⟩|⟨h9,h⟩
   ·exact gn 14 [0,3] [] [bT h4,yE h5,cC (Qhe h6),rp 3 (nT h7),yE h5,nT h7,cC (Qf1 h8),nT h7,nT h7,nF h9] (hI _ (oJ h))
   ·obtain rfl:=(hE _ (oJ h):_=rv)
    exact gr 12 [] [bT h4,yE h5,cC (Qhe h6),rp 3 (nT h7),yE h5,nT h7,cC (Qf1 h8),nT h7,nT h7,nT h9]
 ·exact gn 5 [] [] [bF h4] (hE _ (oJ h))
theorem Qd8 {s0} {rv:Bool} (h:QeO s0=some rv):AFn Tryz.prog 131 [.one (.str s0)] [] (one (.bool rv)) []:=by
 refine QaS Tryz.func131 (by kernel_rfl) (by kernel_rfl) (fun Γ=>?_)
 unfold QeO at h
 rcases Qah h with ⟨h0,h⟩|⟨h0,h⟩
 ·obtain rfl:=Option.some.inj h
  exact gr 8 [] [rp 4 hP,rp 2 (oI ((ltI (QyH s0) 1)=false)),oR True ((ltI (QyH s0) 1)=false),rp 4 (bT h0),tT]
 ·obtain ⟨b,h1,h⟩:=Qae h
  obtain ⟨r,h2,h⟩:=Qae h
  rcases Qah h with ⟨h3,h⟩|⟨h3,h⟩
  ·obtain rfl:=Option.some.inj h
   exact gr 8 [] [rp 4 hP,rp 2 (oI ((ltI (QyH s0) 1)=false)),oR True ((ltI (QyH s0) 1)=false),bF h0,bF h0,yE h1,bF h0,cC (Qf1 h2),bF h0,bT h3]
  ·obtain ⟨e0,h10,h⟩:=Qae h
   refine gn 12 [0,3] [] [rp 4 hP,rp 2 (oI ((ltI (QyH s0) 1)=false)),oR True ((ltI (QyH s0) 1)=false),bF h0,bF h0,yE h1,bF h0,cC (Qf1 h2),bF h0,bF h3] (Qps Γ rv h10 ?_)
   rcases e0 with e0|e0
   ·replace h:(some true:Option Bool)=some _:=h
    obtain rfl:=Option.some.inj h
    exact gr 2 [] []
   ·obtain ⟨r3,rfl⟩:∃ x,x=e0:=⟨_,rfl⟩
    replace h:(some r3:Option Bool)=some _:=h
    exact Option.some.inj h
def QgE (Γ:Gam) (rv:List Qac) (cf:Cf):Prop:=Go Tryz.prog Tryz.f132 [] Γ (one (lL 2 rv Qac.enc)) [] cf
def QgR (Γ:Gam) (rv:List Qac) (l:List Qai) (l2:List Qac) (i:Int):Prop:=QgE Γ rv ⟨[.c 244,.l 244,.b 0,.c 31],⟨88,[vL 0 2 l Qai.enc,vO 3 0 2 l2 Qac.enc,vI 4 i],[oS 2 164 l2 Qac.enc]⟩⟩
def Qge (Γ:Gam) (rv:List Qac) (l:List Qai) (l4:List Qac):Prop:=QgE Γ rv ⟨[.c 31],⟨88,[vO 3 0 2 l4 Qac.enc],[oS 2 164 l4 Qac.enc]⟩⟩
theorem QiX (Γ:Gam) (rv:List Qac) {l i x0 l3} {x:(List Qac×Int)⊕(List Qac)} (h:QdB l i x0 l3=some x) (hI:∀ s:List Qac×Int,x=.inl s→QgR Γ rv l s.1 s.2) (hE:∀ e:List Qac,x=.inr e→Qge Γ rv l e):QgE Γ rv ⟨[.c 7827,.b 1,.c 979,.l 244,.b 0,.c 31],⟨88,[vL 0 2 l Qai.enc,vO 3 0 2 l3 Qac.enc,vI 4 i,vP 5 1 2],[oS 2 164 l3 Qac.enc,oX 2 74 (Qai.enc x0)]⟩⟩:=by
 unfold QdB at h
 rcases Qah h with ⟨h7,h⟩|⟨h7,h⟩
 ·obtain ⟨x1,h8,h⟩:=Qae h
  rcases Qah h with ⟨h9,h⟩|⟨h9,h⟩
  ·obtain ⟨r1,h10,h⟩:=Qae h
   obtain ⟨h11,h⟩:=Qat h
   exact gn 7 [0,3,4] [3] [hH (.draw 24 []),rp 6 (bT h7),cE Qai.enc h8,rp 4 (bT h7),rp 9 (bT h9),bT h7,bT h9,bT h7,tT,cC (QbC h10),oO (Eq.refl ([(Qac.mk 13 r1)].map Qac.enc).length),aO Qac.enc h11] (hI _ (oJ h))
  ·rcases Qah h with ⟨h12,h⟩|⟨h12,h⟩
   ·obtain ⟨r2,h13,h⟩:=Qae h
    obtain ⟨h14,h⟩:=Qat h
    exact gn 7 [0,3,4] [3] [hH (.draw 24 []),rp 6 (bT h7),cE Qai.enc h8,rp 4 (bT h7),rp 6 (bF h9),cE Qai.enc h8,rp 3 (bF h9),bT h7,bF h9,bT h7,bT h12,cC (QbC h13),oO (Eq.refl ([(Qac.mk 13 r2)].map Qac.enc).length),aO Qac.enc h14] (hI _ (oJ h))
   ·exact gn 7 [0,3,4] [0] [hH (.draw 24 []),rp 6 (bT h7),cE Qai.enc h8,rp 4 (bT h7),rp 6 (bF h9),cE Qai.enc h8,rp 3 (bF h9),bT h7,bF h9,bT h7,bF h12] (hI _ (oJ h))
 ·exact gn 7 [0,3,4] [0] [hH (.draw 24 []),rp 10 (bF h7),rp 9 kF,bF h7,bF h7,fF] (hI _ (oJ h))
theorem QoA (Γ:Gam) (rv:List Qac) {l} {s:List Qac×Int} {e:List Qac} (h:QaK (fun s=>Qc2 l s.1 s.2) s=some e) (hD:Qge Γ rv l e):QgR Γ rv l s.1 s.2:=by
 refine QaC (C:=fun (s:List Qac×Int)=>QgR Γ rv l s.1 s.2) (D:=fun (e:List Qac)=>Qge Γ rv l e) ?_ h hD
 clear h hD s e
 rintro ⟨l2,i⟩ z_ h hI hE
 replace h:Qc2 l l2 i=_:=h
 unfold Qc2 at h
 rcases Qah h with ⟨h2,h⟩|⟨h2,h⟩
 ·obtain ⟨x0,h3,h⟩:=Qae h
  rcases Qah h with ⟨h4,h⟩|⟨h4,h⟩
  ·obtain ⟨r,h5,h⟩:=Qae h
   obtain ⟨h6,h⟩:=Qat h
   exact gn 14 [0,3,4,5] [3,1] [nL Qai.enc l,bT h2,cE Qai.enc h3,rp 17 hP,rp 2 (oI ((ltI x0.t 0)=false)),oR True ((ltI x0.t 0)=false),rp 4 (oI (((ltI x0.t 0)||(gtI x0.t 4096))=false)),oR True (((ltI x0.t 0)||(gtI x0.t 4096))=false),rp 5 (oI ((((ltI x0.t 0)||(gtI x0.t 4096))||(ltI x0.a x0.t))=false)),oR True ((((ltI x0.t 0)||(gtI x0.t 4096))||(ltI x0.a x0.t))=false),bT h4,cC (QbC h5),oO (Eq.refl ([(Qac.mk 2 r)].map Qac.enc).length),aO Qac.enc h6] (QiX Γ rv h hI hE)
  ·exact gn 14 [0,3,4,5] [0,1] [nL Qai.enc l,bT h2,cE Qai.enc h3,rp 17 hP,rp 2 (oI ((ltI x0.t 0)=false)),oR True ((ltI x0.t 0)=false),rp 4 (oI (((ltI x0.t 0)||(gtI x0.t 4096))=false)),oR True (((ltI x0.t 0)||(gtI x0.t 4096))=false),rp 5 (oI ((((ltI x0.t 0)||(gtI x0.t 4096))||(ltI x0.a x0.t))=false)),oR True ((((ltI x0.t 0)||(gtI x0.t 4096))||(ltI x0.a x0.t))=false),bF h4] (QiX Γ rv h hI hE)
 ·exact gn 5 [3] [0] [nL Qai.enc l,bF h2] (hE _ (oJ h))
theorem QiW (Γ:Gam) (rv:List Qac) {l l1} (h:Qew l l1=some rv):QgE Γ rv ⟨[.c 15],⟨88,[vL 0 2 l Qai.enc,vO 3 0 2 l1 Qac.enc],[oS 2 164 l1 Qac.enc]⟩⟩:=by
 unfold Qew at h
 obtain ⟨e0,h15,h⟩:=Qae h
 refine gn 5 [0,3,4] [0] [] (QoA Γ rv h15 ?_)
 obtain ⟨l4,rfl⟩:∃ x,x=e0:=⟨_,rfl⟩
 replace h:(some l4:Option (List Qac))=some _:=h
 obtain rfl:=Option.some.inj h
 exact gr 2 [] [hW 4,hH (.frz 0),rp 3 (eL l4 Qac.enc)]
theorem QhJ {l} {rv:List Qac} (h:Qeh l=some rv):AFn Tryz.prog 132 [.one (lL 2 l Qai.enc)] [] (one (lL 2 rv Qac.enc)) []:=by
 refine QaS Tryz.func132 (by kernel_rfl) (by kernel_rfl) (fun Γ=>?_)
 unfold Qeh at h
 rcases Qah h with ⟨h0,h⟩|⟨h0,h⟩
 ·obtain ⟨h1,h⟩:=Qat h
  exact gn 9 [0,3] [1] [nL Qai.enc l,hP,hP,oI ((ltI (lenI l) 1)=false),nL Qai.enc l,hP,hP,oI ((ltI (lenI l) 1)=false),oR True ((ltI (lenI l) 1)=false),bT h0,oO (Eq.refl ([(Qac.mk 4 ByteArray.empty)].map Qac.enc).length),aN (l:=([(Qac.mk 4 ByteArray.empty)]:List Qac)) Qac.enc h1] (QiW Γ rv h)
 ·exact gn 9 [0,3] [0] [nL Qai.enc l,hP,hP,oI ((ltI (lenI l) 1)=false),nL Qai.enc l,hP,hP,oI ((ltI (lenI l) 1)=false),oR True ((ltI (lenI l) 1)=false),bF h0,hW 1,hH (.adopt 3 2 164)] (QiW Γ rv h)
theorem Qcq {t} {rv:Bool} (h:QfR t=some rv):AFn Tryz.prog 133 [.one (lI t)] [] (one (.bool rv)) []:=by
 refine QaS Tryz.func133 (by kernel_rfl) (by kernel_rfl) (fun Γ=>?_)
 unfold QfR at h
 obtain rfl:=Option.some.inj h
 exact gr 4 [] [hP,hP,hP,oI ((geI t 0)=true),oR True ((geI t 0)=true)]
def Qbe (Γ:Gam) (rv:List Qac) (cf:Cf):Prop:=Go Tryz.prog Tryz.f107 [] Γ (one (lL 2 rv Qac.enc)) [] cf
def QhK (Γ:Gam) (rv:List Qac) (n:Qak) (i:Int) (r:ByteArray) (x0:Qao) (l:List Qac) (l1:List Qac) (twice:Bool) (k:Int):Prop:=Qbe Γ rv ⟨[.c 4084,.l 4084,.b 0,.c 511],⟨192,[vI 1 i,vP 2 0 2,vO 5 1 2 l1 Qac.enc,vS 6 (catS QaL r),vP 7 2 6,vB 8 twice,vI 9 k],[oX 2 25 (Qak.enc n),oS 2 164 l1 Qac.enc,oX 6 77 (Qao.enc x0)]⟩⟩
def Qhq (Γ:Gam) (rv:List Qac) (n:Qak) (i:Int) (r:ByteArray) (x0:Qao) (l:List Qac) (l1:List Qac) (twice1:Bool):Prop:=Qbe Γ rv ⟨[.c 511],⟨192,[vO 5 0 2 l1 Qac.enc,vS 6 (catS QaL r),vP 7 1 6,vB 8 twice1],[oS 2 164 l1 Qac.enc,oX 6 77 (Qao.enc x0)]⟩⟩
def QhL (Γ:Gam) (rv:List Qac) (r:ByteArray) (x0:Qao) (l:List Qac) (r1:List Qac) (l3:List Qac) (k1:Int):Prop:=Qbe Γ rv ⟨[.c 32756,.l 32756,.b 2,.c 4095],⟨192,[vO 5 0 2 l3 Qac.enc,vS 6 (catS QaL r),vP 7 1 6,vL 11 2 r1 Qac.enc,vI 12 k1],[oS 2 164 l3 Qac.enc,oX 6 77 (Qao.enc x0)]⟩⟩
def Qhr (Γ:Gam) (rv:List Qac) (r:ByteArray) (x0:Qao) (l:List Qac) (r1:List Qac) (l4:List Qac):Prop:=Qbe Γ rv ⟨[.c 4095],⟨192,[vO 5 0 2 l4 Qac.enc,vS 6 (catS QaL r),vP 7 1 6],[oS 2 164 l4 Qac.enc,oX 6 77 (Qao.enc x0)]⟩⟩
def QhM (Γ:Gam) (rv:List Qac) (r:ByteArray) (x0:Qao) (l:List Qac) (l6:List Qac) (k2:Int):Prop:=Qbe Γ rv ⟨[.c 131060,.l 131060,.b 4,.c 16383],⟨192,[vO 5 0 2 l6 Qac.enc,vS 6 (catS QaL r),vP 7 1 6,vI 13 k2],[oS 2 164 l6 Qac.enc,oX 6 77 (Qao.enc x0)]⟩⟩
def Qhs (Γ:Gam) (rv:List Qac) (r:ByteArray) (x0:Qao) (l:List Qac) (l7:List Qac):Prop:=Qbe Γ rv ⟨[.c 16383],⟨192,[vO 5 0 2 l7 Qac.enc],[oS 2 164 l7 Qac.enc]⟩⟩
theorem QmD (Γ:Gam) (rv:List Qac) {n i r x0 l l1} {s:Bool×Int} {e:Bool} (h:QaK (fun s=>QbN n i r x0 l l1 s.1 s.2) s=some e) (hD:Qhq Γ rv n i r x0 l l1 e):QhK Γ rv n i r x0 l l1 s.1 s.2:=by
 refine QaC (C:=fun (s:Bool×Int)=>QhK Γ rv n i r x0 l l1 s.1 s.2) (D:=fun (e:Bool)=>Qhq Γ rv n i r x0 l l1 e) ?_ h hD
 clear h hD s e
 rintro ⟨twice,k⟩ z_ h hI hE
 replace h:QbN n i r x0 l l1 twice k=_:=h
 unfold QbN at h
 rcases Qah h with ⟨h7,h⟩|⟨h7,h⟩
 ·obtain ⟨x1,h8,h⟩:=Qae h
  exact gn 13 [1,2,5,6,7,8,9] [0,1,2] [bT h7,cE Qao.enc h8,rp 22 hP,rp 5 (oI (twice=false)),rp 4 (oI ((twice=false)∧(eqI x0.from_ x1.from_)=true)),oI (twice=false),oI ((twice=false)∧(eqI x0.from_ x1.from_)=true),oI (twice=false),rp 4 (oI ((twice=false)∧((eqI x0.from_ x1.from_)&&(eqI x0.to_ x1.to_))=true)),oI (twice=false),oI ((twice=false)∧((eqI x0.from_ x1.from_)&&(eqI x0.to_ x1.to_))=true),oR True (twice=false)] (hI _ (oJ h))
 ·exact gn 5 [5,6,7,8] [1,2] [bF h7] (hE _ (oJ h))
theorem QmE (Γ:Gam) (rv:List Qac) {r x0 l r1} {s:List Qac×Int} {e:List Qac} (h:QaK (fun s=>QbO r x0 l r1 s.1 s.2) s=some e) (hD:Qhr Γ rv r x0 l r1 e):QhL Γ rv r x0 l r1 s.1 s.2:=by
 refine QaC (C:=fun (s:List Qac×Int)=>QhL Γ rv r x0 l r1 s.1 s.2) (D:=fun (e:List Qac)=>Qhr Γ rv r x0 l r1 e) ?_ h hD
 clear h hD s e
 rintro ⟨l3,k1⟩ z_ h hI hE
 replace h:QbO r x0 l r1 l3 k1=_:=h
 unfold QbO at h
 rcases Qah h with ⟨h13,h⟩|⟨h13,h⟩
 ·obtain ⟨x2,h14,h⟩:=Qae h
  obtain ⟨h15,h⟩:=Qat h
  exact gn 11 [5,6,7,11,12] [3,1] [nL Qac.enc r1,bT h13,cE Qac.enc h14,oO (Eq.refl ([(Qac.mk x2.err (catS QaL r))].map Qac.enc).length),aO Qac.enc h15] (hI _ (oJ h))
 ·exact gn 5 [5,6,7] [0,1] [nL Qac.enc r1,bF h13] (hE _ (oJ h))
theorem QmF (Γ:Gam) (rv:List Qac) {r x0 l} {s:List Qac×Int} {e:List Qac} (h:QaK (fun s=>QbP r x0 l s.1 s.2) s=some e) (hD:Qhs Γ rv r x0 l e):QhM Γ rv r x0 l s.1 s.2:=by
 refine QaC (C:=fun (s:List Qac×Int)=>QhM Γ rv r x0 l s.1 s.2) (D:=fun (e:List Qac)=>Qhs Γ rv r x0 l e) ?_ h hD
 clear h hD s e
 rintro ⟨l6,k2⟩ z_ h hI hE
 replace h:QbP r x0 l l6 k2=_:=h
 unfold QbP at h
 rcases Qah h with ⟨h19,h⟩|⟨h19,h⟩
 ·obtain ⟨x3,h20,h⟩:=Qae h
  obtain ⟨r2,h21,h⟩:=Qae h
  rcases Qah h with ⟨h22,h⟩|⟨h22,h⟩
  ·obtain ⟨r3,h23,h⟩:=Qae h
   rcases Qah h with ⟨h24,h⟩|⟨h24,h⟩
   ·rcases Qah h with ⟨h25,h⟩|⟨h25,h⟩
    ·obtain ⟨x4,h26,h⟩:=Qae h
     rcases Qah h with ⟨h27,h⟩|⟨h27,h⟩
     ·obtain ⟨h28,h⟩:=Qat h
      exact gn 16 [5,6,7,13] [4,1] [nL Qai.enc x0.slow,bT h19,cE Qai.enc h20,hH (.draw 26 []),cC (Qcq h21),rp 3 (nF h22),cC (Qcq h23),rp 2 (nF h22),rp 3 (nF h24),rp 7 (bT h25),cE Qai.enc h26,rp 3 (bT h25),nF h24,bT h25,nF h24,bT h27,oO (Eq.refl ([(Qac.mk 2 (catS QaL r))].map Qac.enc).length),aO Qac.enc h28] (hI _ (oJ h))
     ·exact gn 16 [5,6,7,13] [0,1] [nL Qai.enc x0.slow,bT h19,cE Qai.enc h20,hH (.draw 26 []),cC (Qcq h21),rp 3 (nF h22),cC (Qcq h23),rp 2 (nF h22),rp 3 (nF h24),rp 7 (bT h25),cE Qai.enc h26,rp 3 (bT h25),nF h24,bT h25,nF h24,bF h27] (hI _ (oJ h))
    ·exact gn 16 [5,6,7,13] [0,1] [nL Qai.enc x0.slow,bT h19,cE Qai.enc h20,hH (.draw 26 []),cC (Qcq h21),rp 3 (nF h22),cC (Qcq h23),rp 2 (nF h22),rp 3 (nF h24),rp 10 (bF h25),nF h24,bF h25,nF h24,fF] (hI _ (oJ h))
   ·obtain ⟨h29,h⟩:=Qat h
    exact gn 16 [5,6,7,13] [4,1] [nL Qai.enc x0.slow,bT h19,cE Qai.enc h20,hH (.draw 26 []),cC (Qcq h21),rp 3 (nF h22),cC (Qcq h23),rp 2 (nF h22),rp 3 (nT h24),rp 10 kF,rp 2 (nT h24),tT,oO (Eq.refl ([(Qac.mk 2 (catS QaL r))].map Qac.enc).length),aO Qac.enc h29] (hI _ (oJ h))
  ·obtain ⟨h30,h⟩:=Qat h
   exact gn 16 [5,6,7,13] [4,1] [nL Qai.enc x0.slow,bT h19,cE Qai.enc h20,hH (.draw 26 []),cC (Qcq h21),rp 5 (nT h22),tT,tT,tT,rp 10 kF,tT,tT,tT,oO (Eq.refl ([(Qac.mk 2 (catS QaL r))].map Qac.enc).length),aO Qac.enc h30] (hI _ (oJ h))
 ·exact gn 5 [5] [0] [nL Qai.enc x0.slow,bF h19] (hE _ (oJ h))
theorem Qhp (Γ:Gam) (rv:List Qac) {r x0 l l5} (h:Qbn r x0 l l5=some rv):Qbe Γ rv ⟨[.c 8191],⟨192,[vO 5 0 2 l5 Qac.enc,vS 6 (catS QaL r),vP 7 1 6],[oS 2 164 l5 Qac.enc,oX 6 77 (Qao.enc x0)]⟩⟩:=by
 unfold Qbn at h
 obtain ⟨e2,h31,h⟩:=Qae h
 refine gn 5 [5,6,7,13] [0,1] [] (QmF Γ rv h31 ?_)
 obtain ⟨l7,rfl⟩:∃ x,x=e2:=⟨_,rfl⟩
 replace h:(some l7:Option (List Qac))=some _:=h
 obtain rfl:=Option.some.inj h
 exact gr 2 [] [hW 4,hH (.frz 0),rp 3 (eL l7 Qac.enc)]
theorem Qho (Γ:Gam) (rv:List Qac) {r x0 l l2} (h:QbM r x0 l l2=some rv):Qbe Γ rv ⟨[.c 1023],⟨192,[vO 5 0 2 l2 Qac.enc,vS 6 (catS QaL r),vP 7 1 6],[oS 2 164 l2 Qac.enc,oX 6 77 (Qao.enc x0)]⟩⟩:=by
 unfold QbM at h
 obtain ⟨r1,h12,h⟩:=Qae h
 obtain ⟨e1,h16,h⟩:=Qae h
 refine gn 7 [5,6,7,11,12] [0,1] [cC (QhJ h12)] (QmE Γ rv h16 ?_)
 obtain ⟨l4,rfl⟩:∃ x,x=e1:=⟨_,rfl⟩
 replace h:(br (gtI (lenI x0.slow) 16) (chk (okN (l4++[(Qac.mk 4 (catS QaL r))]).length 24) (Qbn r x0 l (l4++[(Qac.mk 4 (catS QaL r))]))) (Qbn r x0 l l4):Option (List Qac))=some _:=h
 rcases Qah h with ⟨h17,h⟩|⟨h17,h⟩
 ·obtain ⟨h18,h⟩:=Qat h
  exact gn 5 [5,6,7] [3,1] [nL Qai.enc x0.slow,bT h17,oO (Eq.refl ([(Qac.mk 4 (catS QaL r))].map Qac.enc).length),aO Qac.enc h18] (Qhp Γ rv h)
 ·exact gn 5 [5,6,7] [0,1] [nL Qai.enc x0.slow,bF h17] (Qhp Γ rv h)
theorem Qhn (Γ:Gam) (rv:List Qac) {n i r x0 l l1} (h:QcN n i r x0 l l1=some rv):Qbe Γ rv ⟨[.c 127],⟨192,[vI 1 i,vP 2 0 2,vO 5 1 2 l1 Qac.enc,vS 6 (catS QaL r),vP 7 2 6],[oX 2 25 (Qak.enc n),oS 2 164 l1 Qac.enc,oX 6 77 (Qao.enc x0)]⟩⟩:=by
 unfold QcN at h
 obtain ⟨e0,h9,h⟩:=Qae h
 refine gn 7 [1,2,5,6,7,8,9] [0,1,2] [] (QmD Γ rv h9 ?_)
 obtain ⟨twice1,rfl⟩:∃ x,x=e0:=⟨_,rfl⟩
 replace h:(br twice1 (chk (okN (l1++[(Qac.mk 6 (catS QaL r))]).length 24) (QbM r x0 l (l1++[(Qac.mk 6 (catS QaL r))]))) (QbM r x0 l l1):Option (List Qac))=some _:=h
 rcases Qah h with ⟨h10,h⟩|⟨h10,h⟩
 ·obtain ⟨h11,h⟩:=Qat h
  exact gn 5 [5,6,7] [3,1] [bT h10,oO (Eq.refl ([(Qac.mk 6 (catS QaL r))].map Qac.enc).length),aO Qac.enc h11] (Qho Γ rv h)
 ·exact gn 5 [5,6,7] [0,1] [bF h10] (Qho Γ rv h)
theorem Qhm (Γ:Gam) (rv:List Qac) {n i r x0 l} (h:QcM n i r x0 l=some rv):Qbe Γ rv ⟨[.c 63],⟨192,[vI 1 i,vP 2 0 2,vO 5 1 2 l Qac.enc,vS 6 (catS QaL r),vP 7 2 6],[oX 2 25 (Qak.enc n),oS 2 164 l Qac.enc,oX 6 77 (Qao.enc x0)]⟩⟩:=by
 unfold QcM at h
 rcases Qah h with ⟨h5,h⟩|⟨h5,h⟩
 ·obtain ⟨h6,h⟩:=Qat h
  exact gn 5 [1,2,5,6,7] [0,4,2] [rp 18 hP,rp 2 (oI ((ltI x0.profile 0)=false)),oR True ((ltI x0.profile 0)=false),rp 2 (oI (((ltI x0.profile 0)||(gtI x0.profile 7))=false)),oR True (((ltI x0.profile 0)||(gtI x0.profile 7))=false),rp 2 (oI ((((ltI x0.profile 0)||(gtI x0.profile 7))||(ltI x0.miles 0))=false)),oR True ((((ltI x0.profile 0)||(gtI x0.profile 7))||(ltI x0.miles 0))=false),rp 4 (oI (((((ltI x0.profile 0)||(gtI x0.profile 7))||(ltI x0.miles 0))||(gtI x0.miles 10000))=false)),oR True (((((ltI x0.profile 0)||(gtI x0.profile 7))||(ltI x0.miles 0))||(gtI x0.miles 10000))=false),bT h5,oO (Eq.refl ([(Qac.mk 2 (catS QaL r))].map Qac.enc).length),aO Qac.enc h6] (Qhn Γ rv h)
 ·exact gn 5 [1,2,5,6,7] [0,1,2] [rp 18 hP,rp 2 (oI ((ltI x0.profile 0)=false)),oR True ((ltI x0.profile 0)=false),rp 2 (oI (((ltI x0.profile 0)||(gtI x0.profile 7))=false)),oR True (((ltI x0.profile 0)||(gtI x0.profile 7))=false),rp 2 (oI ((((ltI x0.profile 0)||(gtI x0.profile 7))||(ltI x0.miles 0))=false)),oR True ((((ltI x0.profile 0)||(gtI x0.profile 7))||(ltI x0.miles 0))=false),rp 4 (oI (((((ltI x0.profile 0)||(gtI x0.profile 7))||(ltI x0.miles 0))||(gtI x0.miles 10000))=false)),oR True (((((ltI x0.profile 0)||(gtI x0.profile 7))||(ltI x0.miles 0))||(gtI x0.miles 10000))=false),bF h5] (Qhn Γ rv h)
theorem QoD {n i} {rv:List Qac} (h:Qez n i=some rv):AFn Tryz.prog 107 [.agg (Qak.enc n),.one (lI i)] [] (one (lL 2 rv Qac.enc)) []:=by
 refine QaS Tryz.func107 (by kernel_rfl) (by kernel_rfl) (fun Γ=>?_)
 unfold Qez at h
 obtain ⟨r,h0,h⟩:=Qae h
 obtain ⟨h1,h⟩:=Qat h
 obtain ⟨x0,h2,h⟩:=Qae h
 rcases Qah h with ⟨h3,h⟩|⟨h3,h⟩
 ·obtain ⟨h4,h⟩:=Qat h
  exact gn 13 [1,2,5,6,7] [0,3,1] [cC (QbC h0),oO (h1),cE Qao.enc h2,rp 5 hP,rp 3 (oI ((ltI x0.from_ 0)=false)),nL Qh6 n.places,rp 11 hP,rp 2 (oI ((ltI x0.from_ 0)=false)),oR True ((ltI x0.from_ 0)=false),rp 2 (oI (((ltI x0.from_ 0)||(geI x0.from_ (lenI n.places)))=false)),oR True (((ltI x0.from_ 0)||(geI x0.from_ (lenI n.places)))=false),rp 3 (oI ((((ltI x0.from_ 0)||(geI x0.from_ (lenI n.places)))||(ltI x0.to_ 0))=false)),nL Qh6 n.places,hP,hP,rp 2 (oI ((((ltI x0.from_ 0)||(geI x0.from_ (lenI n.places)))||(ltI x0.to_ 0))=false)),oR True ((((ltI x0.from_ 0)||(geI x0.from_ (lenI n.places)))||(ltI x0.to_ 0))=false),bT h3,oO (Eq.refl ([(Qac.mk 11 (catS QaL r))].map Qac.enc).length),aN (l:=([(Qac.mk 11 (catS QaL r))]:List Qac)) Qac.enc h4] (Qhm Γ rv h)
 ·exact gn 13 [1,2,5,6,7] [0,2,1] [cC (QbC h0),oO (h1),cE Qao.enc h2,rp 5 hP,rp 3 (oI ((ltI x0.from_ 0)=false)),nL Qh6 n.places,rp 11 hP,rp 2 (oI ((ltI x0.from_ 0)=false)),oR True ((ltI x0.from_ 0)=false),rp 2 (oI (((ltI x0.from_ 0)||(geI x0.from_ (lenI n.places)))=false)),oR True (((ltI x0.from_ 0)||(geI x0.from_ (lenI n.places)))=false),rp 3 (oI ((((ltI x0.from_ 0)||(geI x0.from_ (lenI n.places)))||(ltI x0.to_ 0))=false)),nL Qh6 n.places,hP,hP,rp 2 (oI ((((ltI x0.from_ 0)||(geI x0.from_ (lenI n.places)))||(ltI x0.to_ 0))=false)),oR True ((((ltI x0.from_ 0)||(geI x0.from_ (lenI n.places)))||(ltI x0.to_ 0))=false),bF h3,hW 1,hH (.adopt 5 2 164)] (Qhm Γ rv h)
def Qcc (Γ:Gam) (rv:List Qac) (cf:Cf):Prop:=Go Tryz.prog Tryz.f106 [] Γ (one (lO 0 2 rv Qac.enc)) [oS 2 164 rv Qac.enc] cf
def Qfl (Γ:Gam) (rv:List Qac) (n:Qak) (l:List Qac) (l1:List Qac) (i:Int) (r:ByteArray) (twice:Bool) (k:Int):Prop:=Qcc Γ rv ⟨[.c 250484,.l 250484,.b 2,.c 31311,.b 1,.c 979,.l 244,.b 0,.c 31],⟨64,[vP 1 0 2,vO 3 1 2 l1 Qac.enc,vI 4 i,vS 5 (catS Qdb r),vB 6 twice,vI 7 k],[oX 2 25 (Qak.enc n),oS 2 164 l1 Qac.enc]⟩⟩
def Qe3 (Γ:Gam) (rv:List Qac) (n:Qak) (l:List Qac) (l1:List Qac) (i:Int) (r:ByteArray) (twice1:Bool):Prop:=Qcc Γ rv ⟨[.c 31311,.b 1,.c 979,.l 244,.b 0,.c 31],⟨64,[vP 1 0 2,vO 3 1 2 l1 Qac.enc,vI 4 i,vS 5 (catS Qdb r),vB 6 twice1],[oX 2 25 (Qak.enc n),oS 2 164 l1 Qac.enc]⟩⟩
def Qfk (Γ:Gam) (rv:List Qac) (n:Qak) (l:List Qac) (l1:List Qac) (i:Int):Prop:=Qcc Γ rv ⟨[.c 244,.l 244,.b 0,.c 31],⟨64,[vP 1 0 2,vO 3 1 2 l1 Qac.enc,vI 4 i],[oX 2 25 (Qak.enc n),oS 2 164 l1 Qac.enc]⟩⟩
def Qe2 (Γ:Gam) (rv:List Qac) (n:Qak) (l:List Qac) (l2:List Qac):Prop:=Qcc Γ rv ⟨[.c 31],⟨64,[vO 3 0 2 l2 Qac.enc],[oS 2 164 l2 Qac.enc]⟩⟩
theorem QiG (Γ:Gam) (rv:List Qac) {n l l1 i r} {s:Bool×Int} {e:Bool} (h:QaK (fun s=>Qa2 n l l1 i r s.1 s.2) s=some e) (hD:Qe3 Γ rv n l l1 i r e):Qfl Γ rv n l l1 i r s.1 s.2:=by
 refine QaC (C:=fun (s:Bool×Int)=>Qfl Γ rv n l l1 i r s.1 s.2) (D:=fun (e:Bool)=>Qe3 Γ rv n l l1 i r e) ?_ h hD
 clear h hD s e
 rintro ⟨twice,k⟩ z_ h hI hE
 replace h:Qa2 n l l1 i r twice k=_:=h
 unfold Qa2 at h
 rcases Qah h with ⟨h8,h⟩|⟨h8,h⟩
 ·rcases Qah h with ⟨h9,h⟩|⟨h9,h⟩
  ·exact gn 11 [1,3,4,5,6,7] [0,1] [bT h8,hH (.draw 14 []),rp 12 (bT h9)] (hI _ (oJ h))
  ·obtain ⟨x1,h10,h⟩:=Qae h
   obtain ⟨x2,h11,h⟩:=Qae h
   exact gn 11 [1,3,4,5,6,7] [0,1] [bT h8,hH (.draw 14 []),rp 4 (bF h9),cE Qh6 h10,rp 5 (bF h9),cE Qh6 h11,rp 3 (bF h9)] (hI _ (oJ h))
 ·exact gn 5 [1,3,4,5,6] [0,1] [bF h8] (hE _ (oJ h))
theorem QiF (Γ:Gam) (rv:List Qac) {n l} {s:List Qac×Int} {e:List Qac} (h:QaK (fun s=>Qa1 n l s.1 s.2) s=some e) (hD:Qe2 Γ rv n l e):Qfk Γ rv n l s.1 s.2:=by
 refine QaC (C:=fun (s:List Qac×Int)=>Qfk Γ rv n l s.1 s.2) (D:=fun (e:List Qac)=>Qe2 Γ rv n l e) ?_ h hD
 clear h hD s e
 rintro ⟨l1,i⟩ z_ h hI hE
 replace h:Qa1 n l l1 i=_:=h
 unfold Qa1 at h
 rcases Qah h with ⟨h2,h⟩|⟨h2,h⟩
 ·obtain ⟨r,h3,h⟩:=Qae h
  obtain ⟨h4,h⟩:=Qat h
  obtain ⟨x0,h5,h⟩:=Qae h
  obtain ⟨r1,h6,h⟩:=Qae h
  rcases Qah h with ⟨h7,h⟩|⟨h7,h⟩
  ·obtain ⟨e0,h12,h⟩:=Qae h
   refine gn 21 [1,3,4,5,6,7] [0,1] [nL Qh6 n.places,bT h2,cC (QbC h3),oO (h4),cE Qh6 h5,cC (Qd8 h6),nF h7] (QiG Γ rv h12 ?_)
   obtain ⟨twice1,rfl⟩:∃ x,x=e0:=⟨_,rfl⟩
   replace h:(br twice1 (chk (okN (l1++[(Qac.mk 6 (catS Qdb r))]).length 24) (some (.inl ((l1++[(Qac.mk 6 (catS Qdb r))]),(addK .i64 i 1))))) (some (.inl (l1,(addK .i64 i 1)))):Option ((List Qac×Int)⊕(List Qac)))=some _:=h
   rcases Qah h with ⟨h13,h⟩|⟨h13,h⟩
   ·obtain ⟨h14,h⟩:=Qat h
    exact gn 7 [1,3,4] [0,3] [bT h13,oO (Eq.refl ([(Qac.mk 6 (catS Qdb r))].map Qac.enc).length),aO Qac.enc h14] (hI _ (oJ h))
   ·exact gn 7 [1,3,4] [0,1] [bF h13] (hI _ (oJ h))
  ·obtain ⟨h15,h⟩:=Qat h
   exact gn 18 [1,3,4] [0,3] [nL Qh6 n.places,bT h2,cC (QbC h3),oO (h4),cE Qh6 h5,cC (Qd8 h6),nT h7,oO (Eq.refl ([(Qac.mk 5 (catS Qdb r))].map Qac.enc).length),aO Qac.enc h15] (hI _ (oJ h))
 ·exact gn 5 [3] [1] [nL Qh6 n.places,bF h2] (hE _ (oJ h))
theorem Qe1 (Γ:Gam) (rv:List Qac) {n l} (h:Qb2 n l=some rv):Qcc Γ rv ⟨[.c 15],⟨64,[vP 1 0 2,vO 3 1 2 l Qac.enc],[oX 2 25 (Qak.enc n),oS 2 164 l Qac.enc]⟩⟩:=by
 unfold Qb2 at h
 obtain ⟨e1,h16,h⟩:=Qae h
 refine gn 5 [1,3,4] [0,1] [] (QiF Γ rv h16 ?_)
 obtain ⟨l2,rfl⟩:∃ x,x=e1:=⟨_,rfl⟩
 replace h:(some l2:Option (List Qac))=some _:=h
 obtain rfl:=Option.some.inj h
 exact gr 2 [0] []
theorem Qf2 {n} {rv:List Qac} (h:QcC n=some rv):AFn Tryz.prog 106 [.agg (Qak.enc n)] [] (one (lO 0 2 rv Qac.enc)) [oS 2 164 rv Qac.enc]:=by
 refine QaS Tryz.func106 (by kernel_rfl) (by kernel_rfl) (fun Γ=>?_)
 unfold QcC at h
 rcases Qah h with ⟨h0,h⟩|⟨h0,h⟩
 ·obtain ⟨h1,h⟩:=Qat h
  exact gn 9 [1,3] [0,2] [nL Qh6 n.places,bT h0,oO (Eq.refl ([(Qac.mk 4 QjR)].map Qac.enc).length),aN (l:=([(Qac.mk 4 QjR)]:List Qac)) Qac.enc h1] (Qe1 Γ rv h)
 ·exact gn 9 [1,3] [0,1] [nL Qh6 n.places,bF h0,hW 1,hH (.adopt 3 2 164)] (Qe1 Γ rv h)
def QiE (Γ:Gam) (rv:List Qac) (cf:Cf):Prop:=Go Tryz.prog Tryz.f66 [] Γ (one (lL 2 rv Qac.enc)) [] cf
def Qkf (Γ:Gam) (rv:List Qac) (n:Qak) (l:List Qac) (l1:List Qac) (i:Int):Prop:=QiE Γ rv ⟨[.c 244,.l 244,.b 0,.c 31],⟨28,[vP 1 0 2,vO 3 1 2 l1 Qac.enc,vI 4 i],[oX 2 25 (Qak.enc n),oS 2 164 l1 Qac.enc]⟩⟩
def Qi0 (Γ:Gam) (rv:List Qac) (n:Qak) (l:List Qac) (l2:List Qac):Prop:=QiE Γ rv ⟨[.c 31],⟨28,[vO 3 0 2 l2 Qac.enc],[oS 2 164 l2 Qac.enc]⟩⟩
theorem QoC (Γ:Gam) (rv:List Qac) {n l} {s:List Qac×Int} {e:List Qac} (h:QaK (fun s=>Qcx n l s.1 s.2) s=some e) (hD:Qi0 Γ rv n l e):Qkf Γ rv n l s.1 s.2:=by
 refine QaC (C:=fun (s:List Qac×Int)=>Qkf Γ rv n l s.1 s.2) (D:=fun (e:List Qac)=>Qi0 Γ rv n l e) ?_ h hD
 clear h hD s e
 rintro ⟨l1,i⟩ z_ h hI hE
 replace h:Qcx n l l1 i=_:=h
 unfold Qcx at h
 rcases Qah h with ⟨h3,h⟩|⟨h3,h⟩
 ·obtain ⟨r1,h4,h⟩:=Qae h
  obtain ⟨h5,h⟩:=Qat h
  exact gn 11 [1,3,4] [0,2] [nL Qao.enc n.arcs,bT h3,cC (QoD h4),aO Qac.enc h5] (hI _ (oJ h))
 ·exact gn 5 [3] [1] [nL Qao.enc n.arcs,bF h3] (hE _ (oJ h))
theorem QiZ (Γ:Gam) (rv:List Qac) {n l} (h:Qex n l=some rv):QiE Γ rv ⟨[.c 15],⟨28,[vP 1 0 2,vO 3 1 2 l Qac.enc],[oX 2 25 (Qak.enc n),oS 2 164 l Qac.enc]⟩⟩:=by
 unfold Qex at h
 obtain ⟨e0,h6,h⟩:=Qae h
 refine gn 5 [1,3,4] [0,1] [] (QoC Γ rv h6 ?_)
 obtain ⟨l2,rfl⟩:∃ x,x=e0:=⟨_,rfl⟩
 replace h:(some l2:Option (List Qac))=some _:=h
 obtain rfl:=Option.some.inj h
 exact gr 2 [] [hW 4,hH (.frz 0),rp 3 (eL l2 Qac.enc)]
theorem Qqw {n} {rv:List Qac} (h:Qgf n=some rv):AFn Tryz.prog 66 [.agg (Qak.enc n)] [] (one (lL 2 rv Qac.enc)) []:=by
 refine QaS Tryz.func66 (by kernel_rfl) (by kernel_rfl) (fun Γ=>?_)
 unfold Qgf at h
 obtain ⟨r,h0,h⟩:=Qae h
 rcases Qah h with ⟨h1,h⟩|⟨h1,h⟩
 ·obtain ⟨h2,h⟩:=Qat h
  exact gn 9 [1,3] [0,3] [cC (Qf2 h0),nL Qao.enc n.arcs,bT h1,oO (Eq.refl ([(Qac.mk 4 Qpp)].map Qac.enc).length),aO Qac.enc h2] (QiZ Γ rv h)
 ·exact gn 9 [1,3] [0,1] [cC (Qf2 h0),nL Qao.enc n.arcs,bF h1] (QiZ Γ rv h)
theorem Qal {n lo hi} {rv:Bool} (h:QaH n lo hi=some rv):AFn Tryz.prog 108 [.one (lI n),.one (lI lo),.one (lI hi)] [] (one (.bool rv)) []:=by
 refine QaS Tryz.func108 (by kernel_rfl) (by kernel_rfl) (fun Γ=>?_)
 unfold QaH at h
 obtain rfl:=Option.some.inj h
 exact gr 4 [] [rp 4 hP,rp 2 (oI ((geI n lo)=true)),oR True ((geI n lo)=true)]
theorem Qe5 {l} {rv:Int} (h:QeQ l=some rv):AFn Tryz.prog 69 [.one (lL 14 l Qag.enc)] [] (one (lI rv)) []:=by
 refine QaS Tryz.func69 (by kernel_rfl) (by kernel_rfl) (fun Γ=>?_)
 unfold QeQ at h
 rcases Qah h with ⟨h0,h⟩|⟨h0,h⟩
 ·obtain rfl:=Option.some.inj h
  exact gr 8 [] [nL Qag.enc l,bT h0]
 ·obtain ⟨x0,h1,h⟩:=Qae h
  obtain rfl:=Option.some.inj h
  exact gr 9 [] [nL Qag.enc l,bF h0,cE Qag.enc h1,nL Qax x0.cap]
def QmI (Γ:Gam) (rv:Bool) (cf:Cf):Prop:=Go Tryz.prog Tryz.f134 [] Γ (one (.bool rv)) [] cf
def Qkl (Γ:Gam) (rv:Bool) (l:List Qag) (at_:Int) (name:ByteArray) (i:Int):Prop:=QmI Γ rv ⟨[.c 52,.l 52,.b 0,.c 7],⟨20,[vL 0 14 l Qag.enc,vI 1 at_,vS 2 name,vI 7 i],[]⟩⟩
def Qi4 (Γ:Gam) (rv:Bool) (l:List Qag) (at_:Int) (name:ByteArray):Prop:=QmI Γ rv ⟨[.c 7],⟨20,[],[]⟩⟩
theorem QoG (Γ:Gam) (rv:Bool) {l at_ name} {s:Int} {e:(Unit)⊕(Bool)} (h:QaK (fun s=>Qb3 l at_ name s) s=some e) (hD:sel e (fun e=>Qi4 Γ rv l at_ name) (fun e=>e=rv)):Qkl Γ rv l at_ name s:=by
 refine QaC (C:=fun (s:Int)=>Qkl Γ rv l at_ name s) (D:=fun (e:(Unit)⊕(Bool))=>sel e (fun e=>Qi4 Γ rv l at_ name) (fun e=>e=rv)) ?_ h hD
 clear h hD s e
 intro i z_ h hI hE
 replace h:Qb3 l at_ name i=_:=h
 unfold Qb3 at h
 rcases Qah h with ⟨h0,h⟩|⟨h0,h⟩
 ·obtain ⟨x0,h1,h⟩:=Qae h
  rcases Qah h with ⟨h2,h⟩|⟨h2,h⟩
  ·obtain rfl:=(hE _ (oJ h):_=rv)
   exact gr 12 [] [bT h0,cE Qag.enc h1,bT h2]
  ·exact gn 14 [0,1,2,7] [] [bT h0,cE Qag.enc h1,bF h2] (hI _ (oJ h))
 ·exact gn 5 [] [] [bF h0] (hE _ (oJ h))
theorem QlO {l at_ name} {rv:Bool} (h:Qgh l at_ name=some rv):AFn Tryz.prog 134 [.one (lL 14 l Qag.enc),.one (lI at_),.one (.str name)] [] (one (.bool rv)) []:=by
 refine QaS Tryz.func134 (by kernel_rfl) (by kernel_rfl) (fun Γ=>?_)
 unfold Qgh at h
 obtain ⟨e0,h3,h⟩:=Qae h
 refine gn 7 [0,1,2,7] [] [] (QoG Γ rv h3 ?_)
 rcases e0 with e0|e0
 ·replace h:(some false:Option Bool)=some _:=h
  obtain rfl:=Option.some.inj h
  exact gr 2 [] []
 ·obtain ⟨r,rfl⟩:∃ x,x=e0:=⟨_,rfl⟩
  replace h:(some r:Option Bool)=some _:=h
  exact Option.some.inj h
def Qkk (Γ:Gam) (rv:Bool) (cf:Cf):Prop:=Go Tryz.prog Tryz.f135 [] Γ (one (.bool rv)) [] cf
def QhN (Γ:Gam) (rv:Bool) (l:List Int) (i:Int):Prop:=Qkk Γ rv ⟨[.c 116,.l 116,.b 0,.c 15],⟨28,[vL 0 1 l Qax,vI 5 i],[]⟩⟩
def Qht (Γ:Gam) (rv:Bool) (l:List Int):Prop:=Qkk Γ rv ⟨[.c 15],⟨28,[],[]⟩⟩
theorem QmH (Γ:Gam) (rv:Bool) {l} {s:Int} {e:(Unit)⊕(Bool)} (h:QaK (fun s=>Qbo l s) s=some e) (hD:sel e (fun e=>Qht Γ rv l) (fun e=>e=rv)):QhN Γ rv l s:=by
 refine QaC (C:=fun (s:Int)=>QhN Γ rv l s) (D:=fun (e:(Unit)⊕(Bool))=>sel e (fun e=>Qht Γ rv l) (fun e=>e=rv)) ?_ h hD
 clear h hD s e
 intro i z_ h hI hE
 replace h:Qbo l i=_:=h
 unfold Qbo at h
 rcases Qah h with ⟨h2,h⟩|⟨h2,h⟩
 ·obtain ⟨x0,h3,h⟩:=Qae h
  obtain ⟨r1,h4,h⟩:=Qae h
  rcases Qah h with ⟨h5,h⟩|⟨h5,h⟩
  ·exact gn 14 [0,5] [] [nL Qax l,bT h2,cE Qax h3,cC (Qal h4),nF h5] (hI _ (oJ h))
  ·obtain rfl:=(hE _ (oJ h):_=rv)
   exact gr 12 [] [nL Qax l,bT h2,cE Qax h3,cC (Qal h4),nT h5]
 ·exact gn 5 [] [] [nL Qax l,bF h2] (hE _ (oJ h))
theorem QeB {l dims} {rv:Bool} (h:QdC l dims=some rv):AFn Tryz.prog 135 [.one (lL 1 l Qax),.one (lI dims)] [] (one (.bool rv)) []:=by
 refine QaS Tryz.func135 (by kernel_rfl) (by kernel_rfl) (fun Γ=>?_)
 unfold QdC at h
 obtain ⟨r,h0,h⟩:=Qae h
 rcases Qah h with ⟨h1,h⟩|⟨h1,h⟩
 ·obtain rfl:=Option.some.inj h
  exact gr 8 [] [nL Qax l,cC (Qal h0),hP,hP,oI ((!r)=false),nL Qax l,hP,hP,hP,rp 2 (oI ((!r)=false)),oR True ((!r)=false),bT h1]
 ·obtain ⟨e0,h6,h⟩:=Qae h
  refine gn 12 [0,5] [] [nL Qax l,cC (Qal h0),hP,hP,oI ((!r)=false),nL Qax l,hP,hP,hP,rp 2 (oI ((!r)=false)),oR True ((!r)=false),bF h1] (QmH Γ rv h6 ?_)
  rcases e0 with e0|e0
  ·replace h:(some true:Option Bool)=some _:=h
   obtain rfl:=Option.some.inj h
   exact gr 2 [] []
  ·obtain ⟨r2,rfl⟩:∃ x,x=e0:=⟨_,rfl⟩
   replace h:(some r2:Option Bool)=some _:=h
   exact Option.some.inj h
def Qbi (Γ:Gam) (rv:List Int) (cf:Cf):Prop:=Go Tryz.prog Tryz.f109 [] Γ (one (lL 1 rv Qax)) [] cf
theorem Qjc (Γ:Gam) (rv:List Int) {x0 l8} (h:QdK x0 l8=some rv):Qbi Γ rv ⟨[.c 4095],⟨125,[vP 7 0 14,vO 8 1 1 l8 Qax],[oX 14 79 (Qag.enc x0),oS 1 59 l8 Qax]⟩⟩:=by
 unfold QdK at h
 obtain ⟨r11,h30,h⟩:=Qae h
 rcases Qah h with ⟨h31,h⟩|⟨h31,h⟩
 ·obtain ⟨r12,h32,h⟩:=Qae h
  rcases Qah h with ⟨h33,h⟩|⟨h33,h⟩
  ·obtain ⟨r13,h34,h⟩:=Qae h
   rcases Qah h with ⟨h35,h⟩|⟨h35,h⟩
   ·obtain ⟨r14,h36,h⟩:=Qae h
    rcases Qah h with ⟨h37,h⟩|⟨h37,h⟩
    ·obtain rfl:=Option.some.inj h
     exact gr 7 [] [cC (Qal h30),rp 3 (nF h31),cC (Qal h32),rp 2 (nF h31),rp 3 (nF h33),cC (Qal h34),rp 2 (nF h33),rp 3 (nF h35),cC (Qal h36),rp 2 (nF h35),nF h37,hW 5,hH (.frz 1),rp 3 (eL l8 Qax)]
    ·obtain ⟨h38,h⟩:=Qat h
     obtain rfl:=Option.some.inj h
     exact gr 7 [] [cC (Qal h30),rp 3 (nF h31),cC (Qal h32),rp 2 (nF h31),rp 3 (nF h33),cC (Qal h34),rp 2 (nF h33),rp 3 (nF h35),cC (Qal h36),rp 2 (nF h35),nT h37,oO (Eq.refl ([2].map Qax).length),aO Qax h38,hW 5,hH (.frz 3),rp 4 (oO (Eq.refl ((l8++[2]).map Qax).length))]
   ·obtain ⟨h39,h⟩:=Qat h
    obtain rfl:=Option.some.inj h
    exact gr 7 [] [cC (Qal h30),rp 3 (nF h31),cC (Qal h32),rp 2 (nF h31),rp 3 (nF h33),cC (Qal h34),rp 2 (nF h33),rp 5 (nT h35),tT,oO (Eq.refl ([2].map Qax).length),aO Qax h39,hW 5,hH (.frz 3),rp 4 (oO (Eq.refl ((l8++[2]).map Qax).length))]
  ·obtain ⟨h40,h⟩:=Qat h
   obtain rfl:=Option.some.inj h
   exact gr 7 [] [cC (Qal h30),rp 3 (nF h31),cC (Qal h32),rp 2 (nF h31),rp 5 (nT h33),rp 6 tT,oO (Eq.refl ([2].map Qax).length),aO Qax h40,hW 5,hH (.frz 3),rp 4 (oO (Eq.refl ((l8++[2]).map Qax).length))]
 ·obtain ⟨h41,h⟩:=Qat h
  obtain rfl:=Option.some.inj h
  exact gr 7 [] [cC (Qal h30),rp 5 (nT h31),rp 11 tT,oO (Eq.refl ([2].map Qax).length),aO Qax h41,hW 5,hH (.frz 3),rp 4 (oO (Eq.refl ((l8++[2]).map Qax).length))]
theorem Qjb (Γ:Gam) (rv:List Int) {x0 l7} (h:QdJ x0 l7=some rv):Qbi Γ rv ⟨[.c 2047],⟨125,[vP 7 0 14,vO 8 1 1 l7 Qax],[oX 14 79 (Qag.enc x0),oS 1 59 l7 Qax]⟩⟩:=by
 unfold QdJ at h
 obtain ⟨r9,h25,h⟩:=Qae h
 rcases Qah h with ⟨h26,h⟩|⟨h26,h⟩
 ·obtain ⟨r10,h27,h⟩:=Qae h
  rcases Qah h with ⟨h28,h⟩|⟨h28,h⟩
  ·exact gn 5 [7,8] [0,1] [cC (Qal h25),rp 3 (nF h26),cC (Qal h27),rp 2 (nF h26),nF h28] (Qjc Γ rv h)
  ·obtain ⟨h29,h⟩:=Qat h
   exact gn 5 [7,8] [0,3] [cC (Qal h25),rp 3 (nF h26),cC (Qal h27),rp 2 (nF h26),nT h28,oO (Eq.refl ([16].map Qax).length),aO Qax h29] (Qjc Γ rv h)
 ·obtain ⟨h42,h⟩:=Qat h
  obtain ⟨r15,h43,h⟩:=Qae h
  rcases Qah h with ⟨h44,h⟩|⟨h44,h⟩
  ·obtain ⟨r16,h45,h⟩:=Qae h
   rcases Qah h with ⟨h46,h⟩|⟨h46,h⟩
   ·obtain ⟨r17,h47,h⟩:=Qae h
    rcases Qah h with ⟨h48,h⟩|⟨h48,h⟩
    ·obtain ⟨r18,h49,h⟩:=Qae h
     rcases Qah h with ⟨h50,h⟩|⟨h50,h⟩
     ·obtain rfl:=Option.some.inj h
      exact gr 12 [] [cC (Qal h25),rp 5 (nT h26),tT,oO (Eq.refl ([16].map Qax).length),aO Qax h42,cC (Qal h43),rp 3 (nF h44),cC (Qal h45),rp 2 (nF h44),rp 3 (nF h46),cC (Qal h47),rp 2 (nF h46),rp 3 (nF h48),cC (Qal h49),rp 2 (nF h48),nF h50,hW 5,hH (.frz 3),rp 4 (oO (Eq.refl ((l7++[16]).map Qax).length))]
     ·obtain ⟨h51,h⟩:=Qat h
      obtain rfl:=Option.some.inj h
      exact gr 12 [] [cC (Qal h25),rp 5 (nT h26),tT,oO (Eq.refl ([16].map Qax).length),aO Qax h42,cC (Qal h43),rp 3 (nF h44),cC (Qal h45),rp 2 (nF h44),rp 3 (nF h46),cC (Qal h47),rp 2 (nF h46),rp 3 (nF h48),cC (Qal h49),rp 2 (nF h48),nT h50,oO (Eq.refl ([2].map Qax).length),aO Qax h51,hW 5,hH (.frz 5),rp 4 (oO (Eq.refl (((l7++[16])++[2]).map Qax).length))]
    ·obtain ⟨h52,h⟩:=Qat h
     obtain rfl:=Option.some.inj h
     exact gr 12 [] [cC (Qal h25),rp 5 (nT h26),tT,oO (Eq.refl ([16].map Qax).length),aO Qax h42,cC (Qal h43),rp 3 (nF h44),cC (Qal h45),rp 2 (nF h44),rp 3 (nF h46),cC (Qal h47),rp 2 (nF h46),rp 5 (nT h48),tT,oO (Eq.refl ([2].map Qax).length),aO Qax h52,hW 5,hH (.frz 5),rp 4 (oO (Eq.refl (((l7++[16])++[2]).map Qax).length))]
   ·obtain ⟨h53,h⟩:=Qat h
    obtain rfl:=Option.some.inj h
    exact gr 12 [] [cC (Qal h25),rp 5 (nT h26),tT,oO (Eq.refl ([16].map Qax).length),aO Qax h42,cC (Qal h43),rp 3 (nF h44),cC (Qal h45),rp 2 (nF h44),rp 5 (nT h46),rp 6 tT,oO (Eq.refl ([2].map Qax).length),aO Qax h53,hW 5,hH (.frz 5),rp 4 (oO (Eq.refl (((l7++[16])++[2]).map Qax).length))]
  ·obtain ⟨h54,h⟩:=Qat h
   obtain rfl:=Option.some.inj h
   exact gr 12 [] [cC (Qal h25),rp 5 (nT h26),tT,oO (Eq.refl ([16].map Qax).length),aO Qax h42,cC (Qal h43),rp 5 (nT h44),rp 11 tT,oO (Eq.refl ([2].map Qax).length),aO Qax h54,hW 5,hH (.frz 5),rp 4 (oO (Eq.refl (((l7++[16])++[2]).map Qax).length))]
theorem Qja (Γ:Gam) (rv:List Int) {x0 l6} (h:QdI x0 l6=some rv):Qbi Γ rv ⟨[.c 1023],⟨125,[vP 7 0 14,vO 8 1 1 l6 Qax],[oX 14 79 (Qag.enc x0),oS 1 59 l6 Qax]⟩⟩:=by
 unfold QdI at h
 obtain ⟨r8,h22,h⟩:=Qae h
 rcases Qah h with ⟨h23,h⟩|⟨h23,h⟩
 ·obtain ⟨h24,h⟩:=Qat h
  exact gn 5 [7,8] [0,3] [cC (Qal h22),rp 4 hP,rp 2 (oI ((!r8)=false)),oR True ((!r8)=false),bT h23,oO (Eq.refl ([15].map Qax).length),aO Qax h24] (Qjb Γ rv h)
 ·exact gn 5 [7,8] [0,1] [cC (Qal h22),rp 4 hP,rp 2 (oI ((!r8)=false)),oR True ((!r8)=false),bF h23] (Qjb Γ rv h)
theorem Qi9 (Γ:Gam) (rv:List Int) {x0 l5} (h:QdH x0 l5=some rv):Qbi Γ rv ⟨[.c 511],⟨125,[vP 7 0 14,vO 8 1 1 l5 Qax],[oX 14 79 (Qag.enc x0),oS 1 59 l5 Qax]⟩⟩:=by
 unfold QdH at h
 obtain ⟨r7,h19,h⟩:=Qae h
 rcases Qah h with ⟨h20,h⟩|⟨h20,h⟩
 ·exact gn 5 [7,8] [0,1] [cC (Qal h19),nF h20] (Qja Γ rv h)
 ·obtain ⟨h21,h⟩:=Qat h
  exact gn 5 [7,8] [0,3] [cC (Qal h19),nT h20,oO (Eq.refl ([18].map Qax).length),aO Qax h21] (Qja Γ rv h)
theorem Qi8 (Γ:Gam) (rv:List Int) {l x0 l4} (h:QdG l x0 l4=some rv):Qbi Γ rv ⟨[.c 255],⟨125,[vL 1 14 l Qag.enc,vP 7 0 14,vO 8 1 1 l4 Qax],[oX 14 79 (Qag.enc x0),oS 1 59 l4 Qax]⟩⟩:=by
 unfold QdG at h
 obtain ⟨r5,h15,h⟩:=Qae h
 obtain ⟨r6,h16,h⟩:=Qae h
 rcases Qah h with ⟨h17,h⟩|⟨h17,h⟩
 ·exact gn 5 [7,8] [0,1] [hH (.draw 6 []),cC (Qe5 h15),cC (QeB h16),nF h17] (Qi9 Γ rv h)
 ·obtain ⟨h18,h⟩:=Qat h
  exact gn 5 [7,8] [0,3] [hH (.draw 6 []),cC (Qe5 h15),cC (QeB h16),nT h17,oO (Eq.refl ([17].map Qax).length),aO Qax h18] (Qi9 Γ rv h)
theorem Qie (Γ:Gam) (rv:List Int) {x0 l12} (h:Qfw x0 l12=some rv):Qbi Γ rv ⟨[.c 4095],⟨125,[vP 7 0 14,vO 8 1 1 l12 Qax],[oX 14 79 (Qag.enc x0),oS 1 59 l12 Qax]⟩⟩:=by
 unfold Qfw at h
 obtain ⟨r25,h71,h⟩:=Qae h
 rcases Qah h with ⟨h72,h⟩|⟨h72,h⟩
 ·obtain ⟨r26,h73,h⟩:=Qae h
  rcases Qah h with ⟨h74,h⟩|⟨h74,h⟩
  ·obtain ⟨r27,h75,h⟩:=Qae h
   rcases Qah h with ⟨h76,h⟩|⟨h76,h⟩
   ·obtain ⟨r28,h77,h⟩:=Qae h
    rcases Qah h with ⟨h78,h⟩|⟨h78,h⟩
    ·obtain rfl:=Option.some.inj h
     exact gr 7 [] [cC (Qal h71),rp 3 (nF h72),cC (Qal h73),rp 2 (nF h72),rp 3 (nF h74),cC (Qal h75),rp 2 (nF h74),rp 3 (nF h76),cC (Qal h77),rp 2 (nF h76),nF h78,hW 5,hH (.frz 1),rp 3 (eL l12 Qax)]
    ·obtain ⟨h79,h⟩:=Qat h
     obtain rfl:=Option.some.inj h
     exact gr 7 [] [cC (Qal h71),rp 3 (nF h72),cC (Qal h73),rp 2 (nF h72),rp 3 (nF h74),cC (Qal h75),rp 2 (nF h74),rp 3 (nF h76),cC (Qal h77),rp 2 (nF h76),nT h78,oO (Eq.refl ([2].map Qax).length),aO Qax h79,hW 5,hH (.frz 3),rp 4 (oO (Eq.refl ((l12++[2]).map Qax).length))]
   ·obtain ⟨h80,h⟩:=Qat h
    obtain rfl:=Option.some.inj h
    exact gr 7 [] [cC (Qal h71),rp 3 (nF h72),cC (Qal h73),rp 2 (nF h72),rp 3 (nF h74),cC (Qal h75),rp 2 (nF h74),rp 5 (nT h76),tT,oO (Eq.refl ([2].map Qax).length),aO Qax h80,hW 5,hH (.frz 3),rp 4 (oO (Eq.refl ((l12++[2]).map Qax).length))]
  ·obtain ⟨h81,h⟩:=Qat h
   obtain rfl:=Option.some.inj h
   exact gr 7 [] [cC (Qal h71),rp 3 (nF h72),cC (Qal h73),rp 2 (nF h72),rp 5 (nT h74),rp 6 tT,oO (Eq.refl ([2].map Qax).length),aO Qax h81,hW 5,hH (.frz 3),rp 4 (oO (Eq.refl ((l12++[2]).map Qax).length))]
 ·obtain ⟨h82,h⟩:=Qat h
  obtain rfl:=Option.some.inj h
  exact gr 7 [] [cC (Qal h71),rp 5 (nT h72),rp 11 tT,oO (Eq.refl ([2].map Qax).length),aO Qax h82,hW 5,hH (.frz 3),rp 4 (oO (Eq.refl ((l12++[2]).map Qax).length))]
theorem Qid (Γ:Gam) (rv:List Int) {x0 l11} (h:Qfv x0 l11=some rv):Qbi Γ rv ⟨[.c 2047],⟨125,[vP 7 0 14,vO 8 1 1 l11 Qax],[oX 14 79 (Qag.enc x0),oS 1 59 l11 Qax]⟩⟩:=by
 unfold Qfv at h
 obtain ⟨r23,h66,h⟩:=Qae h
 rcases Qah h with ⟨h67,h⟩|⟨h67,h⟩
 ·obtain ⟨r24,h68,h⟩:=Qae h
  rcases Qah h with ⟨h69,h⟩|⟨h69,h⟩
  ·exact gn 5 [7,8] [0,1] [cC (Qal h66),rp 3 (nF h67),cC (Qal h68),rp 2 (nF h67),nF h69] (Qie Γ rv h)
  ·obtain ⟨h70,h⟩:=Qat h
   exact gn 5 [7,8] [0,3] [cC (Qal h66),rp 3 (nF h67),cC (Qal h68),rp 2 (nF h67),nT h69,oO (Eq.refl ([16].map Qax).length),aO Qax h70] (Qie Γ rv h)
 ·obtain ⟨h83,h⟩:=Qat h
  obtain ⟨r29,h84,h⟩:=Qae h
  rcases Qah h with ⟨h85,h⟩|⟨h85,h⟩
  ·obtain ⟨r30,h86,h⟩:=Qae h
   rcases Qah h with ⟨h87,h⟩|⟨h87,h⟩
   ·obtain ⟨r31,h88,h⟩:=Qae h
    rcases Qah h with ⟨h89,h⟩|⟨h89,h⟩
    ·obtain ⟨r32,h90,h⟩:=Qae h
     rcases Qah h with ⟨h91,h⟩|⟨h91,h⟩
     ·obtain rfl:=Option.some.inj h
      exact gr 12 [] [cC (Qal h66),rp 5 (nT h67),tT,oO (Eq.refl ([16].map Qax).length),aO Qax h83,cC (Qal h84),rp 3 (nF h85),cC (Qal h86),rp 2 (nF h85),rp 3 (nF h87),cC (Qal h88),rp 2 (nF h87),rp 3 (nF h89),cC (Qal h90),rp 2 (nF h89),nF h91,hW 5,hH (.frz 3),rp 4 (oO (Eq.refl ((l11++[16]).map Qax).length))]
     ·obtain ⟨h92,h⟩:=Qat h
      obtain rfl:=Option.some.inj h
      exact gr 12 [] [cC (Qal h66),rp 5 (nT h67),tT,oO (Eq.refl ([16].map Qax).length),aO Qax h83,cC (Qal h84),rp 3 (nF h85),cC (Qal h86),rp 2 (nF h85),rp 3 (nF h87),cC (Qal h88),rp 2 (nF h87),rp 3 (nF h89),cC (Qal h90),rp 2 (nF h89),nT h91,oO (Eq.refl ([2].map Qax).length),aO Qax h92,hW 5,hH (.frz 5),rp 4 (oO (Eq.refl (((l11++[16])++[2]).map Qax).length))]
    ·obtain ⟨h93,h⟩:=Qat h
     obtain rfl:=Option.some.inj h
     exact gr 12 [] [cC (Qal h66),rp 5 (nT h67),tT,oO (Eq.refl ([16].map Qax).length),aO Qax h83,cC (Qal h84),rp 3 (nF h85),cC (Qal h86),rp 2 (nF h85),rp 3 (nF h87),cC (Qal h88),rp 2 (nF h87),rp 5 (nT h89),tT,oO (Eq.refl ([2].map Qax).length),aO Qax h93,hW 5,hH (.frz 5),rp 4 (oO (Eq.refl (((l11++[16])++[2]).map Qax).length))]
   ·obtain ⟨h94,h⟩:=Qat h
    obtain rfl:=Option.some.inj h
    exact gr 12 [] [cC (Qal h66),rp 5 (nT h67),tT,oO (Eq.refl ([16].map Qax).length),aO Qax h83,cC (Qal h84),rp 3 (nF h85),cC (Qal h86),rp 2 (nF h85),rp 5 (nT h87),rp 6 tT,oO (Eq.refl ([2].map Qax).length),aO Qax h94,hW 5,hH (.frz 5),rp 4 (oO (Eq.refl (((l11++[16])++[2]).map Qax).length))]
  ·obtain ⟨h95,h⟩:=Qat h
   obtain rfl:=Option.some.inj h
   exact gr 12 [] [cC (Qal h66),rp 5 (nT h67),tT,oO (Eq.refl ([16].map Qax).length),aO Qax h83,cC (Qal h84),rp 5 (nT h85),rp 11 tT,oO (Eq.refl ([2].map Qax).length),aO Qax h95,hW 5,hH (.frz 5),rp 4 (oO (Eq.refl (((l11++[16])++[2]).map Qax).length))]
theorem Qic (Γ:Gam) (rv:List Int) {x0 l10} (h:Qfu x0 l10=some rv):Qbi Γ rv ⟨[.c 1023],⟨125,[vP 7 0 14,vO 8 1 1 l10 Qax],[oX 14 79 (Qag.enc x0),oS 1 59 l10 Qax]⟩⟩:=by
 unfold Qfu at h
 obtain ⟨r22,h63,h⟩:=Qae h
 rcases Qah h with ⟨h64,h⟩|⟨h64,h⟩
 ·obtain ⟨h65,h⟩:=Qat h
  exact gn 5 [7,8] [0,3] [cC (Qal h63),rp 4 hP,rp 2 (oI ((!r22)=false)),oR True ((!r22)=false),bT h64,oO (Eq.refl ([15].map Qax).length),aO Qax h65] (Qid Γ rv h)
 ·exact gn 5 [7,8] [0,1] [cC (Qal h63),rp 4 hP,rp 2 (oI ((!r22)=false)),oR True ((!r22)=false),bF h64] (Qid Γ rv h)
theorem Qjd (Γ:Gam) (rv:List Int) {x0 l9} (h:Qf4 x0 l9=some rv):Qbi Γ rv ⟨[.c 511],⟨125,[vP 7 0 14,vO 8 1 1 l9 Qax],[oX 14 79 (Qag.enc x0),oS 1 59 l9 Qax]⟩⟩:=by
 unfold Qf4 at h
 obtain ⟨r21,h60,h⟩:=Qae h
 rcases Qah h with ⟨h61,h⟩|⟨h61,h⟩
 ·exact gn 5 [7,8] [0,1] [cC (Qal h60),nF h61] (Qic Γ rv h)
 ·obtain ⟨h62,h⟩:=Qat h
  exact gn 5 [7,8] [0,3] [cC (Qal h60),nT h61,oO (Eq.refl ([18].map Qax).length),aO Qax h62] (Qic Γ rv h)
theorem Qi7 (Γ:Gam) (rv:List Int) {n l x0 l3} (h:QdF n l x0 l3=some rv):Qbi Γ rv ⟨[.c 127],⟨125,[vL 1 14 l Qag.enc,vP 3 0 2,vP 7 1 14,vO 8 2 1 l3 Qax],[oX 2 25 (Qak.enc n),oX 14 79 (Qag.enc x0),oS 1 59 l3 Qax]⟩⟩:=by
 unfold QdF at h
 obtain ⟨r3,h10,h⟩:=Qae h
 rcases Qah h with ⟨h11,h⟩|⟨h11,h⟩
 ·obtain ⟨r4,h12,h⟩:=Qae h
  rcases Qah h with ⟨h13,h⟩|⟨h13,h⟩
  ·exact gn 5 [1,7,8] [1,2] [nL Qh6 n.places,cC (Qal h10),rp 5 (nF h11),nL Qh6 n.places,rp 2 (nF h11),cC (Qal h12),rp 2 (nF h11),nF h13] (Qi8 Γ rv h)
  ·obtain ⟨h14,h⟩:=Qat h
   exact gn 5 [1,7,8] [1,4] [nL Qh6 n.places,cC (Qal h10),rp 5 (nF h11),nL Qh6 n.places,rp 2 (nF h11),cC (Qal h12),rp 2 (nF h11),nT h13,oO (Eq.refl ([11].map Qax).length),aO Qax h14] (Qi8 Γ rv h)
 ·obtain ⟨h55,h⟩:=Qat h
  obtain ⟨r19,h56,h⟩:=Qae h
  obtain ⟨r20,h57,h⟩:=Qae h
  rcases Qah h with ⟨h58,h⟩|⟨h58,h⟩
  ·exact gn 10 [7,8] [1,4] [nL Qh6 n.places,cC (Qal h10),rp 9 (nT h11),tT,oO (Eq.refl ([11].map Qax).length),aO Qax h55,hH (.draw 6 []),cC (Qe5 h56),cC (QeB h57),nF h58] (Qjd Γ rv h)
  ·obtain ⟨h59,h⟩:=Qat h
   exact gn 10 [7,8] [1,6] [nL Qh6 n.places,cC (Qal h10),rp 9 (nT h11),tT,oO (Eq.refl ([11].map Qax).length),aO Qax h55,hH (.draw 6 []),cC (Qe5 h56),cC (QeB h57),nT h58,oO (Eq.refl ([17].map Qax).length),aO Qax h59] (Qjd Γ rv h)
theorem Qi6 (Γ:Gam) (rv:List Int) {n l x0 l2} (h:QdE n l x0 l2=some rv):Qbi Γ rv ⟨[.c 63],⟨125,[vL 1 14 l Qag.enc,vP 3 0 2,vP 7 1 14,vO 8 2 1 l2 Qax],[oX 2 25 (Qak.enc n),oX 14 79 (Qag.enc x0),oS 1 59 l2 Qax]⟩⟩:=by
 unfold QdE at h
 obtain ⟨r2,h7,h⟩:=Qae h
 rcases Qah h with ⟨h8,h⟩|⟨h8,h⟩
 ·exact gn 5 [1,3,7,8] [0,1,2] [cC (Qal h7),nF h8] (Qi7 Γ rv h)
 ·obtain ⟨h9,h⟩:=Qat h
  exact gn 5 [1,3,7,8] [0,1,4] [cC (Qal h7),nT h8,oO (Eq.refl ([22].map Qax).length),aO Qax h9] (Qi7 Γ rv h)
theorem Qi5 (Γ:Gam) (rv:List Int) {n l at_ x0 l1} (h:QdD n l at_ x0 l1=some rv):Qbi Γ rv ⟨[.c 31],⟨125,[vL 1 14 l Qag.enc,vI 2 at_,vP 3 0 2,vP 7 1 14,vO 8 2 1 l1 Qax],[oX 2 25 (Qak.enc n),oX 14 79 (Qag.enc x0),oS 1 59 l1 Qax]⟩⟩:=by
 unfold QdD at h
 obtain ⟨r1,h4,h⟩:=Qae h
 rcases Qah h with ⟨h5,h⟩|⟨h5,h⟩
 ·obtain ⟨h6,h⟩:=Qat h
  exact gn 5 [1,3,7,8] [0,1,4] [cC (QlO h4),bT h5,oO (Eq.refl ([6].map Qax).length),aO Qax h6] (Qi6 Γ rv h)
 ·exact gn 5 [1,3,7,8] [0,1,2] [cC (QlO h4),bF h5] (Qi6 Γ rv h)
theorem Qqy {n l at_} {rv:List Int} (h:Qgi n l at_=some rv):AFn Tryz.prog 109 [.agg (Qak.enc n),.one (lL 14 l Qag.enc),.one (lI at_)] [] (one (lL 1 rv Qax)) []:=by
 refine QaS Tryz.func109 (by kernel_rfl) (by kernel_rfl) (fun Γ=>?_)
 unfold Qgi at h
 obtain ⟨x0,h0,h⟩:=Qae h
 obtain ⟨r,h1,h⟩:=Qae h
 rcases Qah h with ⟨h2,h⟩|⟨h2,h⟩
 ·exact gn 11 [1,2,3,7,8] [0,1,2] [cE Qag.enc h0,cC (Qd8 h1),nF h2,hW 1,hH (.adopt 8 1 59)] (Qi5 Γ rv h)
 ·obtain ⟨h3,h⟩:=Qat h
  exact gn 11 [1,2,3,7,8] [0,1,3] [cE Qag.enc h0,cC (Qd8 h1),nT h2,oO (Eq.refl ([5].map Qax).length),aN (l:=([5]:List Int)) Qax h3] (Qi5 Γ rv h)
def Qe4 (Γ:Gam) (rv:List Qac) (cf:Cf):Prop:=Go Tryz.prog Tryz.f67 [] Γ (one (lL 2 rv Qac.enc)) [] cf
def Qkj (Γ:Gam) (rv:List Qac) (n:Qak) (l:List Qag) (i:Int) (r1:List Int) (l3:List Qac) (k:Int):Prop:=Qe4 Γ rv ⟨[.c 31308,.l 31308,.b 2,.b 1,.c 979,.l 244,.b 0,.c 31],⟨44,[vL 1 14 l Qag.enc,vP 2 0 2,vO 5 1 2 l3 Qac.enc,vI 6 i,vL 7 1 r1 Qax,vI 8 k],[oX 2 25 (Qak.enc n),oS 2 164 l3 Qac.enc]⟩⟩
def Qi3 (Γ:Gam) (rv:List Qac) (n:Qak) (l:List Qag) (i:Int) (r1:List Int) (l4:List Qac):Prop:=Qe4 Γ rv ⟨[.b 1,.c 979,.l 244,.b 0,.c 31],⟨44,[vL 1 14 l Qag.enc,vP 2 0 2,vO 5 1 2 l4 Qac.enc,vI 6 i],[oX 2 25 (Qak.enc n),oS 2 164 l4 Qac.enc]⟩⟩
def Qki (Γ:Gam) (rv:List Qac) (n:Qak) (l:List Qag) (l2:List Qac) (i:Int):Prop:=Qe4 Γ rv ⟨[.c 244,.l 244,.b 0,.c 31],⟨44,[vL 1 14 l Qag.enc,vP 2 0 2,vO 5 1 2 l2 Qac.enc,vI 6 i],[oX 2 25 (Qak.enc n),oS 2 164 l2 Qac.enc]⟩⟩
def Qi2 (Γ:Gam) (rv:List Qac) (n:Qak) (l:List Qag) (l5:List Qac):Prop:=Qe4 Γ rv ⟨[.c 31],⟨44,[vO 5 0 2 l5 Qac.enc],[oS 2 164 l5 Qac.enc]⟩⟩
theorem QoF (Γ:Gam) (rv:List Qac) {n l i r1} {s:List Qac×Int} {e:List Qac} (h:QaK (fun s=>Qf3 n l i r1 s.1 s.2) s=some e) (hD:Qi3 Γ rv n l i r1 e):Qkj Γ rv n l i r1 s.1 s.2:=by
 refine QaC (C:=fun (s:List Qac×Int)=>Qkj Γ rv n l i r1 s.1 s.2) (D:=fun (e:List Qac)=>Qi3 Γ rv n l i r1 e) ?_ h hD
 clear h hD s e
 rintro ⟨l3,k⟩ z_ h hI hE
 replace h:Qf3 n l i r1 l3 k=_:=h
 unfold Qf3 at h
 rcases Qah h with ⟨h5,h⟩|⟨h5,h⟩
 ·obtain ⟨x0,h6,h⟩:=Qae h
  obtain ⟨r2,h7,h⟩:=Qae h
  obtain ⟨h8,h⟩:=Qat h
  exact gn 11 [1,2,5,6,7,8] [0,3] [nL Qax r1,bT h5,hH (.draw 9 []),cE Qax h6,cC (QbC h7),oO (Eq.refl ([(Qac.mk x0 r2)].map Qac.enc).length),aO Qac.enc h8] (hI _ (oJ h))
 ·exact gn 5 [1,2,5,6] [0,1] [nL Qax r1,bF h5] (hE _ (oJ h))
theorem QoE (Γ:Gam) (rv:List Qac) {n l} {s:List Qac×Int} {e:List Qac} (h:QaK (fun s=>Qcy n l s.1 s.2) s=some e) (hD:Qi2 Γ rv n l e):Qki Γ rv n l s.1 s.2:=by
 refine QaC (C:=fun (s:List Qac×Int)=>Qki Γ rv n l s.1 s.2) (D:=fun (e:List Qac)=>Qi2 Γ rv n l e) ?_ h hD
 clear h hD s e
 rintro ⟨l2,i⟩ z_ h hI hE
 replace h:Qcy n l l2 i=_:=h
 unfold Qcy at h
 rcases Qah h with ⟨h3,h⟩|⟨h3,h⟩
 ·obtain ⟨r1,h4,h⟩:=Qae h
  obtain ⟨e0,h9,h⟩:=Qae h
  refine gn 13 [1,2,5,6,7,8] [0,1] [nL Qag.enc l,bT h3,cC (Qqy h4)] (QoF Γ rv h9 ?_)
  obtain ⟨l4,rfl⟩:∃ x,x=e0:=⟨_,rfl⟩
  replace h:(some (.inl (l4,(addK .i64 i 1))):Option ((List Qac×Int)⊕(List Qac)))=some _:=h
  exact gn 3 [1,2,5,6] [0,1] [] (hI _ (oJ h))
 ·exact gn 5 [5] [1] [nL Qag.enc l,bF h3] (hE _ (oJ h))
theorem Qi1 (Γ:Gam) (rv:List Qac) {n l l1} (h:QeA n l l1=some rv):Qe4 Γ rv ⟨[.c 15],⟨44,[vL 1 14 l Qag.enc,vP 2 0 2,vO 5 1 2 l1 Qac.enc],[oX 2 25 (Qak.enc n),oS 2 164 l1 Qac.enc]⟩⟩:=by
 unfold QeA at h
 obtain ⟨e1,h10,h⟩:=Qae h
 refine gn 5 [1,2,5,6] [0,1] [] (QoE Γ rv h10 ?_)
 obtain ⟨l5,rfl⟩:∃ x,x=e1:=⟨_,rfl⟩
 replace h:(some l5:Option (List Qac))=some _:=h
 obtain rfl:=Option.some.inj h
 exact gr 2 [] [hW 4,hH (.frz 0),rp 3 (eL l5 Qac.enc)]
theorem Qqx {n l} {rv:List Qac} (h:Qgg n l=some rv):AFn Tryz.prog 67 [.agg (Qak.enc n),.one (lL 14 l Qag.enc)] [] (one (lL 2 rv Qac.enc)) []:=by
 refine QaS Tryz.func67 (by kernel_rfl) (by kernel_rfl) (fun Γ=>?_)
 unfold Qgg at h
 obtain ⟨r,h0,h⟩:=Qae h
 rcases Qah h with ⟨h1,h⟩|⟨h1,h⟩
 ·exact gn 9 [1,2,5] [0,1] [nL Qag.enc l,cC (Qal h0),nF h1,hW 1,hH (.adopt 5 2 164)] (Qi1 Γ rv h)
 ·obtain ⟨h2,h⟩:=Qat h
  exact gn 9 [1,2,5] [0,2] [nL Qag.enc l,cC (Qal h0),nT h1,oO (Eq.refl ([(Qac.mk 4 ByteArray.empty)].map Qac.enc).length),aN (l:=([(Qac.mk 4 ByteArray.empty)]:List Qac)) Qac.enc h2] (Qi1 Γ rv h)
theorem QaA {n low high} {rv:Bool} (h:Qbp n low high=some rv):AFn Tryz.prog 76 [.one (lI n),.one (lI low),.one (lI high)] [] (one (.bool rv)) []:=by
 refine QaS Tryz.func76 (by kernel_rfl) (by kernel_rfl) (fun Γ=>?_)
 unfold Qbp at h
 obtain rfl:=Option.some.inj h
 exact gr 4 [] [rp 4 hP,rp 2 (oI ((geI n low)=true)),oR True ((geI n low)=true)]
def QmA (Γ:Gam) (rv:Bool) (cf:Cf):Prop:=Go Tryz.prog Tryz.f136 [] Γ (one (.bool rv)) [] cf
def Qkd (Γ:Gam) (rv:Bool) (a:List Int) (i:Int):Prop:=QmA Γ rv ⟨[.c 116,.l 116,.b 0,.c 15],⟨28,[vL 0 1 a Qax,vI 5 i],[]⟩⟩
def QiU (Γ:Gam) (rv:Bool) (a:List Int):Prop:=QmA Γ rv ⟨[.c 15],⟨28,[],[]⟩⟩
theorem Qoz (Γ:Gam) (rv:Bool) {a} {s:Int} {e:(Unit)⊕(Bool)} (h:QaK (fun s=>Qb0 a s) s=some e) (hD:sel e (fun e=>QiU Γ rv a) (fun e=>e=rv)):Qkd Γ rv a s:=by
 refine QaC (C:=fun (s:Int)=>Qkd Γ rv a s) (D:=fun (e:(Unit)⊕(Bool))=>sel e (fun e=>QiU Γ rv a) (fun e=>e=rv)) ?_ h hD
 clear h hD s e
 intro i z_ h hI hE
 replace h:Qb0 a i=_:=h
 unfold Qb0 at h
 rcases Qah h with ⟨h1,h⟩|⟨h1,h⟩
 ·obtain ⟨x0,h2,h⟩:=Qae h
  rcases Qah h with ⟨h3,h⟩|⟨h3,h⟩
  ·obtain rfl:=(hE _ (oJ h):_=rv)
   exact gr 12 [] [nL Qax a,bT h1,cE Qax h2,rp 6 (bT h3),tT]
  ·rcases Qah h with ⟨h4,h⟩|⟨h4,h⟩
   ·obtain rfl:=(hE _ (oJ h):_=rv)
    exact gr 12 [] [nL Qax a,bT h1,cE Qax h2,rp 3 (bF h3),cE Qax h2,rp 3 (bF h3),bT h4]
   ·exact gn 14 [0,5] [] [nL Qax a,bT h1,cE Qax h2,rp 3 (bF h3),cE Qax h2,rp 3 (bF h3),bF h4] (hI _ (oJ h))
 ·exact gn 5 [] [] [nL Qax a,bF h1] (hE _ (oJ h))
theorem QlJ {a dims} {rv:Bool} (h:Qeg a dims=some rv):AFn Tryz.prog 136 [.one (lL 1 a Qax),.one (lI dims)] [] (one (.bool rv)) []:=by
 refine QaS Tryz.func136 (by kernel_rfl) (by kernel_rfl) (fun Γ=>?_)
 unfold Qeg at h
 rcases Qah h with ⟨h0,h⟩|⟨h0,h⟩
 ·obtain rfl:=Option.some.inj h
  exact gr 8 [] [nL Qax a,bT h0]
 ·obtain ⟨e0,h5,h⟩:=Qae h
  refine gn 12 [0,5] [] [nL Qax a,bF h0] (Qoz Γ rv h5 ?_)
  rcases e0 with e0|e0
  ·replace h:(some true:Option Bool)=some _:=h
   obtain rfl:=Option.some.inj h
   exact gr 2 [] []
  ·obtain ⟨r,rfl⟩:∃ x,x=e0:=⟨_,rfl⟩
   replace h:(some r:Option Bool)=some _:=h
   exact Option.some.inj h
theorem Qbb {s0} {rv:Int} (h:Qdx s0=some rv):AFn Tryz.prog 137 [.agg (Qar.enc s0)] [] (one (lI rv)) []:=by
 refine QaS Tryz.func137 (by kernel_rfl) (by kernel_rfl) (fun Γ=>?_)
 unfold Qdx at h
 rcases Qah h with ⟨h0,h⟩|⟨h0,h⟩
 ·obtain rfl:=Option.some.inj h
  exact gr 8 [] [rp 12 hP,rp 2 (oI ((eqI s0.place (-1))=true)),oR True ((eqI s0.place (-1))=true),rp 2 (oI (((eqI s0.place (-1))&&(eqI s0.open_ 0))=true)),oR True (((eqI s0.place (-1))&&(eqI s0.open_ 0))=true),rp 2 (oI ((((eqI s0.place (-1))&&(eqI s0.open_ 0))&&(eqI s0.close 0))=true)),oR True ((((eqI s0.place (-1))&&(eqI s0.open_ 0))&&(eqI s0.close 0))=true),bT h0]
 ·rcases Qah h with ⟨h1,h⟩|⟨h1,h⟩
  ·obtain rfl:=Option.some.inj h
   exact gr 13 [] [rp 12 hP,rp 2 (oI ((eqI s0.place (-1))=true)),oR True ((eqI s0.place (-1))=true),rp 2 (oI (((eqI s0.place (-1))&&(eqI s0.open_ 0))=true)),oR True (((eqI s0.place (-1))&&(eqI s0.open_ 0))=true),rp 2 (oI ((((eqI s0.place (-1))&&(eqI s0.open_ 0))&&(eqI s0.close 0))=true)),oR True ((((eqI s0.place (-1))&&(eqI s0.open_ 0))&&(eqI s0.close 0))=true),bF h0,rp 22 hP,rp 2 (oI ((ltI s0.place 0)=false)),oR True ((ltI s0.place 0)=false),rp 4 (oI (((ltI s0.place 0)||(ltI s0.open_ 0))=false)),oR True (((ltI s0.place 0)||(ltI s0.open_ 0))=false),rp 2 (oI ((((ltI s0.place 0)||(ltI s0.open_ 0))||(gtI s0.open_ s0.close))=false)),oR True ((((ltI s0.place 0)||(ltI s0.open_ 0))||(gtI s0.open_ s0.close))=false),rp 2 (oI (((((ltI s0.place 0)||(ltI s0.open_ 0))||(gtI s0.open_ s0.close))||(gtI s0.close 4096))=false)),oR True (((((ltI s0.place 0)||(ltI s0.open_ 0))||(gtI s0.open_ s0.close))||(gtI s0.close 4096))=false),rp 2 (oI ((((((ltI s0.place 0)||(ltI s0.open_ 0))||(gtI s0.open_ s0.close))||(gtI s0.close 4096))||(ltI s0.service 0))=false)),oR True ((((((ltI s0.place 0)||(ltI s0.open_ 0))||(gtI s0.open_ s0.close))||(gtI s0.close 4096))||(ltI s0.service 0))=false),bT h1]
  ·obtain rfl:=Option.some.inj h
   exact gr 14 [] [rp 12 hP,rp 2 (oI ((eqI s0.place (-1))=true)),oR True ((eqI s0.place (-1))=true),rp 2 (oI (((eqI s0.place (-1))&&(eqI s0.open_ 0))=true)),oR True (((eqI s0.place (-1))&&(eqI s0.open_ 0))=true),rp 2 (oI ((((eqI s0.place (-1))&&(eqI s0.open_ 0))&&(eqI s0.close 0))=true)),oR True ((((eqI s0.place (-1))&&(eqI s0.open_ 0))&&(eqI s0.close 0))=true),bF h0,rp 22 hP,rp 2 (oI ((ltI s0.place 0)=false)),oR True ((ltI s0.place 0)=false),rp 4 (oI (((ltI s0.place 0)||(ltI s0.open_ 0))=false)),oR True (((ltI s0.place 0)||(ltI s0.open_ 0))=false),rp 2 (oI ((((ltI s0.place 0)||(ltI s0.open_ 0))||(gtI s0.open_ s0.close))=false)),oR True ((((ltI s0.place 0)||(ltI s0.open_ 0))||(gtI s0.open_ s0.close))=false),rp 2 (oI (((((ltI s0.place 0)||(ltI s0.open_ 0))||(gtI s0.open_ s0.close))||(gtI s0.close 4096))=false)),oR True (((((ltI s0.place 0)||(ltI s0.open_ 0))||(gtI s0.open_ s0.close))||(gtI s0.close 4096))=false),rp 2 (oI ((((((ltI s0.place 0)||(ltI s0.open_ 0))||(gtI s0.open_ s0.close))||(gtI s0.close 4096))||(ltI s0.service 0))=false)),oR True ((((((ltI s0.place 0)||(ltI s0.open_ 0))||(gtI s0.open_ s0.close))||(gtI s0.close 4096))||(ltI s0.service 0))=false),bF h1]
def Qba (Γ:Gam) (rv:List Int) (cf:Cf):Prop:=Go Tryz.prog Tryz.f111 [] Γ (one (lL 1 rv Qax)) [] cf
def Qko (Γ:Gam) (rv:List Int) (places:Int) (dims:Int) (types:Int) (l:List Qaf) (at_:Int) (x0:Qaf) (l1:List Int) (i:Int):Prop:=Qba Γ rv ⟨[.c 500,.l 500,.b 0,.c 63],⟨156,[vI 0 places,vI 1 dims,vI 2 types,vL 3 16 l Qaf.enc,vI 4 at_,vO 11 0 1 l1 Qax,vP 12 1 16,vI 13 i],[oS 1 59 l1 Qax,oX 16 83 (Qaf.enc x0)]⟩⟩
def Qjq (Γ:Gam) (rv:List Int) (places:Int) (dims:Int) (types:Int) (l:List Qaf) (at_:Int) (x0:Qaf) (l1:List Int) (l2:List Int):Prop:=Qba Γ rv ⟨[.c 63],⟨156,[vI 0 places,vI 1 dims,vI 2 types,vO 11 0 1 l2 Qax,vP 12 1 16],[oS 1 59 l2 Qax,oX 16 83 (Qaf.enc x0)]⟩⟩
theorem QoJ (Γ:Gam) (rv:List Int) {places dims types l at_ x0 l1} {s:Int} {e:List Int} (h:QaK (fun s=>Qb4 places dims types l at_ x0 l1 s) s=some e) (hD:Qjq Γ rv places dims types l at_ x0 l1 e):Qko Γ rv places dims types l at_ x0 l1 s:=by
 refine QaC (C:=fun (s:Int)=>Qko Γ rv places dims types l at_ x0 l1 s) (D:=fun (e:List Int)=>Qjq Γ rv places dims types l at_ x0 l1 e) ?_ h hD
 clear h hD s e
 intro i z_ h hI hE
 replace h:Qb4 places dims types l at_ x0 l1 i=_:=h
 unfold Qb4 at h
 rcases Qah h with ⟨h4,h⟩|⟨h4,h⟩
 ·obtain ⟨x1,h5,h⟩:=Qae h
  rcases Qah h with ⟨h6,h⟩|⟨h6,h⟩
  ·obtain ⟨h7,h⟩:=Qat h
   exact gn 13 [0,1,2,11,12] [3,1] [bT h4,hH (.draw 8 []),cE Qaf.enc h5,bT h6,oO (Eq.refl ([6].map Qax).length),aO Qax h7] (hE _ (oJ h))
  ·exact gn 14 [0,1,2,3,4,11,12,13] [0,1] [bT h4,hH (.draw 8 []),cE Qaf.enc h5,bF h6] (hI _ (oJ h))
 ·exact gn 5 [0,1,2,11,12] [0,1] [bF h4] (hE _ (oJ h))
theorem Qjl (Γ:Gam) (rv:List Int) {types x0 l6} (h:QdO types x0 l6=some rv):Qba Γ rv ⟨[.c 2047],⟨156,[vI 2 types,vO 11 0 1 l6 Qax,vP 12 1 16],[oS 1 59 l6 Qax,oX 16 83 (Qaf.enc x0)]⟩⟩:=by
 unfold QdO at h
 obtain ⟨r6,h25,h⟩:=Qae h
 rcases Qah h with ⟨h26,h⟩|⟨h26,h⟩
 ·obtain ⟨r7,h27,h⟩:=Qae h
  rcases Qah h with ⟨h28,h⟩|⟨h28,h⟩
  ·obtain ⟨h29,h⟩:=Qat h
   obtain rfl:=Option.some.inj h
   exact gr 9 [] [rp 5 hP,rp 3 (oI ((neI x0.pick.place (-1))=true)),oR True ((neI x0.pick.place (-1))=true),cC (QaA h25),rp 3 (nF h26),cC (QaA h27),rp 2 (nF h26),rp 26 hP,rp 4 (oI ((!r7)=false)),oI (((!r7)=false)∧(gtI x0.split 1)=true),oR True ((!r7)=false),rp 2 (oI (((!r7)||((gtI x0.split 1)&&((neI x0.pick.place (-1))&&(neI x0.drop.place (-1)))))=false)),oR True (((!r7)||((gtI x0.split 1)&&((neI x0.pick.place (-1))&&(neI x0.drop.place (-1)))))=false),rp 3 (oI ((((!r7)||((gtI x0.split 1)&&((neI x0.pick.place (-1))&&(neI x0.drop.place (-1)))))||(ltI x0.last_ (-1)))=false)),oR True ((((!r7)||((gtI x0.split 1)&&((neI x0.pick.place (-1))&&(neI x0.drop.place (-1)))))||(ltI x0.last_ (-1)))=false),rp 2 (oI (((((!r7)||((gtI x0.split 1)&&((neI x0.pick.place (-1))&&(neI x0.drop.place (-1)))))||(ltI x0.last_ (-1)))||(geI x0.last_ types))=false)),oR True (((((!r7)||((gtI x0.split 1)&&((neI x0.pick.place (-1))&&(neI x0.drop.place (-1)))))||(ltI x0.last_ (-1)))||(geI x0.last_ types))=false),rp 3 (oI ((((((!r7)||((gtI x0.split 1)&&((neI x0.pick.place (-1))&&(neI x0.drop.place (-1)))))||(ltI x0.last_ (-1)))||(geI x0.last_ types))||(ltI x0.now (-1)))=false)),oR True ((((((!r7)||((gtI x0.split 1)&&((neI x0.pick.place (-1))&&(neI x0.drop.place (-1)))))||(ltI x0.last_ (-1)))||(geI x0.last_ types))||(ltI x0.now (-1)))=false),bT h28,oO (Eq.refl ([2].map Qax).length),aO Qax h29,hW 5,hH (.frz 3),rp 4 (oO (Eq.refl ((l6++[2]).map Qax).length))]
  ·obtain rfl:=Option.some.inj h
   exact gr 9 [] [rp 5 hP,rp 3 (oI ((neI x0.pick.place (-1))=true)),oR True ((neI x0.pick.place (-1))=true),cC (QaA h25),rp 3 (nF h26),cC (QaA h27),rp 2 (nF h26),rp 26 hP,rp 4 (oI ((!r7)=false)),oI (((!r7)=false)∧(gtI x0.split 1)=true),oR True ((!r7)=false),rp 2 (oI (((!r7)||((gtI x0.split 1)&&((neI x0.pick.place (-1))&&(neI x0.drop.place (-1)))))=false)),oR True (((!r7)||((gtI x0.split 1)&&((neI x0.pick.place (-1))&&(neI x0.drop.place (-1)))))=false),rp 3 (oI ((((!r7)||((gtI x0.split 1)&&((neI x0.pick.place (-1))&&(neI x0.drop.place (-1)))))||(ltI x0.last_ (-1)))=false)),oR True ((((!r7)||((gtI x0.split 1)&&((neI x0.pick.place (-1))&&(neI x0.drop.place (-1)))))||(ltI x0.last_ (-1)))=false),rp 2 (oI (((((!r7)||((gtI x0.split 1)&&((neI x0.pick.place (-1))&&(neI x0.drop.place (-1)))))||(ltI x0.last_ (-1)))||(geI x0.last_ types))=false)),oR True (((((!r7)||((gtI x0.split 1)&&((neI x0.pick.place (-1))&&(neI x0.drop.place (-1)))))||(ltI x0.last_ (-1)))||(geI x0.last_ types))=false),rp 3 (oI ((((((!r7)||((gtI x0.split 1)&&((neI x0.pick.place (-1))&&(neI x0.drop.place (-1)))))||(ltI x0.last_ (-1)))||(geI x0.last_ types))||(ltI x0.now (-1)))=false)),oR True ((((((!r7)||((gtI x0.split 1)&&((neI x0.pick.place (-1))&&(neI x0.drop.place (-1)))))||(ltI x0.last_ (-1)))||(geI x0.last_ types))||(ltI x0.now (-1)))=false),bF h28,hW 5,hH (.frz 0),rp 3 (eL l6 Qax)]
 ·obtain ⟨h30,h⟩:=Qat h
  obtain rfl:=Option.some.inj h
  exact gr 9 [] [rp 5 hP,rp 3 (oI ((neI x0.pick.place (-1))=true)),oR True ((neI x0.pick.place (-1))=true),cC (QaA h25),rp 5 (nT h26),rp 4 tT,kF,rp 21 tT,oO (Eq.refl ([2].map Qax).length),aO Qax h30,hW 5,hH (.frz 3),rp 4 (oO (Eq.refl ((l6++[2]).map Qax).length))]
theorem Qjn (Γ:Gam) (rv:List Int) {types x0 l8} (h:Qf6 types x0 l8=some rv):Qba Γ rv ⟨[.c 2047],⟨156,[vI 2 types,vO 11 0 1 l8 Qax,vP 12 1 16],[oS 1 59 l8 Qax,oX 16 83 (Qaf.enc x0)]⟩⟩:=by
 unfold Qf6 at h
 obtain ⟨r10,h37,h⟩:=Qae h
 rcases Qah h with ⟨h38,h⟩|⟨h38,h⟩
 ·obtain ⟨r11,h39,h⟩:=Qae h
  rcases Qah h with ⟨h40,h⟩|⟨h40,h⟩
  ·obtain ⟨h41,h⟩:=Qat h
   obtain rfl:=Option.some.inj h
   exact gr 9 [] [rp 5 hP,rp 3 (oI ((neI x0.pick.place (-1))=true)),oR True ((neI x0.pick.place (-1))=true),cC (QaA h37),rp 3 (nF h38),cC (QaA h39),rp 2 (nF h38),rp 26 hP,rp 4 (oI ((!r11)=false)),oI (((!r11)=false)∧(gtI x0.split 1)=true),oR True ((!r11)=false),rp 2 (oI (((!r11)||((gtI x0.split 1)&&((neI x0.pick.place (-1))&&(neI x0.drop.place (-1)))))=false)),oR True (((!r11)||((gtI x0.split 1)&&((neI x0.pick.place (-1))&&(neI x0.drop.place (-1)))))=false),rp 3 (oI ((((!r11)||((gtI x0.split 1)&&((neI x0.pick.place (-1))&&(neI x0.drop.place (-1)))))||(ltI x0.last_ (-1)))=false)),oR True ((((!r11)||((gtI x0.split 1)&&((neI x0.pick.place (-1))&&(neI x0.drop.place (-1)))))||(ltI x0.last_ (-1)))=false),rp 2 (oI (((((!r11)||((gtI x0.split 1)&&((neI x0.pick.place (-1))&&(neI x0.drop.place (-1)))))||(ltI x0.last_ (-1)))||(geI x0.last_ types))=false)),oR True (((((!r11)||((gtI x0.split 1)&&((neI x0.pick.place (-1))&&(neI x0.drop.place (-1)))))||(ltI x0.last_ (-1)))||(geI x0.last_ types))=false),rp 3 (oI ((((((!r11)||((gtI x0.split 1)&&((neI x0.pick.place (-1))&&(neI x0.drop.place (-1)))))||(ltI x0.last_ (-1)))||(geI x0.last_ types))||(ltI x0.now (-1)))=false)),oR True ((((((!r11)||((gtI x0.split 1)&&((neI x0.pick.place (-1))&&(neI x0.drop.place (-1)))))||(ltI x0.last_ (-1)))||(geI x0.last_ types))||(ltI x0.now (-1)))=false),bT h40,oO (Eq.refl ([2].map Qax).length),aO Qax h41,hW 5,hH (.frz 3),rp 4 (oO (Eq.refl ((l8++[2]).map Qax).length))]
  ·obtain rfl:=Option.some.inj h
   exact gr 9 [] [rp 5 hP,rp 3 (oI ((neI x0.pick.place (-1))=true)),oR True ((neI x0.pick.place (-1))=true),cC (QaA h37),rp 3 (nF h38),cC (QaA h39),rp 2 (nF h38),rp 26 hP,rp 4 (oI ((!r11)=false)),oI (((!r11)=false)∧(gtI x0.split 1)=true),oR True ((!r11)=false),rp 2 (oI (((!r11)||((gtI x0.split 1)&&((neI x0.pick.place (-1))&&(neI x0.drop.place (-1)))))=false)),oR True (((!r11)||((gtI x0.split 1)&&((neI x0.pick.place (-1))&&(neI x0.drop.place (-1)))))=false),rp 3 (oI ((((!r11)||((gtI x0.split 1)&&((neI x0.pick.place (-1))&&(neI x0.drop.place (-1)))))||(ltI x0.last_ (-1)))=false)),oR True ((((!r11)||((gtI x0.split 1)&&((neI x0.pick.place (-1))&&(neI x0.drop.place (-1)))))||(ltI x0.last_ (-1)))=false),rp 2 (oI (((((!r11)||((gtI x0.split 1)&&((neI x0.pick.place (-1))&&(neI x0.drop.place (-1)))))||(ltI x0.last_ (-1)))||(geI x0.last_ types))=false)),oR True (((((!r11)||((gtI x0.split 1)&&((neI x0.pick.place (-1))&&(neI x0.drop.place (-1)))))||(ltI x0.last_ (-1)))||(geI x0.last_ types))=false),rp 3 (oI ((((((!r11)||((gtI x0.split 1)&&((neI x0.pick.place (-1))&&(neI x0.drop.place (-1)))))||(ltI x0.last_ (-1)))||(geI x0.last_ types))||(ltI x0.now (-1)))=false)),oR True ((((((!r11)||((gtI x0.split 1)&&((neI x0.pick.place (-1))&&(neI x0.drop.place (-1)))))||(ltI x0.last_ (-1)))||(geI x0.last_ types))||(ltI x0.now (-1)))=false),bF h40,hW 5,hH (.frz 0),rp 3 (eL l8 Qax)]
 ·obtain ⟨h42,h⟩:=Qat h
  obtain rfl:=Option.some.inj h
  exact gr 9 [] [rp 5 hP,rp 3 (oI ((neI x0.pick.place (-1))=true)),oR True ((neI x0.pick.place (-1))=true),cC (QaA h37),rp 5 (nT h38),rp 4 tT,kF,rp 21 tT,oO (Eq.refl ([2].map Qax).length),aO Qax h42,hW 5,hH (.frz 3),rp 4 (oO (Eq.refl ((l8++[2]).map Qax).length))]
theorem Qjm (Γ:Gam) (rv:List Int) {types x0 l7} (h:QdP types x0 l7=some rv):Qba Γ rv ⟨[.c 1023],⟨156,[vI 2 types,vO 11 0 1 l7 Qax,vP 12 1 16],[oS 1 59 l7 Qax,oX 16 83 (Qaf.enc x0)]⟩⟩:=by
 unfold QdP at h
 obtain ⟨r9,h34,h⟩:=Qae h
 rcases Qah h with ⟨h35,h⟩|⟨h35,h⟩
 ·exact gn 5 [2,11,12] [0,1] [cC (QaA h34),nF h35] (Qjn Γ rv h)
 ·obtain ⟨h36,h⟩:=Qat h
  exact gn 5 [2,11,12] [3,1] [cC (QaA h34),nT h35,oO (Eq.refl ([18].map Qax).length),aO Qax h36] (Qjn Γ rv h)
theorem Qjk (Γ:Gam) (rv:List Int) {types x0 l5} (h:QdN types x0 l5=some rv):Qba Γ rv ⟨[.c 511],⟨156,[vI 2 types,vO 11 0 1 l5 Qax,vP 12 1 16],[oS 1 59 l5 Qax,oX 16 83 (Qaf.enc x0)]⟩⟩:=by
 unfold QdN at h
 obtain ⟨r4,h19,h⟩:=Qae h
 rcases Qah h with ⟨h20,h⟩|⟨h20,h⟩
 ·obtain ⟨h21,h⟩:=Qat h
  obtain ⟨r5,h22,h⟩:=Qae h
  rcases Qah h with ⟨h23,h⟩|⟨h23,h⟩
  ·exact gn 10 [2,11,12] [3,1] [cC (Qbb h19),rp 5 (bT h20),tT,oO (Eq.refl ([14].map Qax).length),aO Qax h21,cC (QaA h22),nF h23] (Qjl Γ rv h)
  ·obtain ⟨h24,h⟩:=Qat h
   exact gn 10 [2,11,12] [5,1] [cC (Qbb h19),rp 5 (bT h20),tT,oO (Eq.refl ([14].map Qax).length),aO Qax h21,cC (QaA h22),nT h23,oO (Eq.refl ([18].map Qax).length),aO Qax h24] (Qjl Γ rv h)
 ·obtain ⟨r8,h31,h⟩:=Qae h
  rcases Qah h with ⟨h32,h⟩|⟨h32,h⟩
  ·obtain ⟨h33,h⟩:=Qat h
   exact gn 5 [2,11,12] [3,1] [cC (Qbb h19),rp 3 (bF h20),cC (Qbb h31),rp 2 (bF h20),bT h32,oO (Eq.refl ([14].map Qax).length),aO Qax h33] (Qjm Γ rv h)
  ·exact gn 5 [2,11,12] [0,1] [cC (Qbb h19),rp 3 (bF h20),cC (Qbb h31),rp 2 (bF h20),bF h32] (Qjm Γ rv h)
theorem Qjj (Γ:Gam) (rv:List Int) {types x0 l4} (h:QdM types x0 l4=some rv):Qba Γ rv ⟨[.c 255],⟨156,[vI 2 types,vO 11 0 1 l4 Qax,vP 12 1 16],[oS 1 59 l4 Qax,oX 16 83 (Qaf.enc x0)]⟩⟩:=by
 unfold QdM at h
 rcases Qah h with ⟨h17,h⟩|⟨h17,h⟩
 ·obtain ⟨h18,h⟩:=Qat h
  exact gn 5 [2,11,12] [3,1] [rp 5 hP,rp 3 (oI ((eqI x0.pick.place (-1))=true)),oR True ((eqI x0.pick.place (-1))=true),bT h17,oO (Eq.refl ([19].map Qax).length),aO Qax h18] (Qjk Γ rv h)
 ·exact gn 5 [2,11,12] [0,1] [rp 5 hP,rp 3 (oI ((eqI x0.pick.place (-1))=true)),oR True ((eqI x0.pick.place (-1))=true),bF h17] (Qjk Γ rv h)
theorem Qjp (Γ:Gam) (rv:List Int) {types x0 l10} (h:Qf8 types x0 l10=some rv):Qba Γ rv ⟨[.c 2047],⟨156,[vI 2 types,vO 11 0 1 l10 Qax,vP 12 1 16],[oS 1 59 l10 Qax,oX 16 83 (Qaf.enc x0)]⟩⟩:=by
 unfold Qf8 at h
 obtain ⟨r14,h52,h⟩:=Qae h
 rcases Qah h with ⟨h53,h⟩|⟨h53,h⟩
 ·obtain ⟨r15,h54,h⟩:=Qae h
  rcases Qah h with ⟨h55,h⟩|⟨h55,h⟩
  ·obtain ⟨h56,h⟩:=Qat h
   obtain rfl:=Option.some.inj h
   exact gr 9 [] [rp 5 hP,rp 3 (oI ((neI x0.pick.place (-1))=true)),oR True ((neI x0.pick.place (-1))=true),cC (QaA h52),rp 3 (nF h53),cC (QaA h54),rp 2 (nF h53),rp 26 hP,rp 4 (oI ((!r15)=false)),oI (((!r15)=false)∧(gtI x0.split 1)=true),oR True ((!r15)=false),rp 2 (oI (((!r15)||((gtI x0.split 1)&&((neI x0.pick.place (-1))&&(neI x0.drop.place (-1)))))=false)),oR True (((!r15)||((gtI x0.split 1)&&((neI x0.pick.place (-1))&&(neI x0.drop.place (-1)))))=false),rp 3 (oI ((((!r15)||((gtI x0.split 1)&&((neI x0.pick.place (-1))&&(neI x0.drop.place (-1)))))||(ltI x0.last_ (-1)))=false)),oR True ((((!r15)||((gtI x0.split 1)&&((neI x0.pick.place (-1))&&(neI x0.drop.place (-1)))))||(ltI x0.last_ (-1)))=false),rp 2 (oI (((((!r15)||((gtI x0.split 1)&&((neI x0.pick.place (-1))&&(neI x0.drop.place (-1)))))||(ltI x0.last_ (-1)))||(geI x0.last_ types))=false)),oR True (((((!r15)||((gtI x0.split 1)&&((neI x0.pick.place (-1))&&(neI x0.drop.place (-1)))))||(ltI x0.last_ (-1)))||(geI x0.last_ types))=false),rp 3 (oI ((((((!r15)||((gtI x0.split 1)&&((neI x0.pick.place (-1))&&(neI x0.drop.place (-1)))))||(ltI x0.last_ (-1)))||(geI x0.last_ types))||(ltI x0.now (-1)))=false)),oR True ((((((!r15)||((gtI x0.split 1)&&((neI x0.pick.place (-1))&&(neI x0.drop.place (-1)))))||(ltI x0.last_ (-1)))||(geI x0.last_ types))||(ltI x0.now (-1)))=false),bT h55,oO (Eq.refl ([2].map Qax).length),aO Qax h56,hW 5,hH (.frz 3),rp 4 (oO (Eq.refl ((l10++[2]).map Qax).length))]
  ·obtain rfl:=Option.some.inj h
   exact gr 9 [] [rp 5 hP,rp 3 (oI ((neI x0.pick.place (-1))=true)),oR True ((neI x0.pick.place (-1))=true),cC (QaA h52),rp 3 (nF h53),cC (QaA h54),rp 2 (nF h53),rp 26 hP,rp 4 (oI ((!r15)=false)),oI (((!r15)=false)∧(gtI x0.split 1)=true),oR True ((!r15)=false),rp 2 (oI (((!r15)||((gtI x0.split 1)&&((neI x0.pick.place (-1))&&(neI x0.drop.place (-1)))))=false)),oR True (((!r15)||((gtI x0.split 1)&&((neI x0.pick.place (-1))&&(neI x0.drop.place (-1)))))=false),rp 3 (oI ((((!r15)||((gtI x0.split 1)&&((neI x0.pick.place (-1))&&(neI x0.drop.place (-1)))))||(ltI x0.last_ (-1)))=false)),oR True ((((!r15)||((gtI x0.split 1)&&((neI x0.pick.place (-1))&&(neI x0.drop.place (-1)))))||(ltI x0.last_ (-1)))=false),rp 2 (oI (((((!r15)||((gtI x0.split 1)&&((neI x0.pick.place (-1))&&(neI x0.drop.place (-1)))))||(ltI x0.last_ (-1)))||(geI x0.last_ types))=false)),oR True (((((!r15)||((gtI x0.split 1)&&((neI x0.pick.place (-1))&&(neI x0.drop.place (-1)))))||(ltI x0.last_ (-1)))||(geI x0.last_ types))=false),rp 3 (oI ((((((!r15)||((gtI x0.split 1)&&((neI x0.pick.place (-1))&&(neI x0.drop.place (-1)))))||(ltI x0.last_ (-1)))||(geI x0.last_ types))||(ltI x0.now (-1)))=false)),oR True ((((((!r15)||((gtI x0.split 1)&&((neI x0.pick.place (-1))&&(neI x0.drop.place (-1)))))||(ltI x0.last_ (-1)))||(geI x0.last_ types))||(ltI x0.now (-1)))=false),bF h55,hW 5,hH (.frz 0),rp 3 (eL l10 Qax)]
 ·obtain ⟨h57,h⟩:=Qat h
  obtain rfl:=Option.some.inj h
  exact gr 9 [] [rp 5 hP,rp 3 (oI ((neI x0.pick.place (-1))=true)),oR True ((neI x0.pick.place (-1))=true),cC (QaA h52),rp 5 (nT h53),rp 4 tT,kF,rp 21 tT,oO (Eq.refl ([2].map Qax).length),aO Qax h57,hW 5,hH (.frz 3),rp 4 (oO (Eq.refl ((l10++[2]).map Qax).length))]
theorem Qig (Γ:Gam) (rv:List Int) {types x0 l12} (h:Qfy types x0 l12=some rv):Qba Γ rv ⟨[.c 2047],⟨156,[vI 2 types,vO 11 0 1 l12 Qax,vP 12 1 16],[oS 1 59 l12 Qax,oX 16 83 (Qaf.enc x0)]⟩⟩:=by
 unfold Qfy at h
 obtain ⟨r18,h64,h⟩:=Qae h
 rcases Qah h with ⟨h65,h⟩|⟨h65,h⟩
 ·obtain ⟨r19,h66,h⟩:=Qae h
  rcases Qah h with ⟨h67,h⟩|⟨h67,h⟩
  ·obtain ⟨h68,h⟩:=Qat h
   obtain rfl:=Option.some.inj h
   exact gr 9 [] [rp 5 hP,rp 3 (oI ((neI x0.pick.place (-1))=true)),oR True ((neI x0.pick.place (-1))=true),cC (QaA h64),rp 3 (nF h65),cC (QaA h66),rp 2 (nF h65),rp 26 hP,rp 4 (oI ((!r19)=false)),oI (((!r19)=false)∧(gtI x0.split 1)=true),oR True ((!r19)=false),rp 2 (oI (((!r19)||((gtI x0.split 1)&&((neI x0.pick.place (-1))&&(neI x0.drop.place (-1)))))=false)),oR True (((!r19)||((gtI x0.split 1)&&((neI x0.pick.place (-1))&&(neI x0.drop.place (-1)))))=false),rp 3 (oI ((((!r19)||((gtI x0.split 1)&&((neI x0.pick.place (-1))&&(neI x0.drop.place (-1)))))||(ltI x0.last_ (-1)))=false)),oR True ((((!r19)||((gtI x0.split 1)&&((neI x0.pick.place (-1))&&(neI x0.drop.place (-1)))))||(ltI x0.last_ (-1)))=false),rp 2 (oI (((((!r19)||((gtI x0.split 1)&&((neI x0.pick.place (-1))&&(neI x0.drop.place (-1)))))||(ltI x0.last_ (-1)))||(geI x0.last_ types))=false)),oR True (((((!r19)||((gtI x0.split 1)&&((neI x0.pick.place (-1))&&(neI x0.drop.place (-1)))))||(ltI x0.last_ (-1)))||(geI x0.last_ types))=false),rp 3 (oI ((((((!r19)||((gtI x0.split 1)&&((neI x0.pick.place (-1))&&(neI x0.drop.place (-1)))))||(ltI x0.last_ (-1)))||(geI x0.last_ types))||(ltI x0.now (-1)))=false)),oR True ((((((!r19)||((gtI x0.split 1)&&((neI x0.pick.place (-1))&&(neI x0.drop.place (-1)))))||(ltI x0.last_ (-1)))||(geI x0.last_ types))||(ltI x0.now (-1)))=false),bT h67,oO (Eq.refl ([2].map Qax).length),aO Qax h68,hW 5,hH (.frz 3),rp 4 (oO (Eq.refl ((l12++[2]).map Qax).length))]
  ·obtain rfl:=Option.some.inj h
   exact gr 9 [] [rp 5 hP,rp 3 (oI ((neI x0.pick.place (-1))=true)),oR True ((neI x0.pick.place (-1))=true),cC (QaA h64),rp 3 (nF h65),cC (QaA h66),rp 2 (nF h65),rp 26 hP,rp 4 (oI ((!r19)=false)),oI (((!r19)=false)∧(gtI x0.split 1)=true),oR True ((!r19)=false),rp 2 (oI (((!r19)||((gtI x0.split 1)&&((neI x0.pick.place (-1))&&(neI x0.drop.place (-1)))))=false)),oR True (((!r19)||((gtI x0.split 1)&&((neI x0.pick.place (-1))&&(neI x0.drop.place (-1)))))=false),rp 3 (oI ((((!r19)||((gtI x0.split 1)&&((neI x0.pick.place (-1))&&(neI x0.drop.place (-1)))))||(ltI x0.last_ (-1)))=false)),oR True ((((!r19)||((gtI x0.split 1)&&((neI x0.pick.place (-1))&&(neI x0.drop.place (-1)))))||(ltI x0.last_ (-1)))=false),rp 2 (oI (((((!r19)||((gtI x0.split 1)&&((neI x0.pick.place (-1))&&(neI x0.drop.place (-1)))))||(ltI x0.last_ (-1)))||(geI x0.last_ types))=false)),oR True (((((!r19)||((gtI x0.split 1)&&((neI x0.pick.place (-1))&&(neI x0.drop.place (-1)))))||(ltI x0.last_ (-1)))||(geI x0.last_ types))=false),rp 3 (oI ((((((!r19)||((gtI x0.split 1)&&((neI x0.pick.place (-1))&&(neI x0.drop.place (-1)))))||(ltI x0.last_ (-1)))||(geI x0.last_ types))||(ltI x0.now (-1)))=false)),oR True ((((((!r19)||((gtI x0.split 1)&&((neI x0.pick.place (-1))&&(neI x0.drop.place (-1)))))||(ltI x0.last_ (-1)))||(geI x0.last_ types))||(ltI x0.now (-1)))=false),bF h67,hW 5,hH (.frz 0),rp 3 (eL l12 Qax)]
 ·obtain ⟨h69,h⟩:=Qat h
  obtain rfl:=Option.some.inj h
  exact gr 9 [] [rp 5 hP,rp 3 (oI ((neI x0.pick.place (-1))=true)),oR True ((neI x0.pick.place (-1))=true),cC (QaA h64),rp 5 (nT h65),rp 4 tT,kF,rp 21 tT,oO (Eq.refl ([2].map Qax).length),aO Qax h69,hW 5,hH (.frz 3),rp 4 (oO (Eq.refl ((l12++[2]).map Qax).length))]
theorem Qif (Γ:Gam) (rv:List Int) {types x0 l11} (h:Qfx types x0 l11=some rv):Qba Γ rv ⟨[.c 1023],⟨156,[vI 2 types,vO 11 0 1 l11 Qax,vP 12 1 16],[oS 1 59 l11 Qax,oX 16 83 (Qaf.enc x0)]⟩⟩:=by
 unfold Qfx at h
 obtain ⟨r17,h61,h⟩:=Qae h
 rcases Qah h with ⟨h62,h⟩|⟨h62,h⟩
 ·exact gn 5 [2,11,12] [0,1] [cC (QaA h61),nF h62] (Qig Γ rv h)
 ·obtain ⟨h63,h⟩:=Qat h
  exact gn 5 [2,11,12] [3,1] [cC (QaA h61),nT h62,oO (Eq.refl ([18].map Qax).length),aO Qax h63] (Qig Γ rv h)
theorem Qjo (Γ:Gam) (rv:List Int) {types x0 l9} (h:Qf7 types x0 l9=some rv):Qba Γ rv ⟨[.c 511],⟨156,[vI 2 types,vO 11 0 1 l9 Qax,vP 12 1 16],[oS 1 59 l9 Qax,oX 16 83 (Qaf.enc x0)]⟩⟩:=by
 unfold Qf7 at h
 obtain ⟨r12,h46,h⟩:=Qae h
 rcases Qah h with ⟨h47,h⟩|⟨h47,h⟩
 ·obtain ⟨h48,h⟩:=Qat h
  obtain ⟨r13,h49,h⟩:=Qae h
  rcases Qah h with ⟨h50,h⟩|⟨h50,h⟩
  ·exact gn 10 [2,11,12] [3,1] [cC (Qbb h46),rp 5 (bT h47),tT,oO (Eq.refl ([14].map Qax).length),aO Qax h48,cC (QaA h49),nF h50] (Qjp Γ rv h)
  ·obtain ⟨h51,h⟩:=Qat h
   exact gn 10 [2,11,12] [5,1] [cC (Qbb h46),rp 5 (bT h47),tT,oO (Eq.refl ([14].map Qax).length),aO Qax h48,cC (QaA h49),nT h50,oO (Eq.refl ([18].map Qax).length),aO Qax h51] (Qjp Γ rv h)
 ·obtain ⟨r16,h58,h⟩:=Qae h
  rcases Qah h with ⟨h59,h⟩|⟨h59,h⟩
  ·obtain ⟨h60,h⟩:=Qat h
   exact gn 5 [2,11,12] [3,1] [cC (Qbb h46),rp 3 (bF h47),cC (Qbb h58),rp 2 (bF h47),bT h59,oO (Eq.refl ([14].map Qax).length),aO Qax h60] (Qif Γ rv h)
  ·exact gn 5 [2,11,12] [0,1] [cC (Qbb h46),rp 3 (bF h47),cC (Qbb h58),rp 2 (bF h47),bF h59] (Qif Γ rv h)
theorem Qji (Γ:Gam) (rv:List Int) {places types x0 l3} (h:QbF places types x0 l3=some rv):Qba Γ rv ⟨[.c 127],⟨156,[vI 0 places,vI 2 types,vO 11 0 1 l3 Qax,vP 12 1 16],[oS 1 59 l3 Qax,oX 16 83 (Qaf.enc x0)]⟩⟩:=by
 unfold QbF at h
 obtain ⟨r2,h12,h⟩:=Qae h
 rcases Qah h with ⟨h13,h⟩|⟨h13,h⟩
 ·obtain ⟨r3,h14,h⟩:=Qae h
  rcases Qah h with ⟨h15,h⟩|⟨h15,h⟩
  ·exact gn 5 [2,11,12] [0,1] [cC (QaA h12),rp 6 (nF h13),cC (QaA h14),rp 2 (nF h13),nF h15] (Qjj Γ rv h)
  ·obtain ⟨h16,h⟩:=Qat h
   exact gn 5 [2,11,12] [3,1] [cC (QaA h12),rp 6 (nF h13),cC (QaA h14),rp 2 (nF h13),nT h15,oO (Eq.refl ([11].map Qax).length),aO Qax h16] (Qjj Γ rv h)
 ·obtain ⟨h43,h⟩:=Qat h
  rcases Qah h with ⟨h44,h⟩|⟨h44,h⟩
  ·obtain ⟨h45,h⟩:=Qat h
   exact gn 10 [2,11,12] [5,1] [cC (QaA h12),rp 8 (nT h13),tT,oO (Eq.refl ([11].map Qax).length),aO Qax h43,rp 5 hP,rp 3 (oI ((eqI x0.pick.place (-1))=true)),oR True ((eqI x0.pick.place (-1))=true),bT h44,oO (Eq.refl ([19].map Qax).length),aO Qax h45] (Qjo Γ rv h)
  ·exact gn 10 [2,11,12] [3,1] [cC (QaA h12),rp 8 (nT h13),tT,oO (Eq.refl ([11].map Qax).length),aO Qax h43,rp 5 hP,rp 3 (oI ((eqI x0.pick.place (-1))=true)),oR True ((eqI x0.pick.place (-1))=true),bF h44] (Qjo Γ rv h)
theorem Qjh (Γ:Gam) (rv:List Int) {places dims types l at_ x0 l1} (h:QdL places dims types l at_ x0 l1=some rv):Qba Γ rv ⟨[.c 31],⟨156,[vI 0 places,vI 1 dims,vI 2 types,vL 3 16 l Qaf.enc,vI 4 at_,vO 11 0 1 l1 Qax,vP 12 1 16],[oS 1 59 l1 Qax,oX 16 83 (Qaf.enc x0)]⟩⟩:=by
 unfold QdL at h
 obtain ⟨e0,h8,h⟩:=Qae h
 refine gn 5 [0,1,2,3,4,11,12,13] [0,1] [] (QoJ Γ rv h8 ?_)
 obtain ⟨l2,rfl⟩:∃ x,x=e0:=⟨_,rfl⟩
 replace h:(bnd (Qeg x0.load dims) fun r1=>br r1 (QbF places types x0 l2) (chk (okN (l2++[17]).length 8) (QbF places types x0 (l2++[17]))):Option (List Int))=some _:=h
 obtain ⟨r1,h9,h⟩:=Qae h
 rcases Qah h with ⟨h10,h⟩|⟨h10,h⟩
 ·exact gn 5 [0,2,11,12] [0,1] [cC (QlJ h9),nF h10] (Qji Γ rv h)
 ·obtain ⟨h11,h⟩:=Qat h
  exact gn 5 [0,2,11,12] [3,1] [cC (QlJ h9),nT h10,oO (Eq.refl ([17].map Qax).length),aO Qax h11] (Qji Γ rv h)
theorem QqA {places dims types l at_} {rv:List Int} (h:Qgk places dims types l at_=some rv):AFn Tryz.prog 111 [.one (lI places),.one (lI dims),.one (lI types),.one (lL 16 l Qaf.enc),.one (lI at_)] [] (one (lL 1 rv Qax)) []:=by
 refine QaS Tryz.func111 (by kernel_rfl) (by kernel_rfl) (fun Γ=>?_)
 unfold Qgk at h
 obtain ⟨x0,h0,h⟩:=Qae h
 obtain ⟨r,h1,h⟩:=Qae h
 rcases Qah h with ⟨h2,h⟩|⟨h2,h⟩
 ·exact gn 11 [0,1,2,3,4,11,12] [1,0] [cE Qaf.enc h0,cC (Qd8 h1),nF h2,hW 1,hH (.adopt 11 1 59)] (Qjh Γ rv h)
 ·obtain ⟨h3,h⟩:=Qat h
  exact gn 11 [0,1,2,3,4,11,12] [2,0] [cE Qaf.enc h0,cC (Qd8 h1),nT h2,oO (Eq.refl ([5].map Qax).length),aN (l:=([5]:List Int)) Qax h3] (Qjh Γ rv h)
def Qe6 (Γ:Gam) (rv:List Qac) (cf:Cf):Prop:=Go Tryz.prog Tryz.f68 [] Γ (one (lL 2 rv Qac.enc)) [] cf
def Qkn (Γ:Gam) (rv:List Qac) (n:Qak) (dims:Int) (types:Int) (l:List Qaf) (i:Int) (r:List Int) (l3:List Qac) (k:Int):Prop:=Qe6 Γ rv ⟨[.c 31308,.l 31308,.b 2,.b 1,.c 979,.l 244,.b 0,.c 31],⟨51,[vI 1 dims,vI 2 types,vL 3 16 l Qaf.enc,vP 4 0 2,vO 9 1 2 l3 Qac.enc,vI 10 i,vL 11 1 r Qax,vI 12 k],[oX 2 25 (Qak.enc n),oS 2 164 l3 Qac.enc]⟩⟩
def Qjg (Γ:Gam) (rv:List Qac) (n:Qak) (dims:Int) (types:Int) (l:List Qaf) (i:Int) (r:List Int) (l4:List Qac):Prop:=Qe6 Γ rv ⟨[.b 1,.c 979,.l 244,.b 0,.c 31],⟨51,[vI 1 dims,vI 2 types,vL 3 16 l Qaf.enc,vP 4 0 2,vO 9 1 2 l4 Qac.enc,vI 10 i],[oX 2 25 (Qak.enc n),oS 2 164 l4 Qac.enc]⟩⟩
def Qkm (Γ:Gam) (rv:List Qac) (n:Qak) (dims:Int) (types:Int) (l:List Qaf) (l2:List Qac) (i:Int):Prop:=Qe6 Γ rv ⟨[.c 244,.l 244,.b 0,.c 31],⟨51,[vI 1 dims,vI 2 types,vL 3 16 l Qaf.enc,vP 4 0 2,vO 9 1 2 l2 Qac.enc,vI 10 i],[oX 2 25 (Qak.enc n),oS 2 164 l2 Qac.enc]⟩⟩
def Qjf (Γ:Gam) (rv:List Qac) (n:Qak) (dims:Int) (types:Int) (l:List Qaf) (l5:List Qac):Prop:=Qe6 Γ rv ⟨[.c 31],⟨51,[vO 9 0 2 l5 Qac.enc],[oS 2 164 l5 Qac.enc]⟩⟩
theorem QoI (Γ:Gam) (rv:List Qac) {n dims types l i r} {s:List Qac×Int} {e:List Qac} (h:QaK (fun s=>Qf5 n dims types l i r s.1 s.2) s=some e) (hD:Qjg Γ rv n dims types l i r e):Qkn Γ rv n dims types l i r s.1 s.2:=by
 refine QaC (C:=fun (s:List Qac×Int)=>Qkn Γ rv n dims types l i r s.1 s.2) (D:=fun (e:List Qac)=>Qjg Γ rv n dims types l i r e) ?_ h hD
 clear h hD s e
 rintro ⟨l3,k⟩ z_ h hI hE
 replace h:Qf5 n dims types l i r l3 k=_:=h
 unfold Qf5 at h
 rcases Qah h with ⟨h4,h⟩|⟨h4,h⟩
 ·obtain ⟨x0,h5,h⟩:=Qae h
  obtain ⟨r1,h6,h⟩:=Qae h
  obtain ⟨h7,h⟩:=Qat h
  exact gn 11 [1,2,3,4,9,10,11,12] [0,3] [nL Qax r,bT h4,hH (.draw 9 []),cE Qax h5,cC (QbC h6),oO (Eq.refl ([(Qac.mk x0 r1)].map Qac.enc).length),aO Qac.enc h7] (hI _ (oJ h))
 ·exact gn 5 [1,2,3,4,9,10] [0,1] [nL Qax r,bF h4] (hE _ (oJ h))
theorem QoH (Γ:Gam) (rv:List Qac) {n dims types l} {s:List Qac×Int} {e:List Qac} (h:QaK (fun s=>Qcz n dims types l s.1 s.2) s=some e) (hD:Qjf Γ rv n dims types l e):Qkm Γ rv n dims types l s.1 s.2:=by
 refine QaC (C:=fun (s:List Qac×Int)=>Qkm Γ rv n dims types l s.1 s.2) (D:=fun (e:List Qac)=>Qjf Γ rv n dims types l e) ?_ h hD
 clear h hD s e
 rintro ⟨l2,i⟩ z_ h hI hE
 replace h:Qcz n dims types l l2 i=_:=h
 unfold Qcz at h
 rcases Qah h with ⟨h2,h⟩|⟨h2,h⟩
 ·obtain ⟨r,h3,h⟩:=Qae h
  obtain ⟨e0,h8,h⟩:=Qae h
  refine gn 13 [1,2,3,4,9,10,11,12] [0,1] [nL Qaf.enc l,bT h2,nL Qh6 n.places,cC (QqA h3)] (QoI Γ rv h8 ?_)
  obtain ⟨l4,rfl⟩:∃ x,x=e0:=⟨_,rfl⟩
  replace h:(some (.inl (l4,(addK .i64 i 1))):Option ((List Qac×Int)⊕(List Qac)))=some _:=h
  exact gn 3 [1,2,3,4,9,10] [0,1] [] (hI _ (oJ h))
 ·exact gn 5 [9] [1] [nL Qaf.enc l,bF h2] (hE _ (oJ h))
theorem Qje (Γ:Gam) (rv:List Qac) {n dims types l l1} (h:QeC n dims types l l1=some rv):Qe6 Γ rv ⟨[.c 15],⟨51,[vI 1 dims,vI 2 types,vL 3 16 l Qaf.enc,vP 4 0 2,vO 9 1 2 l1 Qac.enc],[oX 2 25 (Qak.enc n),oS 2 164 l1 Qac.enc]⟩⟩:=by
 unfold QeC at h
 obtain ⟨e1,h9,h⟩:=Qae h
 refine gn 5 [1,2,3,4,9,10] [0,1] [] (QoH Γ rv h9 ?_)
 obtain ⟨l5,rfl⟩:∃ x,x=e1:=⟨_,rfl⟩
 replace h:(some l5:Option (List Qac))=some _:=h
 obtain rfl:=Option.some.inj h
 exact gr 2 [] [hW 4,hH (.frz 0),rp 3 (eL l5 Qac.enc)]
theorem Qqz {n dims types l} {rv:List Qac} (h:Qgj n dims types l=some rv):AFn Tryz.prog 68 [.agg (Qak.enc n),.one (lI dims),.one (lI types),.one (lL 16 l Qaf.enc)] [] (one (lL 2 rv Qac.enc)) []:=by
 refine QaS Tryz.func68 (by kernel_rfl) (by kernel_rfl) (fun Γ=>?_)
 unfold Qgj at h
 rcases Qah h with ⟨h0,h⟩|⟨h0,h⟩
 ·obtain ⟨h1,h⟩:=Qat h
  exact gn 9 [1,2,3,4,9] [0,2] [nL Qaf.enc l,bT h0,oO (Eq.refl ([(Qac.mk 4 ByteArray.empty)].map Qac.enc).length),aN (l:=([(Qac.mk 4 ByteArray.empty)]:List Qac)) Qac.enc h1] (Qje Γ rv h)
 ·exact gn 9 [1,2,3,4,9] [0,1] [nL Qaf.enc l,bF h0,hW 1,hH (.adopt 9 2 164)] (Qje Γ rv h)
def Qlf (Γ:Gam) (rv:ByteArray) (cf:Cf):Prop:=Go Tryz.prog Tryz.f138 [] Γ (one (.str rv)) [] cf
def Qih (Γ:Gam) (rv:ByteArray) (n1:Int) (s0:ByteArray):Prop:=Qlf Γ rv ⟨[.c 56,.l 56,.b 0,.c 15],⟨23,[vI 0 n1,vS 3 s0],[]⟩⟩
def QhO (Γ:Gam) (rv:ByteArray) (n2:Int) (s1:ByteArray):Prop:=Qlf Γ rv ⟨[.c 15],⟨23,[vI 0 n2,vS 3 s1],[]⟩⟩
theorem Qno (Γ:Gam) (rv:ByteArray) {s:Int×ByteArray} {e:Int×ByteArray} (h:QaK (fun s=>Qc7 s.1 s.2) s=some e) (hD:QhO Γ rv e.1 e.2):Qih Γ rv s.1 s.2:=by
 refine QaC (C:=fun (s:Int×ByteArray)=>Qih Γ rv s.1 s.2) (D:=fun (e:Int×ByteArray)=>QhO Γ rv e.1 e.2) ?_ h hD
 clear h hD s e
 rintro ⟨n1,s0⟩ z_ h hI hE
 replace h:Qc7 n1 s0=_:=h
 unfold Qc7 at h
 rcases Qah h with ⟨h0,h⟩|⟨h0,h⟩
 ·obtain ⟨h1,h⟩:=Qat h
  exact gn 11 [0,3] [] [bT h0,hH (.ints [(cvK .u8 (addK .i64 48 (remK n1 10)))]),oO (oA (n:=10)),oO (Eq.refl ([(cvK .u8 (addK .i64 48 (remK n1 10)))].map e_u8).length),oO (Eq.refl (([(cvK .u8 (addK .i64 48 (remK n1 10)))].map e_u8):List (List Lf))),oO (h1),oO (oA (n:=10))] (hI _ (oJ h))
 ·exact gn 5 [0,3] [] [bF h0] (hE _ (oJ h))
theorem QeX {n} {rv:ByteArray} (h:Qeb n=some rv):AFn Tryz.prog 138 [.one (lI n)] [] (one (.str rv)) []:=by
 refine QaS Tryz.func138 (by kernel_rfl) (by kernel_rfl) (fun Γ=>?_)
 unfold Qeb at h
 obtain ⟨e0,h2,h⟩:=Qae h
 refine gn 7 [0,3] [] [] (Qno Γ rv h2 ?_)
 obtain ⟨n2,s1⟩:=e0
 replace h:(chk ((QpY [(cvK .u8 (addK .i64 48 n2))]).size+s1.size≤9223372036854775807) (some (catS (QpY [(cvK .u8 (addK .i64 48 n2))]) s1)):Option ByteArray)=some _:=h
 obtain ⟨h3,h⟩:=Qat h
 obtain rfl:=Option.some.inj h
 exact gr 2 [] [hH (.ints [(cvK .u8 (addK .i64 48 n2))]),oO (Eq.refl ([(cvK .u8 (addK .i64 48 n2))].map e_u8).length),oO (Eq.refl (([(cvK .u8 (addK .i64 48 n2))].map e_u8):List (List Lf))),oO (h3)]
def QeD (Γ:Gam) (rv:List Qac) (cf:Cf):Prop:=Go Tryz.prog Tryz.f112 [] Γ (one (lL 2 rv Qac.enc)) [] cf
def Qjs (Γ:Gam) (rv:List Qac) (orders:Int) (l:List Qau) (word:ByteArray) (turned:Bool) (l2:List Qac) (i:Int) (x0:Qau) (r:ByteArray) (twice:Bool) (k:Int):Prop:=QeD Γ rv ⟨[.c 1001972,.l 1001972,.b 2,.c 125247,.b 1,.c 979,.l 244,.b 0,.c 31],⟨123,[vI 0 orders,vL 1 2 l Qau.enc,vS 2 word,vB 3 turned,vO 9 0 2 l2 Qac.enc,vI 10 i,vI 11 x0.x0,vI 12 x0.x1,vS 13 (catS (catS word Qcu) r),vB 14 twice,vI 15 k],[oS 2 164 l2 Qac.enc]⟩⟩
def Qik (Γ:Gam) (rv:List Qac) (orders:Int) (l:List Qau) (word:ByteArray) (turned:Bool) (l2:List Qac) (i:Int) (x0:Qau) (r:ByteArray) (twice1:Bool):Prop:=QeD Γ rv ⟨[.c 125247,.b 1,.c 979,.l 244,.b 0,.c 31],⟨123,[vI 0 orders,vL 1 2 l Qau.enc,vS 2 word,vB 3 turned,vO 9 0 2 l2 Qac.enc,vI 10 i,vS 13 (catS (catS word Qcu) r),vB 14 twice1],[oS 2 164 l2 Qac.enc]⟩⟩
def Qjr (Γ:Gam) (rv:List Qac) (orders:Int) (l:List Qau) (word:ByteArray) (turned:Bool) (l2:List Qac) (i:Int):Prop:=QeD Γ rv ⟨[.c 244,.l 244,.b 0,.c 31],⟨123,[vI 0 orders,vL 1 2 l Qau.enc,vS 2 word,vB 3 turned,vO 9 0 2 l2 Qac.enc,vI 10 i],[oS 2 164 l2 Qac.enc]⟩⟩
def Qij (Γ:Gam) (rv:List Qac) (orders:Int) (l:List Qau) (word:ByteArray) (turned:Bool) (l3:List Qac):Prop:=QeD Γ rv ⟨[.c 31],⟨123,[vO 9 0 2 l3 Qac.enc],[oS 2 164 l3 Qac.enc]⟩⟩
theorem Qn8 (Γ:Gam) (rv:List Qac) {orders l word turned l2 i x0 r} {s:Bool×Int} {e:Bool} (h:QaK (fun s=>Qdg orders l word turned l2 i x0 r s.1 s.2) s=some e) (hD:Qik Γ rv orders l word turned l2 i x0 r e):Qjs Γ rv orders l word turned l2 i x0 r s.1 s.2:=by
 refine QaC (C:=fun (s:Bool×Int)=>Qjs Γ rv orders l word turned l2 i x0 r s.1 s.2) (D:=fun (e:Bool)=>Qik Γ rv orders l word turned l2 i x0 r e) ?_ h hD
 clear h hD s e
 rintro ⟨twice,k⟩ z_ h hI hE
 replace h:Qdg orders l word turned l2 i x0 r twice k=_:=h
 unfold Qdg at h
 rcases Qah h with ⟨h9,h⟩|⟨h9,h⟩
 ·rcases Qah h with ⟨h10,h⟩|⟨h10,h⟩
  ·exact gn 11 [0,1,2,3,9,10,11,12,13,14,15] [0] [bT h9,rp 8 (bT h10),rp 7 kF,rp 2 (bT h10),tT,tT,rp 7 kF,tT,tT,rp 7 kF,tT,tT] (hI _ (oJ h))
  ·obtain ⟨x1,h11,h⟩:=Qae h
   rcases Qah h with ⟨h12,h⟩|⟨h12,h⟩
   ·rcases Qah h with ⟨h13,h⟩|⟨h13,h⟩
    ·exact gn 11 [0,1,2,3,9,10,11,12,13,14,15] [0] [bT h9,rp 3 (bF h10),cE Qau.enc h11,bF h10,oO (zL 0),oO (lT 0 2),rp 4 (bF h10),rp 3 (bT h12),cE Qau.enc h11,bT h12,oO (zL 1),oO (lT 1 2),rp 3 (bT h12),bF h10,bT h12,bF h10,rp 2 (bT h13),rp 7 kF,rp 2 (bT h13),rp 7 kF,rp 2 (bT h13)] (hI _ (oJ h))
    ·rcases Qah h with ⟨h14,h⟩|⟨h14,h⟩
     ·rcases Qah h with ⟨h15,h⟩|⟨h15,h⟩
      ·exact gn 11 [0,1,2,3,9,10,11,12,13,14,15] [0] [bT h9,rp 3 (bF h10),cE Qau.enc h11,bF h10,oO (zL 0),oO (lT 0 2),rp 4 (bF h10),rp 3 (bT h12),cE Qau.enc h11,bT h12,oO (zL 1),oO (lT 1 2),rp 3 (bT h12),bF h10,bT h12,bF h10,rp 2 (bF h13),rp 3 (bT h14),cE Qau.enc h11,bT h14,oO (zL 0),oO (lT 0 2),rp 3 (bT h14),bF h13,bT h14,bF h13,rp 3 (bT h15),cE Qau.enc h11,bT h15,oO (zL 1),oO (lT 1 2),rp 3 (bT h15),bF h13,bT h15,bF h13] (hI _ (oJ h))
      ·exact gn 11 [0,1,2,3,9,10,11,12,13,14,15] [0] [bT h9,rp 3 (bF h10),cE Qau.enc h11,bF h10,oO (zL 0),oO (lT 0 2),rp 4 (bF h10),rp 3 (bT h12),cE Qau.enc h11,bT h12,oO (zL 1),oO (lT 1 2),rp 3 (bT h12),bF h10,bT h12,bF h10,rp 2 (bF h13),rp 3 (bT h14),cE Qau.enc h11,bT h14,oO (zL 0),oO (lT 0 2),rp 3 (bT h14),bF h13,bT h14,bF h13,rp 7 (bF h15),bF h13,bF h15,bF h13] (hI _ (oJ h))
     ·exact gn 11 [0,1,2,3,9,10,11,12,13,14,15] [0] [bT h9,rp 3 (bF h10),cE Qau.enc h11,bF h10,oO (zL 0),oO (lT 0 2),rp 4 (bF h10),rp 3 (bT h12),cE Qau.enc h11,bT h12,oO (zL 1),oO (lT 1 2),rp 3 (bT h12),bF h10,bT h12,bF h10,rp 2 (bF h13),rp 7 (bF h14),bF h13,bF h14,bF h13,rp 7 fF,bF h13,fF,bF h13] (hI _ (oJ h))
   ·rcases Qah h with ⟨h16,h⟩|⟨h16,h⟩
    ·rcases Qah h with ⟨h17,h⟩|⟨h17,h⟩
     ·exact gn 11 [0,1,2,3,9,10,11,12,13,14,15] [0] [bT h9,rp 3 (bF h10),cE Qau.enc h11,bF h10,oO (zL 0),oO (lT 0 2),rp 4 (bF h10),rp 7 (bF h12),bF h10,bF h12,bF h10,fF,fF,rp 3 (bT h16),cE Qau.enc h11,bT h16,oO (zL 0),oO (lT 0 2),rp 3 (bT h16),fF,bT h16,fF,rp 3 (bT h17),cE Qau.enc h11,bT h17,oO (zL 1),oO (lT 1 2),rp 3 (bT h17),fF,bT h17,fF] (hI _ (oJ h))
     ·exact gn 11 [0,1,2,3,9,10,11,12,13,14,15] [0] [bT h9,rp 3 (bF h10),cE Qau.enc h11,bF h10,oO (zL 0),oO (lT 0 2),rp 4 (bF h10),rp 7 (bF h12),bF h10,bF h12,bF h10,fF,fF,rp 3 (bT h16),cE Qau.enc h11,bT h16,oO (zL 0),oO (lT 0 2),rp 3 (bT h16),fF,bT h16,fF,rp 7 (bF h17),fF,bF h17,fF] (hI _ (oJ h))
    ·exact gn 11 [0,1,2,3,9,10,11,12,13,14,15] [0] [bT h9,rp 3 (bF h10),cE Qau.enc h11,bF h10,oO (zL 0),oO (lT 0 2),rp 4 (bF h10),rp 7 (bF h12),bF h10,bF h12,bF h10,fF,fF,rp 7 (bF h16),fF,bF h16,rp 11 fF] (hI _ (oJ h))
 ·exact gn 5 [0,1,2,3,9,10,13,14] [0] [bF h9] (hE _ (oJ h))
theorem Qn7 (Γ:Gam) (rv:List Qac) {orders l word turned} {s:List Qac×Int} {e:List Qac} (h:QaK (fun s=>Qcd orders l word turned s.1 s.2) s=some e) (hD:Qij Γ rv orders l word turned e):Qjr Γ rv orders l word turned s.1 s.2:=by
 refine QaC (C:=fun (s:List Qac×Int)=>Qjr Γ rv orders l word turned s.1 s.2) (D:=fun (e:List Qac)=>Qij Γ rv orders l word turned e) ?_ h hD
 clear h hD s e
 rintro ⟨l2,i⟩ z_ h hI hE
 replace h:Qcd orders l word turned l2 i=_:=h
 unfold Qcd at h
 rcases Qah h with ⟨h2,h⟩|⟨h2,h⟩
 ·obtain ⟨x0,h3,h⟩:=Qae h
  obtain ⟨h4,h⟩:=Qat h
  obtain ⟨r,h5,h⟩:=Qae h
  obtain ⟨h6,h⟩:=Qat h
  rcases Qah h with ⟨h7,h⟩|⟨h7,h⟩
  ·obtain ⟨h8,h⟩:=Qat h
   exact gn 22 [0,1,2,3,9,10] [2] [nL Qau.enc l,bT h2,cE Qau.enc h3,oO (zL 0),oO (lT 0 2),cE Qau.enc h3,oO (zL 1),oO (lT 1 2),oO (h4),cC (QeX h5),rp 15 hP,oO (h6),rp 2 (oI ((ltI x0.x0 0)=false)),oR True ((ltI x0.x0 0)=false),oI (((ltI x0.x0 0)||(geI x0.x0 orders))=false),oR True (((ltI x0.x0 0)||(geI x0.x0 orders))=false),rp 2 (oI ((((ltI x0.x0 0)||(geI x0.x0 orders))||(ltI x0.x1 0))=false)),oR True ((((ltI x0.x0 0)||(geI x0.x0 orders))||(ltI x0.x1 0))=false),rp 2 (oI (((((ltI x0.x0 0)||(geI x0.x0 orders))||(ltI x0.x1 0))||(geI x0.x1 orders))=false)),oR True (((((ltI x0.x0 0)||(geI x0.x0 orders))||(ltI x0.x1 0))||(geI x0.x1 orders))=false),bT h7,oO (Eq.refl ([(Qac.mk 2 (catS (catS word Qcu) r))].map Qac.enc).length),aO Qac.enc h8] (hI _ (oJ h))
  ·obtain ⟨e0,h18,h⟩:=Qae h
   refine gn 25 [0,1,2,3,9,10,11,12,13,14,15] [0] [nL Qau.enc l,bT h2,cE Qau.enc h3,oO (zL 0),oO (lT 0 2),cE Qau.enc h3,oO (zL 1),oO (lT 1 2),oO (h4),cC (QeX h5),rp 15 hP,oO (h6),rp 2 (oI ((ltI x0.x0 0)=false)),oR True ((ltI x0.x0 0)=false),oI (((ltI x0.x0 0)||(geI x0.x0 orders))=false),oR True (((ltI x0.x0 0)||(geI x0.x0 orders))=false),rp 2 (oI ((((ltI x0.x0 0)||(geI x0.x0 orders))||(ltI x0.x1 0))=false)),oR True ((((ltI x0.x0 0)||(geI x0.x0 orders))||(ltI x0.x1 0))=false),rp 2 (oI (((((ltI x0.x0 0)||(geI x0.x0 orders))||(ltI x0.x1 0))||(geI x0.x1 orders))=false)),oR True (((((ltI x0.x0 0)||(geI x0.x0 orders))||(ltI x0.x1 0))||(geI x0.x1 orders))=false),bF h7] (Qn8 Γ rv h18 ?_)
   obtain ⟨twice1,rfl⟩:∃ x,x=e0:=⟨_,rfl⟩
   replace h:(br twice1 (chk (okN (l2++[(Qac.mk 6 (catS (catS word Qcu) r))]).length 24) (some (.inl ((l2++[(Qac.mk 6 (catS (catS word Qcu) r))]),(addK .i64 i 1))))) (some (.inl (l2,(addK .i64 i 1)))):Option ((List Qac×Int)⊕(List Qac)))=some _:=h
   rcases Qah h with ⟨h19,h⟩|⟨h19,h⟩
   ·obtain ⟨h20,h⟩:=Qat h
    exact gn 7 [0,1,2,3,9,10] [2] [bT h19,oO (Eq.refl ([(Qac.mk 6 (catS (catS word Qcu) r))].map Qac.enc).length),aO Qac.enc h20] (hI _ (oJ h))
   ·exact gn 7 [0,1,2,3,9,10] [0] [bF h19] (hI _ (oJ h))
 ·exact gn 5 [9] [0] [nL Qau.enc l,bF h2] (hE _ (oJ h))
theorem Qii (Γ:Gam) (rv:List Qac) {orders l word turned l1} (h:Qei orders l word turned l1=some rv):QeD Γ rv ⟨[.c 15],⟨123,[vI 0 orders,vL 1 2 l Qau.enc,vS 2 word,vB 3 turned,vO 9 0 2 l1 Qac.enc],[oS 2 164 l1 Qac.enc]⟩⟩:=by
 unfold Qei at h
 obtain ⟨e1,h21,h⟩:=Qae h
 refine gn 5 [0,1,2,3,9,10] [0] [] (Qn7 Γ rv h21 ?_)
 obtain ⟨l3,rfl⟩:∃ x,x=e1:=⟨_,rfl⟩
 replace h:(some l3:Option (List Qac))=some _:=h
 obtain rfl:=Option.some.inj h
 exact gr 2 [] [hW 4,hH (.frz 0),rp 3 (eL l3 Qac.enc)]
theorem Qp4 {orders l word turned} {rv:List Qac} (h:QfN orders l word turned=some rv):AFn Tryz.prog 112 [.one (lI orders),.one (lL 2 l Qau.enc),.one (.str word),.one (.bool turned)] [] (one (lL 2 rv Qac.enc)) []:=by
 refine QaS Tryz.func112 (by kernel_rfl) (by kernel_rfl) (fun Γ=>?_)
 unfold QfN at h
 rcases Qah h with ⟨h0,h⟩|⟨h0,h⟩
 ·obtain ⟨h1,h⟩:=Qat h
  exact gn 9 [0,1,2,3,9] [1] [nL Qau.enc l,bT h0,oO (Eq.refl ([(Qac.mk 4 word)].map Qac.enc).length),aN (l:=([(Qac.mk 4 word)]:List Qac)) Qac.enc h1] (Qii Γ rv h)
 ·exact gn 9 [0,1,2,3,9] [0] [nL Qau.enc l,bF h0,hW 1,hH (.adopt 9 2 164)] (Qii Γ rv h)
def Qde (Γ:Gam) (rv:List Qac) (cf:Cf):Prop:=Go Tryz.prog Tryz.f112 [] Γ (one (lO 0 2 rv Qac.enc)) [oS 2 164 rv Qac.enc] cf
def Qg3 (Γ:Gam) (rv:List Qac) (orders:Int) (l:List Qau) (word:ByteArray) (turned:Bool) (l2:List Qac) (i:Int) (x0:Qau) (r:ByteArray) (twice:Bool) (k:Int):Prop:=Qde Γ rv ⟨[.c 1001972,.l 1001972,.b 2,.c 125247,.b 1,.c 979,.l 244,.b 0,.c 31],⟨123,[vI 0 orders,vL 1 2 l Qau.enc,vS 2 word,vB 3 turned,vO 9 0 2 l2 Qac.enc,vI 10 i,vI 11 x0.x0,vI 12 x0.x1,vS 13 (catS (catS word Qcu) r),vB 14 twice,vI 15 k],[oS 2 164 l2 Qac.enc]⟩⟩
def QgQ (Γ:Gam) (rv:List Qac) (orders:Int) (l:List Qau) (word:ByteArray) (turned:Bool) (l2:List Qac) (i:Int) (x0:Qau) (r:ByteArray) (twice1:Bool):Prop:=Qde Γ rv ⟨[.c 125247,.b 1,.c 979,.l 244,.b 0,.c 31],⟨123,[vI 0 orders,vL 1 2 l Qau.enc,vS 2 word,vB 3 turned,vO 9 0 2 l2 Qac.enc,vI 10 i,vS 13 (catS (catS word Qcu) r),vB 14 twice1],[oS 2 164 l2 Qac.enc]⟩⟩
def Qg2 (Γ:Gam) (rv:List Qac) (orders:Int) (l:List Qau) (word:ByteArray) (turned:Bool) (l2:List Qac) (i:Int):Prop:=Qde Γ rv ⟨[.c 244,.l 244,.b 0,.c 31],⟨123,[vI 0 orders,vL 1 2 l Qau.enc,vS 2 word,vB 3 turned,vO 9 0 2 l2 Qac.enc,vI 10 i],[oS 2 164 l2 Qac.enc]⟩⟩
def QgP (Γ:Gam) (rv:List Qac) (orders:Int) (l:List Qau) (word:ByteArray) (turned:Bool) (l3:List Qac):Prop:=Qde Γ rv ⟨[.c 31],⟨123,[vO 9 0 2 l3 Qac.enc],[oS 2 164 l3 Qac.enc]⟩⟩
theorem QlG (Γ:Gam) (rv:List Qac) {orders l word turned l2 i x0 r} {s:Bool×Int} {e:Bool} (h:QaK (fun s=>Qd0 orders l word turned l2 i x0 r s.1 s.2) s=some e) (hD:QgQ Γ rv orders l word turned l2 i x0 r e):Qg3 Γ rv orders l word turned l2 i x0 r s.1 s.2:=by
 refine QaC (C:=fun (s:Bool×Int)=>Qg3 Γ rv orders l word turned l2 i x0 r s.1 s.2) (D:=fun (e:Bool)=>QgQ Γ rv orders l word turned l2 i x0 r e) ?_ h hD
 clear h hD s e
 rintro ⟨twice,k⟩ z_ h hI hE
 replace h:Qd0 orders l word turned l2 i x0 r twice k=_:=h
 unfold Qd0 at h
 rcases Qah h with ⟨h9,h⟩|⟨h9,h⟩
 ·rcases Qah h with ⟨h10,h⟩|⟨h10,h⟩
  ·exact gn 11 [0,1,2,3,9,10,11,12,13,14,15] [0] [bT h9,rp 8 (bT h10),rp 7 kF,rp 2 (bT h10),tT,tT,rp 7 kF,tT,tT,rp 7 kF,tT,tT] (hI _ (oJ h))
  ·obtain ⟨x1,h11,h⟩:=Qae h
   rcases Qah h with ⟨h12,h⟩|⟨h12,h⟩
   ·rcases Qah h with ⟨h13,h⟩|⟨h13,h⟩
    ·exact gn 11 [0,1,2,3,9,10,11,12,13,14,15] [0] [bT h9,rp 3 (bF h10),cE Qau.enc h11,bF h10,oO (zL 0),oO (lT 0 2),rp 4 (bF h10),rp 3 (bT h12),cE Qau.enc h11,bT h12,oO (zL 1),oO (lT 1 2),rp 3 (bT h12),bF h10,bT h12,bF h10,rp 2 (bT h13),rp 7 kF,rp 2 (bT h13),rp 7 kF,rp 2 (bT h13)] (hI _ (oJ h))
    ·rcases Qah h with ⟨h14,h⟩|⟨h14,h⟩
     ·rcases Qah h with ⟨h15,h⟩|⟨h15,h⟩
      ·exact gn 11 [0,1,2,3,9,10,11,12,13,14,15] [0] [bT h9,rp 3 (bF h10),cE Qau.enc h11,bF h10,oO (zL 0),oO (lT 0 2),rp 4 (bF h10),rp 3 (bT h12),cE Qau.enc h11,bT h12,oO (zL 1),oO (lT 1 2),rp 3 (bT h12),bF h10,bT h12,bF h10,rp 2 (bF h13),rp 3 (bT h14),cE Qau.enc h11,bT h14,oO (zL 0),oO (lT 0 2),rp 3 (bT h14),bF h13,bT h14,bF h13,rp 3 (bT h15),cE Qau.enc h11,bT h15,oO (zL 1),oO (lT 1 2),rp 3 (bT h15),bF h13,bT h15,bF h13] (hI _ (oJ h))
      ·exact gn 11 [0,1,2,3,9,10,11,12,13,14,15] [0] [bT h9,rp 3 (bF h10),cE Qau.enc h11,bF h10,oO (zL 0),oO (lT 0 2),rp 4 (bF h10),rp 3 (bT h12),cE Qau.enc h11,bT h12,oO (zL 1),oO (lT 1 2),rp 3 (bT h12),bF h10,bT h12,bF h10,rp 2 (bF h13),rp 3 (bT h14),cE Qau.enc h11,bT h14,oO (zL 0),oO (lT 0 2),rp 3 (bT h14),bF h13,bT h14,bF h13,rp 7 (bF h15),bF h13,bF h15,bF h13] (hI _ (oJ h))
     ·exact gn 11 [0,1,2,3,9,10,11,12,13,14,15] [0] [bT h9,rp 3 (bF h10),cE Qau.enc h11,bF h10,oO (zL 0),oO (lT 0 2),rp 4 (bF h10),rp 3 (bT h12),cE Qau.enc h11,bT h12,oO (zL 1),oO (lT 1 2),rp 3 (bT h12),bF h10,bT h12,bF h10,rp 2 (bF h13),rp 7 (bF h14),bF h13,bF h14,bF h13,rp 7 fF,bF h13,fF,bF h13] (hI _ (oJ h))
   ·rcases Qah h with ⟨h16,h⟩|⟨h16,h⟩
    ·rcases Qah h with ⟨h17,h⟩|⟨h17,h⟩
     ·exact gn 11 [0,1,2,3,9,10,11,12,13,14,15] [0] [bT h9,rp 3 (bF h10),cE Qau.enc h11,bF h10,oO (zL 0),oO (lT 0 2),rp 4 (bF h10),rp 7 (bF h12),bF h10,bF h12,bF h10,fF,fF,rp 3 (bT h16),cE Qau.enc h11,bT h16,oO (zL 0),oO (lT 0 2),rp 3 (bT h16),fF,bT h16,fF,rp 3 (bT h17),cE Qau.enc h11,bT h17,oO (zL 1),oO (lT 1 2),rp 3 (bT h17),fF,bT h17,fF] (hI _ (oJ h))
     ·exact gn 11 [0,1,2,3,9,10,11,12,13,14,15] [0] [bT h9,rp 3 (bF h10),cE Qau.enc h11,bF h10,oO (zL 0),oO (lT 0 2),rp 4 (bF h10),rp 7 (bF h12),bF h10,bF h12,bF h10,fF,fF,rp 3 (bT h16),cE Qau.enc h11,bT h16,oO (zL 0),oO (lT 0 2),rp 3 (bT h16),fF,bT h16,fF,rp 7 (bF h17),fF,bF h17,fF] (hI _ (oJ h))
    ·exact gn 11 [0,1,2,3,9,10,11,12,13,14,15] [0] [bT h9,rp 3 (bF h10),cE Qau.enc h11,bF h10,oO (zL 0),oO (lT 0 2),rp 4 (bF h10),rp 7 (bF h12),bF h10,bF h12,bF h10,fF,fF,rp 7 (bF h16),fF,bF h16,rp 11 fF] (hI _ (oJ h))
 ·exact gn 5 [0,1,2,3,9,10,13,14] [0] [bF h9] (hE _ (oJ h))
theorem QlF (Γ:Gam) (rv:List Qac) {orders l word turned} {s:List Qac×Int} {e:List Qac} (h:QaK (fun s=>QdZ orders l word turned s.1 s.2) s=some e) (hD:QgP Γ rv orders l word turned e):Qg2 Γ rv orders l word turned s.1 s.2:=by
 refine QaC (C:=fun (s:List Qac×Int)=>Qg2 Γ rv orders l word turned s.1 s.2) (D:=fun (e:List Qac)=>QgP Γ rv orders l word turned e) ?_ h hD
 clear h hD s e
 rintro ⟨l2,i⟩ z_ h hI hE
 replace h:QdZ orders l word turned l2 i=_:=h
 unfold QdZ at h
 rcases Qah h with ⟨h2,h⟩|⟨h2,h⟩
 ·obtain ⟨x0,h3,h⟩:=Qae h
  obtain ⟨h4,h⟩:=Qat h
  obtain ⟨r,h5,h⟩:=Qae h
  obtain ⟨h6,h⟩:=Qat h
  rcases Qah h with ⟨h7,h⟩|⟨h7,h⟩
  ·obtain ⟨h8,h⟩:=Qat h
   exact gn 22 [0,1,2,3,9,10] [2] [nL Qau.enc l,bT h2,cE Qau.enc h3,oO (zL 0),oO (lT 0 2),cE Qau.enc h3,oO (zL 1),oO (lT 1 2),oO (h4),cC (QeX h5),rp 15 hP,oO (h6),rp 2 (oI ((ltI x0.x0 0)=false)),oR True ((ltI x0.x0 0)=false),oI (((ltI x0.x0 0)||(geI x0.x0 orders))=false),oR True (((ltI x0.x0 0)||(geI x0.x0 orders))=false),rp 2 (oI ((((ltI x0.x0 0)||(geI x0.x0 orders))||(ltI x0.x1 0))=false)),oR True ((((ltI x0.x0 0)||(geI x0.x0 orders))||(ltI x0.x1 0))=false),rp 2 (oI (((((ltI x0.x0 0)||(geI x0.x0 orders))||(ltI x0.x1 0))||(geI x0.x1 orders))=false)),oR True (((((ltI x0.x0 0)||(geI x0.x0 orders))||(ltI x0.x1 0))||(geI x0.x1 orders))=false),bT h7,oO (Eq.refl ([(Qac.mk 2 (catS (catS word Qcu) r))].map Qac.enc).length),aO Qac.enc h8] (hI _ (oJ h))
  ·obtain ⟨e0,h18,h⟩:=Qae h
   refine gn 25 [0,1,2,3,9,10,11,12,13,14,15] [0] [nL Qau.enc l,bT h2,cE Qau.enc h3,oO (zL 0),oO (lT 0 2),cE Qau.enc h3,oO (zL 1),oO (lT 1 2),oO (h4),cC (QeX h5),rp 15 hP,oO (h6),rp 2 (oI ((ltI x0.x0 0)=false)),oR True ((ltI x0.x0 0)=false),oI (((ltI x0.x0 0)||(geI x0.x0 orders))=false),oR True (((ltI x0.x0 0)||(geI x0.x0 orders))=false),rp 2 (oI ((((ltI x0.x0 0)||(geI x0.x0 orders))||(ltI x0.x1 0))=false)),oR True ((((ltI x0.x0 0)||(geI x0.x0 orders))||(ltI x0.x1 0))=false),rp 2 (oI (((((ltI x0.x0 0)||(geI x0.x0 orders))||(ltI x0.x1 0))||(geI x0.x1 orders))=false)),oR True (((((ltI x0.x0 0)||(geI x0.x0 orders))||(ltI x0.x1 0))||(geI x0.x1 orders))=false),bF h7] (QlG Γ rv h18 ?_)
   obtain ⟨twice1,rfl⟩:∃ x,x=e0:=⟨_,rfl⟩
   replace h:(br twice1 (chk (okN (l2++[(Qac.mk 6 (catS (catS word Qcu) r))]).length 24) (some (.inl ((l2++[(Qac.mk 6 (catS (catS word Qcu) r))]),(addK .i64 i 1))))) (some (.inl (l2,(addK .i64 i 1)))):Option ((List Qac×Int)⊕(List Qac)))=some _:=h
   rcases Qah h with ⟨h19,h⟩|⟨h19,h⟩
   ·obtain ⟨h20,h⟩:=Qat h
    exact gn 7 [0,1,2,3,9,10] [2] [bT h19,oO (Eq.refl ([(Qac.mk 6 (catS (catS word Qcu) r))].map Qac.enc).length),aO Qac.enc h20] (hI _ (oJ h))
   ·exact gn 7 [0,1,2,3,9,10] [0] [bF h19] (hI _ (oJ h))
 ·exact gn 5 [9] [0] [nL Qau.enc l,bF h2] (hE _ (oJ h))
theorem QgO (Γ:Gam) (rv:List Qac) {orders l word turned l1} (h:QdY orders l word turned l1=some rv):Qde Γ rv ⟨[.c 15],⟨123,[vI 0 orders,vL 1 2 l Qau.enc,vS 2 word,vB 3 turned,vO 9 0 2 l1 Qac.enc],[oS 2 164 l1 Qac.enc]⟩⟩:=by
 unfold QdY at h
 obtain ⟨e1,h21,h⟩:=Qae h
 refine gn 5 [0,1,2,3,9,10] [0] [] (QlF Γ rv h21 ?_)
 obtain ⟨l3,rfl⟩:∃ x,x=e1:=⟨_,rfl⟩
 replace h:(some l3:Option (List Qac))=some _:=h
 obtain rfl:=Option.some.inj h
 exact gr 2 [0] []
theorem Qnp {orders l word turned} {rv:List Qac} (h:QgS orders l word turned=some rv):AFn Tryz.prog 112 [.one (lI orders),.one (lL 2 l Qau.enc),.one (.str word),.one (.bool turned)] [] (one (lO 0 2 rv Qac.enc)) [oS 2 164 rv Qac.enc]:=by
 refine QaS Tryz.func112 (by kernel_rfl) (by kernel_rfl) (fun Γ=>?_)
 unfold QgS at h
 rcases Qah h with ⟨h0,h⟩|⟨h0,h⟩
 ·obtain ⟨h1,h⟩:=Qat h
  exact gn 9 [0,1,2,3,9] [1] [nL Qau.enc l,bT h0,oO (Eq.refl ([(Qac.mk 4 word)].map Qac.enc).length),aN (l:=([(Qac.mk 4 word)]:List Qac)) Qac.enc h1] (QgO Γ rv h)
 ·exact gn 9 [0,1,2,3,9] [0] [nL Qau.enc l,bF h0,hW 1,hH (.adopt 9 2 164)] (QgO Γ rv h)
theorem QqB {orders apart before} {rv:List Qac} (h:Qgl orders apart before=some rv):AFn Tryz.prog 70 [.one (lI orders),.one (lL 2 apart Qau.enc),.one (lL 2 before Qau.enc)] [] (one (lL 2 rv Qac.enc)) []:=by
 refine QaS Tryz.func70 (by kernel_rfl) (by kernel_rfl) (fun Γ=>?_)
 unfold Qgl at h
 obtain ⟨r,h0,h⟩:=Qae h
 obtain ⟨r1,h1,h⟩:=Qae h
 obtain ⟨h2,h⟩:=Qat h
 obtain rfl:=Option.some.inj h
 exact gr 6 [] [cC (Qnp h0),cC (Qp4 h1),aO Qac.enc h2,hW 1,hH (.frz 1),rp 2 (oO (Eq.refl ((r++r1).map Qac.enc).length))]
def Qgo (Γ:Gam) (rv:List Qac) (cf:Cf):Prop:=Go Tryz.prog Tryz.f65 [] Γ (one (lO 0 2 rv Qac.enc)) [oS 2 164 rv Qac.enc] cf
def Qe8 (Γ:Gam) (rv:List Qac) (word:ByteArray) (l:List Qac) (l1:List Qac) (i:Int):Prop:=Qgo Γ rv ⟨[.c 116,.l 116,.b 0,.c 15],⟨40,[vS 0 word,vL 1 2 l Qac.enc,vO 5 0 2 l1 Qac.enc,vI 6 i],[oS 2 164 l1 Qac.enc]⟩⟩
def QeR (Γ:Gam) (rv:List Qac) (word:ByteArray) (l:List Qac) (l2:List Qac):Prop:=Qgo Γ rv ⟨[.c 15],⟨40,[vO 5 0 2 l2 Qac.enc],[oS 2 164 l2 Qac.enc]⟩⟩
theorem Qg4 (Γ:Gam) (rv:List Qac) {word l l1 i at_} {x:(List Qac×Int)⊕(List Qac)} (h:Qen word l l1 i at_=some x) (hI:∀ s:List Qac×Int,x=.inl s→Qe8 Γ rv word l s.1 s.2) (hE:∀ e:List Qac,x=.inr e→QeR Γ rv word l e):Qgo Γ rv ⟨[.c 3731,.b 1,.c 467,.l 116,.b 0,.c 15],⟨40,[vS 0 word,vL 1 2 l Qac.enc,vO 5 0 2 l1 Qac.enc,vI 6 i,vS 7 at_],[oS 2 164 l1 Qac.enc]⟩⟩:=by
 unfold Qen at h
 obtain ⟨x1,h5,h⟩:=Qae h
 obtain ⟨h6,h⟩:=Qat h
 exact gn 4 [0,1,5,6] [2] [cE Qac.enc h5,oO (Eq.refl ([(Qac.mk x1.err at_)].map Qac.enc).length),aO Qac.enc h6] (hI _ (oJ h))
theorem Qmi (Γ:Gam) (rv:List Qac) {word l} {s:List Qac×Int} {e:List Qac} (h:QaK (fun s=>Qeo word l s.1 s.2) s=some e) (hD:QeR Γ rv word l e):Qe8 Γ rv word l s.1 s.2:=by
 refine QaC (C:=fun (s:List Qac×Int)=>Qe8 Γ rv word l s.1 s.2) (D:=fun (e:List Qac)=>QeR Γ rv word l e) ?_ h hD
 clear h hD s e
 rintro ⟨l1,i⟩ z_ h hI hE
 replace h:Qeo word l l1 i=_:=h
 unfold Qeo at h
 rcases Qah h with ⟨h0,h⟩|⟨h0,h⟩
 ·obtain ⟨x0,h1,h⟩:=Qae h
  rcases Qah h with ⟨h2,h⟩|⟨h2,h⟩
  ·exact gn 14 [0,1,5,6,7] [0] [nL Qac.enc l,bT h0,cE Qac.enc h1,nF h2] (Qg4 Γ rv h hI hE)
  ·obtain ⟨h3,h⟩:=Qat h
   obtain ⟨h4,h⟩:=Qat h
   exact gn 14 [0,1,5,6,7] [0] [nL Qac.enc l,bT h0,cE Qac.enc h1,nT h2,oO (h3),cE Qac.enc h1,oO (h4)] (Qg4 Γ rv h hI hE)
 ·exact gn 5 [5] [0] [nL Qac.enc l,bF h0] (hE _ (oJ h))
theorem Qn9 {word l} {rv:List Qac} (h:Qfz word l=some rv):AFn Tryz.prog 65 [.one (.str word),.one (lL 2 l Qac.enc)] [] (one (lO 0 2 rv Qac.enc)) [oS 2 164 rv Qac.enc]:=by
 refine QaS Tryz.func65 (by kernel_rfl) (by kernel_rfl) (fun Γ=>?_)
 unfold Qfz at h
 obtain ⟨e0,h7,h⟩:=Qae h
 refine gn 9 [0,1,5,6] [0] [hW 12,hH (.adopt 5 2 164)] (Qmi Γ rv h7 ?_)
 obtain ⟨l2,rfl⟩:∃ x,x=e0:=⟨_,rfl⟩
 replace h:(some l2:Option (List Qac))=some _:=h
 obtain rfl:=Option.some.inj h
 exact gr 2 [0] []
theorem QqC {x0} {rv:List Qac} (h:Qgm x0=some rv):AFn Tryz.prog 23 [.agg (Qab.enc x0)] [] (one (lL 2 rv Qac.enc)) []:=by
 refine QaS Tryz.func23 (by kernel_rfl) (by kernel_rfl) (fun Γ=>?_)
 unfold Qgm at h
 obtain ⟨r,h0,h⟩:=Qae h
 obtain ⟨r1,h1,h⟩:=Qae h
 obtain ⟨r2,h2,h⟩:=Qae h
 obtain ⟨r3,h3,h⟩:=Qae h
 obtain ⟨h4,h⟩:=Qat h
 obtain ⟨r4,h5,h⟩:=Qae h
 obtain ⟨r5,h6,h⟩:=Qae h
 obtain ⟨r6,h7,h⟩:=Qae h
 obtain ⟨h8,h⟩:=Qat h
 obtain ⟨r7,h9,h⟩:=Qae h
 obtain ⟨r8,h10,h⟩:=Qae h
 obtain ⟨h11,h⟩:=Qat h
 obtain rfl:=Option.some.inj h
 exact gr 12 [] [cC (Qqw h0),cC (Qn9 h1),cC (Qqx h2),cC (QhP h3),aO Qac.enc h4,hH (.draw 13 []),cC (Qe5 h5),nL Qag.enc x0.types,cC (Qqz h6),cC (QhP h7),aO Qac.enc h8,nL Qaf.enc x0.orders,cC (QqB h9),cC (QhP h10),aO Qac.enc h11,hW 5,hH (.frz 4),rp 4 (oO (Eq.refl ((((r1++r3)++r6)++r8).map Qac.enc).length))]
theorem Qer {x0} {rv:Bool} (h:QhE x0=some rv):AFn Tryz.prog 7 [.agg (Qab.enc x0)] [] (one (.bool rv)) []:=by
 refine QaS Tryz.func7 (by kernel_rfl) (by kernel_rfl) (fun Γ=>?_)
 unfold QhE at h
 rcases Qah h with ⟨h0,h⟩|⟨h0,h⟩
 ·obtain ⟨r,h1,h⟩:=Qae h
  obtain rfl:=Option.some.inj h
  exact gr 4 [] [nL Qaf.enc x0.orders,bT h0,bT h0,cC (QqC h1),bT h0,nL Qac.enc r,bT h0,bT h0]
 ·obtain rfl:=Option.some.inj h
  exact gr 4 [] [nL Qaf.enc x0.orders,rp 5 (bF h0)]
theorem QaB {set_ i} {rv:Bool} (h:QbV set_ i=some rv):AFn Tryz.prog 71 [.one (lI set_),.one (lI i)] [] (one (.bool rv)) []:=by
 refine QaS Tryz.func71 (by kernel_rfl) (by kernel_rfl) (fun Γ=>?_)
 unfold QbV at h
 rcases Qah h with ⟨h0,h⟩|⟨h0,h⟩
 ·obtain ⟨h1,h⟩:=Qat h
  obtain rfl:=Option.some.inj h
  exact gr 4 [] [hP,hP,hP,oI ((geI i 0)=true),oR True ((geI i 0)=true),rp 3 (bT h0),oO (h1),rp 3 (bT h0)]
 ·obtain rfl:=Option.some.inj h
  exact gr 4 [] [hP,hP,hP,oI ((geI i 0)=true),oR True ((geI i 0)=true),rp 6 (bF h0)]
def Qq2 (Γ:Gam) (rv:List Int) (cf:Cf):Prop:=Go Tryz.prog Tryz.f26 [] Γ (one (lL 1 rv Qax)) [] cf
def Qn1 (Γ:Gam) (rv:List Int) (set_:Int) (l:List Int) (v:Int):Prop:=Qq2 Γ rv ⟨[.c 116,.l 116,.b 0,.c 15],⟨17,[vI 0 set_,vO 3 0 1 l Qax,vI 5 v],[oS 1 3 l Qax]⟩⟩
def Qnb (Γ:Gam) (rv:List Int) (set_:Int) (l1:List Int):Prop:=Qq2 Γ rv ⟨[.c 15],⟨17,[vO 3 0 1 l1 Qax],[oS 1 3 l1 Qax]⟩⟩
theorem QrQ (Γ:Gam) (rv:List Int) {set_} {s:List Int×Int} {e:List Int} (h:QaK (fun s=>Qbf set_ s.1 s.2) s=some e) (hD:Qnb Γ rv set_ e):Qn1 Γ rv set_ s.1 s.2:=by
 refine QaC (C:=fun (s:List Int×Int)=>Qn1 Γ rv set_ s.1 s.2) (D:=fun (e:List Int)=>Qnb Γ rv set_ e) ?_ h hD
 clear h hD s e
 rintro ⟨l,v⟩ z_ h hI hE
 replace h:Qbf set_ l v=_:=h
 unfold Qbf at h
 rcases Qah h with ⟨h0,h⟩|⟨h0,h⟩
 ·obtain ⟨r,h1,h⟩:=Qae h
  rcases Qah h with ⟨h2,h⟩|⟨h2,h⟩
  ·obtain ⟨h3,h⟩:=Qat h
   exact gn 16 [0,3,5] [2] [bT h0,cC (QaB h1),bT h2,oO (Eq.refl ([v].map Qax).length),aO Qax h3] (hI _ (oJ h))
  ·exact gn 16 [0,3,5] [0] [bT h0,cC (QaB h1),bF h2] (hI _ (oJ h))
 ·exact gn 5 [3] [0] [bF h0] (hE _ (oJ h))
theorem Qml {set_} {rv:List Int} (h:QfE set_=some rv):AFn Tryz.prog 26 [.one (lI set_)] [] (one (lL 1 rv Qax)) []:=by
 refine QaS Tryz.func26 (by kernel_rfl) (by kernel_rfl) (fun Γ=>?_)
 unfold QfE at h
 obtain ⟨e0,h4,h⟩:=Qae h
 refine gn 9 [0,3,5] [0] [hW 12,hH (.adopt 3 1 3)] (QrQ Γ rv h4 ?_)
 obtain ⟨l1,rfl⟩:∃ x,x=e0:=⟨_,rfl⟩
 replace h:(some l1:Option (List Int))=some _:=h
 obtain rfl:=Option.some.inj h
 exact gr 2 [] [hW 4,hH (.frz 0),rp 3 (eL l1 Qax)]
def Qr3 (Γ:Gam) (rv:Bool) (cf:Cf):Prop:=Go Tryz.prog Tryz.f24 [] Γ (one (.bool rv)) [] cf
def Qos (Γ:Gam) (rv:Bool) (x0:Qab) (r:List Int) (v:Int):Prop:=Qr3 Γ rv ⟨[.c 116,.l 116,.b 0,.c 15],⟨32,[vP 2 0 6,vL 19 1 r Qax,vI 20 (lenI r),vI 21 v],[oX 6 30 (Qab.enc x0)]⟩⟩
def QnB (Γ:Gam) (rv:Bool) (x0:Qab) (r:List Int):Prop:=Qr3 Γ rv ⟨[.c 15],⟨32,[],[]⟩⟩
theorem Qsc (Γ:Gam) (rv:Bool) {x0 r} {s:Int} {e:(Unit)⊕(Bool)} (h:QaK (fun s=>QdX x0 r s) s=some e) (hD:sel e (fun e=>QnB Γ rv x0 r) (fun e=>e=rv)):Qos Γ rv x0 r s:=by
 refine QaC (C:=fun (s:Int)=>Qos Γ rv x0 r s) (D:=fun (e:(Unit)⊕(Bool))=>sel e (fun e=>QnB Γ rv x0 r) (fun e=>e=rv)) ?_ h hD
 clear h hD s e
 intro v z_ h hI hE
 replace h:QdX x0 r v=_:=h
 unfold QdX at h
 rcases Qah h with ⟨h4,h⟩|⟨h4,h⟩
 ·obtain ⟨x1,h5,h⟩:=Qae h
  obtain ⟨x2,h6,h⟩:=Qae h
  rcases Qah h with ⟨h7,h⟩|⟨h7,h⟩
  ·obtain rfl:=(hE _ (oJ h):_=rv)
   exact gr 14 [] [bT h4,cE Qax h5,cE Qaf.enc h6,bT h7]
  ·exact gn 16 [2,19,20,21] [0] [bT h4,cE Qax h5,cE Qaf.enc h6,bF h7] (hI _ (oJ h))
 ·exact gn 5 [] [] [bF h4] (hE _ (oJ h))
theorem Qnk {x0 set_} {rv:Bool} (h:Qmt x0 set_=some rv):AFn Tryz.prog 24 [.agg (Qab.enc x0),.one (lI set_)] [] (one (.bool rv)) []:=by
 refine QaS Tryz.func24 (by kernel_rfl) (by kernel_rfl) (fun Γ=>?_)
 unfold Qmt at h
 rcases Qah h with ⟨h0,h⟩|⟨h0,h⟩
 ·obtain rfl:=Option.some.inj h
  exact gr 8 [] [rp 8 (bT h0),tT]
 ·obtain ⟨h1,h⟩:=Qat h
  rcases Qah h with ⟨h2,h⟩|⟨h2,h⟩
  ·obtain rfl:=Option.some.inj h
   exact gr 8 [] [rp 4 (bF h0),nL Qaf.enc x0.orders,bF h0,bF h0,oO (h1),bF h0,bF h0,bT h2]
  ·obtain ⟨r,h3,h⟩:=Qae h
   obtain ⟨e0,h8,h⟩:=Qae h
   refine gn 12 [2,19,20,21] [0] [rp 4 (bF h0),nL Qaf.enc x0.orders,bF h0,bF h0,oO (h1),bF h0,bF h0,bF h2,cC (Qml h3),nL Qax r] (Qsc Γ rv h8 ?_)
   rcases e0 with e0|e0
   ·replace h:(some true:Option Bool)=some _:=h
    obtain rfl:=Option.some.inj h
    exact gr 2 [] []
   ·obtain ⟨r1,rfl⟩:∃ x,x=e0:=⟨_,rfl⟩
    replace h:(some r1:Option Bool)=some _:=h
    exact Option.some.inj h
def QkK (Γ:Gam) (rv:Bool) (cf:Cf):Prop:=Go Tryz.prog Tryz.f25 [] Γ (one (.bool rv)) [] cf
def QnC (Γ:Gam) (rv:Bool) (x0:Qab) (set_:Int) (v:Int):Prop:=QkK Γ rv ⟨[.c 52,.l 52,.b 0,.c 7],⟨46,[vI 1 set_,vP 2 0 6,vL 10 2 x0.apart Qau.enc,vI 11 (lenI x0.apart),vI 12 v],[oX 6 30 (Qab.enc x0)]⟩⟩
def Qmu (Γ:Gam) (rv:Bool) (x0:Qab) (set_:Int):Prop:=QkK Γ rv ⟨[.c 7],⟨46,[vI 1 set_,vP 2 0 6],[oX 6 30 (Qab.enc x0)]⟩⟩
def QnD (Γ:Gam) (rv:Bool) (x0:Qab) (set_:Int) (v1:Int):Prop:=QkK Γ rv ⟨[.c 116,.l 116,.b 2,.c 15],⟨46,[vI 1 set_,vL 28 2 x0.before Qau.enc,vI 29 (lenI x0.before),vI 30 v1],[]⟩⟩
def Qmv (Γ:Gam) (rv:Bool) (x0:Qab) (set_:Int):Prop:=QkK Γ rv ⟨[.c 15],⟨46,[],[]⟩⟩
theorem Qro (Γ:Gam) (rv:Bool) {x0 set_} {s:Int} {e:(Unit)⊕(Bool)} (h:QaK (fun s=>Qdo x0 set_ s) s=some e) (hD:sel e (fun e=>Qmu Γ rv x0 set_) (fun e=>e=rv)):QnC Γ rv x0 set_ s:=by
 refine QaC (C:=fun (s:Int)=>QnC Γ rv x0 set_ s) (D:=fun (e:(Unit)⊕(Bool))=>sel e (fun e=>Qmu Γ rv x0 set_) (fun e=>e=rv)) ?_ h hD
 clear h hD s e
 intro v z_ h hI hE
 replace h:Qdo x0 set_ v=_:=h
 unfold Qdo at h
 rcases Qah h with ⟨h0,h⟩|⟨h0,h⟩
 ·obtain ⟨x1,h1,h⟩:=Qae h
  obtain ⟨r,h2,h⟩:=Qae h
  rcases Qah h with ⟨h3,h⟩|⟨h3,h⟩
  ·obtain ⟨r1,h4,h⟩:=Qae h
   rcases Qah h with ⟨h5,h⟩|⟨h5,h⟩
   ·obtain rfl:=(hE _ (oJ h):_=rv)
    exact gr 14 [] [bT h0,cE Qau.enc h1,oO (zL 0),oO (lT 0 2),cC (QaB h2),bT h3,bT h3,oO (zL 1),oO (lT 1 2),bT h3,bT h3,cC (QaB h4),bT h3,bT h5]
   ·exact gn 16 [1,2,10,11,12] [0] [bT h0,cE Qau.enc h1,oO (zL 0),oO (lT 0 2),cC (QaB h2),bT h3,bT h3,oO (zL 1),oO (lT 1 2),bT h3,bT h3,cC (QaB h4),bT h3,bF h5] (hI _ (oJ h))
  ·exact gn 16 [1,2,10,11,12] [0] [bT h0,cE Qau.enc h1,oO (zL 0),oO (lT 0 2),cC (QaB h2),rp 5 (bF h3),fF] (hI _ (oJ h))
 ·exact gn 5 [1,2] [0] [bF h0] (hE _ (oJ h))
theorem Qrp (Γ:Gam) (rv:Bool) {x0 set_} {s:Int} {e:(Unit)⊕(Bool)} (h:QaK (fun s=>QcT x0 set_ s) s=some e) (hD:sel e (fun e=>Qmv Γ rv x0 set_) (fun e=>e=rv)):QnD Γ rv x0 set_ s:=by
 refine QaC (C:=fun (s:Int)=>QnD Γ rv x0 set_ s) (D:=fun (e:(Unit)⊕(Bool))=>sel e (fun e=>Qmv Γ rv x0 set_) (fun e=>e=rv)) ?_ h hD
 clear h hD s e
 intro v1 z_ h hI hE
 replace h:QcT x0 set_ v1=_:=h
 unfold QcT at h
 rcases Qah h with ⟨h7,h⟩|⟨h7,h⟩
 ·obtain ⟨x2,h8,h⟩:=Qae h
  obtain ⟨r2,h9,h⟩:=Qae h
  rcases Qah h with ⟨h10,h⟩|⟨h10,h⟩
  ·obtain ⟨r3,h11,h⟩:=Qae h
   rcases Qah h with ⟨h12,h⟩|⟨h12,h⟩
   ·exact gn 16 [1,28,29,30] [] [bT h7,cE Qau.enc h8,oO (zL 1),oO (lT 1 2),cC (QaB h9),rp 2 (bT h10),oO (zL 0),oO (lT 0 2),rp 2 (bT h10),cC (QaB h11),rp 2 (bT h10),nF h12] (hI _ (oJ h))
   ·obtain rfl:=(hE _ (oJ h):_=rv)
    exact gr 14 [] [bT h7,cE Qau.enc h8,oO (zL 1),oO (lT 1 2),cC (QaB h9),rp 2 (bT h10),oO (zL 0),oO (lT 0 2),rp 2 (bT h10),cC (QaB h11),rp 2 (bT h10),nT h12]
  ·exact gn 16 [1,28,29,30] [] [bT h7,cE Qau.enc h8,oO (zL 1),oO (lT 1 2),cC (QaB h9),rp 6 (bF h10),fF] (hI _ (oJ h))
 ·exact gn 5 [] [] [bF h7] (hE _ (oJ h))
theorem QpP {x0 set_} {rv:Bool} (h:Qk4 x0 set_=some rv):AFn Tryz.prog 25 [.agg (Qab.enc x0),.one (lI set_)] [] (one (.bool rv)) []:=by
 refine QaS Tryz.func25 (by kernel_rfl) (by kernel_rfl) (fun Γ=>?_)
 unfold Qk4 at h
 obtain ⟨e0,h6,h⟩:=Qae h
 refine gn 7 [1,2,10,11,12] [0] [nL Qau.enc x0.apart] (Qro Γ rv h6 ?_)
 rcases e0 with e0|e0
 ·replace h:(bnd (QaK (fun s=>QcT x0 set_ s) 0) (fun e=>sel e (fun (_:Unit)=>some true) (fun r4=>some r4)):Option Bool)=some _:=h
  obtain ⟨e1,h13,h⟩:=Qae h
  refine gn 5 [1,28,29,30] [] [nL Qau.enc x0.before] (Qrp Γ rv h13 ?_)
  rcases e1 with e1|e1
  ·replace h:(some true:Option Bool)=some _:=h
   obtain rfl:=Option.some.inj h
   exact gr 2 [] []
  ·obtain ⟨r4,rfl⟩:∃ x,x=e1:=⟨_,rfl⟩
   replace h:(some r4:Option Bool)=some _:=h
   exact Option.some.inj h
 ·obtain ⟨r5,rfl⟩:∃ x,x=e0:=⟨_,rfl⟩
  replace h:(some r5:Option Bool)=some _:=h
  exact Option.some.inj h
theorem Qfh {t skills} {rv:Bool} (h:QfJ t skills=some rv):AFn Tryz.prog 27 [.agg (Qag.enc t),.one (lI skills)] [] (one (.bool rv)) []:=by
 refine QaS Tryz.func27 (by kernel_rfl) (by kernel_rfl) (fun Γ=>?_)
 unfold QfJ at h
 obtain rfl:=Option.some.inj h
 exact gr 4 [] [rp 9 hP,oI ((geI t.skills 0)=true),oR True ((geI t.skills 0)=true),rp 4 (oI (((geI t.skills 0)&&(geI skills 0))=true)),oR True (((geI t.skills 0)&&(geI skills 0))=true)]
theorem Qvz {a b} {rv:Int} (h:Qqv a b=some rv):AFn Tryz.prog 73 [.one (lI a),.one (lI b)] [] (one (lI rv)) []:=by
 refine QaS Tryz.func73 (by kernel_rfl) (by kernel_rfl) (fun Γ=>?_)
 unfold Qqv at h
 obtain rfl:=Option.some.inj h
 exact gr 4 [] []
def Qk6 (Γ:Gam) (rv:List Int×Int) (cf:Cf):Prop:=Go Tryz.prog Tryz.f72 [] Γ (.tup [.one (lL 1 rv.1 Qax),.one (lI rv.2)]) [] cf
def Qh9 (Γ:Gam) (rv:List Int×Int) (a:List Int) (b:List Int) (l:List Int) (l1:List Int) (v:Int):Prop:=Qk6 Γ rv ⟨[.c 244,.l 244,.b 0,.c 31],⟨38,[vL 0 1 a Qax,vL 1 1 b Qax,(2,one (.fn (.func 73) [])),vO 8 0 1 l1 Qax,vI 19 (lenI a),vI 20 v],[oS 1 3 l1 Qax]⟩⟩
def QhD (Γ:Gam) (rv:List Int×Int) (a:List Int) (b:List Int) (l:List Int) (l2:List Int):Prop:=Qk6 Γ rv ⟨[.c 31],⟨38,[vO 8 0 1 l2 Qax],[oS 1 3 l2 Qax]⟩⟩
theorem Qnm (Γ:Gam) (rv:List Int×Int) {a b l} {s:List Int×Int} {e:List Int} (h:QaK (fun s=>QbB a b l s.1 s.2) s=some e) (hD:QhD Γ rv a b l e):Qh9 Γ rv a b l s.1 s.2:=by
 refine QaC (C:=fun (s:List Int×Int)=>Qh9 Γ rv a b l s.1 s.2) (D:=fun (e:List Int)=>QhD Γ rv a b l e) ?_ h hD
 clear h hD s e
 rintro ⟨l1,v⟩ z_ h hI hE
 replace h:QbB a b l l1 v=_:=h
 unfold QbB at h
 rcases Qah h with ⟨h2,h⟩|⟨h2,h⟩
 ·obtain ⟨x0,h3,h⟩:=Qae h
  obtain ⟨x1,h4,h⟩:=Qae h
  obtain ⟨r,h5,h⟩:=Qae h
  obtain ⟨x2,h6,h⟩:=Qae h
  exact gn 13 [0,1,2,8,19,20] [0] [bT h2,hH (.draw 13 []),cE Qax h3,cE Qax h4,cC (Qvz h5),oO (Qxg h6),oO (Qxf Qax h6),rE Qax h6,hH (.rows ((setI l1 v r).map Qax)),hH (.relen 0 ((setI l1 v r).map Qax).length),oO (setM Qax l1 v r),rp 2 (oO (QzP Qax l1 v r))] (hI _ (oJ h))
 ·exact gn 5 [8] [0] [bF h2] (hE _ (oJ h))
theorem Qpr {a b} {rv:List Int×Int} (h:QgD a b=some rv):AFn Tryz.prog 72 [.one (lL 1 a Qax),.one (lL 1 b Qax),.one (.fn (.func 73) [])] [] (.tup [.one (lL 1 rv.1 Qax),.one (lI rv.2)]) []:=by
 refine QaS Tryz.func72 (by kernel_rfl) (by kernel_rfl) (fun Γ=>?_)
 unfold QgD at h
 rcases Qah h with ⟨h0,h⟩|⟨h0,h⟩
 ·obtain rfl:=Option.some.inj h
  exact gr 8 [] [nL Qax a,nL Qax b,bT h0,hW 4,hH (.nilS 6 0 1)]
 ·obtain ⟨l,h1,h⟩:=Qae h
  obtain ⟨e0,h7,h⟩:=Qae h
  refine gn 14 [0,1,2,8,19,20] [0] [nL Qax a,nL Qax b,bF h0,nL Qax a,hH (.cells [lI 0]),hH (.rows (l.map Qax)),oO (mk1 h1),oO (mk2 h1),oO (mk3 h1),oO (mk4 h1),oO (mk5 Qax h1),nL Qax a] (Qnm Γ rv h7 ?_)
  obtain ⟨l2,rfl⟩:∃ x,x=e0:=⟨_,rfl⟩
  replace h:(some (l2,0):Option (List Int×Int))=some _:=h
  obtain rfl:=Option.some.inj h
  exact gr 2 [] [hW 5,hH (.frz 0),rp 3 (eL l2 Qax)]
theorem Qtb {a b} {rv:List Int×Int} (h:Qpm a b=some rv):AFn Tryz.prog 28 [.one (lL 1 a Qax),.one (lL 1 b Qax)] [] (.tup [.one (lL 1 rv.1 Qax),.one (lI rv.2)]) []:=by
 refine QaS Tryz.func28 (by kernel_rfl) (by kernel_rfl) (fun Γ=>?_)
 unfold Qpm at h
 obtain ⟨r,h0,h⟩:=Qae h
 obtain rfl:=Option.some.inj h
 exact gr 4 [] [cC (Qpr h0)]
def Qtc (Γ:Gam) (rv:Bool) (cf:Cf):Prop:=Go Tryz.prog Tryz.f29 [] Γ (one (.bool rv)) [] cf
def QpQ (Γ:Gam) (rv:Bool) (a:List Int) (capacity:List Int) (v:Int):Prop:=Qtc Γ rv ⟨[.c 116,.l 116,.b 0,.c 15],⟨26,[vL 1 1 capacity Qax,vL 12 1 a Qax,vI 13 (lenI a),vI 14 v],[]⟩⟩
def Qox (Γ:Gam) (rv:Bool) (a:List Int) (capacity:List Int):Prop:=Qtc Γ rv ⟨[.c 15],⟨26,[],[]⟩⟩
theorem Qtd (Γ:Gam) (rv:Bool) {a capacity} {s:Int} {e:(Unit)⊕(Bool)} (h:QaK (fun s=>Qev a capacity s) s=some e) (hD:sel e (fun e=>Qox Γ rv a capacity) (fun e=>e=rv)):QpQ Γ rv a capacity s:=by
 refine QaC (C:=fun (s:Int)=>QpQ Γ rv a capacity s) (D:=fun (e:(Unit)⊕(Bool))=>sel e (fun e=>Qox Γ rv a capacity) (fun e=>e=rv)) ?_ h hD
 clear h hD s e
 intro v z_ h hI hE
 replace h:Qev a capacity v=_:=h
 unfold Qev at h
 rcases Qah h with ⟨h1,h⟩|⟨h1,h⟩
 ·obtain ⟨x0,h2,h⟩:=Qae h
  obtain ⟨x1,h3,h⟩:=Qae h
  rcases Qah h with ⟨h4,h⟩|⟨h4,h⟩
  ·obtain rfl:=(hE _ (oJ h):_=rv)
   exact gr 14 [] [bT h1,cE Qax h2,cE Qax h3,bT h4]
  ·exact gn 16 [1,12,13,14] [] [bT h1,cE Qax h2,cE Qax h3,bF h4] (hI _ (oJ h))
 ·exact gn 5 [] [] [bF h1] (hE _ (oJ h))
theorem Qgd {a capacity} {rv:Bool} (h:QhB a capacity=some rv):AFn Tryz.prog 29 [.one (lL 1 a Qax),.one (lL 1 capacity Qax)] [] (one (.bool rv)) []:=by
 refine QaS Tryz.func29 (by kernel_rfl) (by kernel_rfl) (fun Γ=>?_)
 unfold QhB at h
 rcases Qah h with ⟨h0,h⟩|⟨h0,h⟩
 ·obtain rfl:=Option.some.inj h
  exact gr 8 [] [nL Qax a,nL Qax capacity,bT h0]
 ·obtain ⟨e0,h5,h⟩:=Qae h
  refine gn 12 [1,12,13,14] [] [nL Qax a,nL Qax capacity,bF h0,nL Qax a] (Qtd Γ rv h5 ?_)
  rcases e0 with e0|e0
  ·replace h:(some true:Option Bool)=some _:=h
   obtain rfl:=Option.some.inj h
   exact gr 2 [] []
  ·obtain ⟨r,rfl⟩:∃ x,x=e0:=⟨_,rfl⟩
   replace h:(some r:Option Bool)=some _:=h
   exact Option.some.inj h
theorem Qr4 {t l} {rv:List Qad} (h:Qk5 t l=some rv):AFn Tryz.prog 30 [.agg (Qag.enc t),.agg (Qad.enc l)] [] (one (lL 9 rv Qad.enc)) []:=by
 refine QaS Tryz.func30 (by kernel_rfl) (by kernel_rfl) (fun Γ=>?_)
 unfold Qk5 at h
 obtain rfl:=Option.some.inj h
 exact gr 10 [] [hW 29,hH (.frz 3),rp 2 (oO (Eq.refl ([l,(Qad.mk l.type_ l.visits l.place (addK .i64 l.time t.rest_) 0 l.miles l.load l.done l.open_)].map Qad.enc).length))]
def Qr2 (Γ:Gam) (rv:List Qad) (cf:Cf):Prop:=Go Tryz.prog Tryz.f9 [] Γ (one (lL 9 rv Qad.enc)) [] cf
def Qoo (Γ:Gam) (rv:List Qad) (x0:Qab) (kind:Int) (x1:Qag) (l:List Int) (r2:List Int) (open_:Int) (time:Int) (load:List Int) (open_1:Int) (v:Int):Prop:=Qr2 Γ rv ⟨[.c 500,.l 500,.b 0,.c 63],⟨95,[vP 3 0 6,vP 7 1 14,vP 8 2 9,vL 49 1 r2 Qax,vI 50 (lenI r2),vI 51 v],[oX 6 30 (Qab.enc x0),oX 14 79 [.str x1.name,lI x1.count,lI x1.from_,lI x1.to_,lL 1 x1.cap Qax,lI x1.skills,lI x1.profile,lI open_,lI x1.close,lI x1.drive,lI x1.rest_,lI x1.fixed,lI x1.perMile,lI x1.perTick],oX 9 47 [lI kind,.nils,lI x1.from_,lI time,lI 0,lI 0,lL 1 load Qax,lI 0,lI open_1]]⟩⟩
def QnA (Γ:Gam) (rv:List Qad) (x0:Qab) (kind:Int) (x1:Qag) (l:List Int) (r2:List Int) (open_2:Int) (time1:Int) (load1:List Int) (open_3:Int):Prop:=Qr2 Γ rv ⟨[.c 63],⟨95,[vP 7 0 14,vP 8 1 9],[oX 14 79 [.str x1.name,lI x1.count,lI x1.from_,lI x1.to_,lL 1 x1.cap Qax,lI x1.skills,lI x1.profile,lI open_2,lI x1.close,lI x1.drive,lI x1.rest_,lI x1.fixed,lI x1.perMile,lI x1.perTick],oX 9 47 [lI kind,.nils,lI x1.from_,lI time1,lI 0,lI 0,lL 1 load1 Qax,lI 0,lI open_3]]⟩⟩
theorem Qsb (Γ:Gam) (rv:List Qad) {x0 kind x1 l r2} {s:Int×Int×List Int×Int×Int} {e:(Int×Int×List Int×Int)⊕(List Qad)} (h:QaK (fun s=>Qfo x0 kind x1 l r2 s.1 s.2.1 s.2.2.1 s.2.2.2.1 s.2.2.2.2) s=some e) (hD:sel e (fun e=>QnA Γ rv x0 kind x1 l r2 e.1 e.2.1 e.2.2.1 e.2.2.2) (fun e=>e=rv)):Qoo Γ rv x0 kind x1 l r2 s.1 s.2.1 s.2.2.1 s.2.2.2.1 s.2.2.2.2:=by
 refine QaC (C:=fun (s:Int×Int×List Int×Int×Int)=>Qoo Γ rv x0 kind x1 l r2 s.1 s.2.1 s.2.2.1 s.2.2.2.1 s.2.2.2.2) (D:=fun (e:(Int×Int×List Int×Int)⊕(List Qad))=>sel e (fun e=>QnA Γ rv x0 kind x1 l r2 e.1 e.2.1 e.2.2.1 e.2.2.2) (fun e=>e=rv)) ?_ h hD
 clear h hD s e
 rintro ⟨open_,time,load,open_1,v⟩ z_ h hI hE
 replace h:Qfo x0 kind x1 l r2 open_ time load open_1 v=_:=h
 unfold Qfo at h
 rcases Qah h with ⟨h8,h⟩|⟨h8,h⟩
 ·obtain ⟨x2,h9,h⟩:=Qae h
  obtain ⟨x3,h10,h⟩:=Qae h
  obtain ⟨r3,h11,h⟩:=Qae h
  rcases Qah h with ⟨h12,h⟩|⟨h12,h⟩
  ·rcases Qah h with ⟨h13,h⟩|⟨h13,h⟩
   ·obtain ⟨r4,h14,h⟩:=Qae h
    obtain ⟨h15,h⟩:=Qat h
    exact gn 25 [3,7,8,49,50,51] [0,1,2] [bT h8,cE Qax h9,cE Qaf.enc h10,cC (Qfh h11),nF h12,bT h13,cC (Qtb h14),oO (h15)] (hI _ (oJ h))
   ·exact gn 23 [3,7,8,49,50,51] [0,1,2] [bT h8,cE Qax h9,cE Qaf.enc h10,cC (Qfh h11),nF h12,bF h13] (hI _ (oJ h))
  ·obtain rfl:=(hE _ (oJ h):_=rv)
   exact gr 17 [] [bT h8,cE Qax h9,cE Qaf.enc h10,cC (Qfh h11),nT h12,hW 3,hH (.nilS 6 0 9)]
 ·exact gn 5 [7,8] [1,2] [bF h8] (hE _ (oJ h))
theorem QdW {x0 kind set_} {rv:List Qad} (h:QkU x0 kind set_=some rv):AFn Tryz.prog 9 [.agg (Qab.enc x0),.one (lI kind),.one (lI set_)] [] (one (lL 9 rv Qad.enc)) []:=by
 refine QaS Tryz.func9 (by kernel_rfl) (by kernel_rfl) (fun Γ=>?_)
 unfold QkU at h
 rcases Qah h with ⟨h0,h⟩|⟨h0,h⟩
 ·obtain rfl:=Option.some.inj h
  exact gr 8 [] [rp 4 hP,rp 2 (oI ((ltI kind 0)=false)),nL Qag.enc x0.types,hP,hP,rp 2 (oI ((ltI kind 0)=false)),oR True ((ltI kind 0)=false),rp 5 (bT h0),rp 6 tT,hW 3,hH (.nilS 6 0 9)]
 ·obtain ⟨r,h1,h⟩:=Qae h
  rcases Qah h with ⟨h2,h⟩|⟨h2,h⟩
  ·obtain ⟨r1,h3,h⟩:=Qae h
   rcases Qah h with ⟨h4,h⟩|⟨h4,h⟩
   ·obtain ⟨x1,h5,h⟩:=Qae h
    obtain ⟨l,h6,h⟩:=Qae h
    obtain ⟨r2,h7,h⟩:=Qae h
    obtain ⟨e0,h16,h⟩:=Qae h
    refine gn 16 [3,7,8,49,50,51] [0,1,3] [rp 4 hP,rp 2 (oI ((ltI kind 0)=false)),nL Qag.enc x0.types,hP,hP,rp 2 (oI ((ltI kind 0)=false)),oR True ((ltI kind 0)=false),rp 3 (bF h0),cC (Qnk h1),bF h0,bF h0,rp 3 (nF h2),cC (QpP h3),nF h2,nF h2,nF h4,cE Qag.enc h5,hH (.draw 11 []),nL Qax x1.cap,hH (.cells [lI 0]),hH (.rows (l.map Qax)),oO (mk1 h6),oO (mk2 h6),oO (mk3 h6),oO (mk4 h6),oO (mk5 Qax h6),cC (Qml h7),nL Qax r2,hW 3,hH (.frz 2),rp 3 (eL l Qax)] (Qsb Γ rv h16 ?_)
    rcases e0 with e0|e0
    ·obtain ⟨open_2,time1,load1,open_3⟩:=e0
     replace h:(bnd (QhB load1 x1.cap) fun r5=>br r5 (bnd (Qk5 (Qag.mk x1.name x1.count x1.from_ x1.to_ x1.cap x1.skills x1.profile open_2 x1.close x1.drive x1.rest_ x1.fixed x1.perMile x1.perTick) (Qad.mk kind [] x1.from_ time1 0 0 load1 0 open_3)) fun r6=>some r6) (some []):Option (List Qad))=some _:=h
     obtain ⟨r5,h17,h⟩:=Qae h
     rcases Qah h with ⟨h18,h⟩|⟨h18,h⟩
     ·obtain ⟨r6,h19,h⟩:=Qae h
      obtain rfl:=Option.some.inj h
      exact gr 7 [] [cC (Qgd h17),nF h18,hW 5,hH (.nilS 93 1 2),cC (Qr4 h19)]
     ·obtain rfl:=Option.some.inj h
      exact gr 6 [] [cC (Qgd h17),nT h18,hW 3,hH (.nilS 6 0 9)]
    ·obtain ⟨r7,rfl⟩:∃ x,x=e0:=⟨_,rfl⟩
     replace h:(some r7:Option (List Qad))=some _:=h
     exact Option.some.inj h
   ·obtain rfl:=Option.some.inj h
    exact gr 8 [] [rp 4 hP,rp 2 (oI ((ltI kind 0)=false)),nL Qag.enc x0.types,hP,hP,rp 2 (oI ((ltI kind 0)=false)),oR True ((ltI kind 0)=false),rp 3 (bF h0),cC (Qnk h1),bF h0,bF h0,rp 3 (nF h2),cC (QpP h3),nF h2,nF h2,nT h4,hW 3,hH (.nilS 6 0 9)]
  ·obtain rfl:=Option.some.inj h
   exact gr 8 [] [rp 4 hP,rp 2 (oI ((ltI kind 0)=false)),nL Qag.enc x0.types,hP,hP,rp 2 (oI ((ltI kind 0)=false)),oR True ((ltI kind 0)=false),rp 3 (bF h0),cC (Qnk h1),bF h0,bF h0,rp 5 (nT h2),tT,hW 3,hH (.nilS 6 0 9)]
theorem Qc3 {n i} {rv:Bool} (h:Qhx n i=some rv):AFn Tryz.prog 78 [.agg (Qak.enc n),.one (lI i)] [] (one (.bool rv)) []:=by
 refine QaS Tryz.func78 (by kernel_rfl) (by kernel_rfl) (fun Γ=>?_)
 unfold Qhx at h
 obtain rfl:=Option.some.inj h
 exact gr 4 [] [rp 4 hP,rp 2 (oI ((geI i 0)=true)),nL Qh6 n.places,hP,hP,rp 2 (oI ((geI i 0)=true)),oR True ((geI i 0)=true)]
theorem QoY {a} {rv:Qhj} (h:QlZ a=some rv):AFn Tryz.prog 114 [.agg (Qao.enc a)] [] (gG [lI rv.from_,lI rv.to_,lI rv.profile]) []:=by
 refine QaS Tryz.func114 (by kernel_rfl) (by kernel_rfl) (fun Γ=>?_)
 unfold QlZ at h
 obtain rfl:=Option.some.inj h
 exact gr 4 [] []
def QqJ (Γ:Gam) (rv:Qao×Bool) (cf:Cf):Prop:=Go Tryz.prog Tryz.f79 [] Γ (.tup [.agg [lI rv.1.from_,lI rv.1.to_,lI rv.1.profile,lI rv.1.miles,lL 2 rv.1.travel Qai.enc,lL 2 rv.1.slow Qai.enc],.one (.bool rv.2)]) [] cf
def QnS (Γ:Gam) (rv:Qao×Bool) (n:Qak) (profile:Int) (from_:Int) (to_:Int) (v:Int):Prop:=QqJ Γ rv ⟨[.c 116,.l 116,.b 0,.c 15],⟨31,[vP 8 0 6,vP 10 1 3,vL 18 6 n.arcs Qao.enc,vI 19 (lenI n.arcs),vI 20 v],[oX 6 77 [lI 0,lI 0,lI 0,lI 0,.nils,.nils],oX 3 173 [lI from_,lI to_,lI profile]]⟩⟩
def QmU (Γ:Gam) (rv:Qao×Bool) (n:Qak) (profile:Int) (from_:Int) (to_:Int):Prop:=QqJ Γ rv ⟨[.c 15],⟨31,[vP 8 0 6],[oX 6 77 [lI 0,lI 0,lI 0,lI 0,.nils,.nils]]⟩⟩
theorem QrD (Γ:Gam) (rv:Qao×Bool) {n profile from_ to_} {s:Int} {e:(Unit)⊕(Qao×Bool)} (h:QaK (fun s=>QfW n profile from_ to_ s) s=some e) (hD:sel e (fun e=>QmU Γ rv n profile from_ to_) (fun e=>e=rv)):QnS Γ rv n profile from_ to_ s:=by
 refine QaC (C:=fun (s:Int)=>QnS Γ rv n profile from_ to_ s) (D:=fun (e:(Unit)⊕(Qao×Bool))=>sel e (fun e=>QmU Γ rv n profile from_ to_) (fun e=>e=rv)) ?_ h hD
 clear h hD s e
 intro v z_ h hI hE
 replace h:QfW n profile from_ to_ v=_:=h
 unfold QfW at h
 rcases Qah h with ⟨h0,h⟩|⟨h0,h⟩
 ·obtain ⟨x0,h1,h⟩:=Qae h
  obtain ⟨r,h2,h⟩:=Qae h
  rcases Qah h with ⟨h3,h⟩|⟨h3,h⟩
  ·obtain rfl:=(hE _ (oJ h):_=rv)
   exact gr 14 [] [bT h0,cE Qao.enc h1,hH (.draw 4 []),cC (QoY h2),bT h3]
  ·exact gn 16 [8,10,18,19,20] [0,1] [bT h0,cE Qao.enc h1,hH (.draw 4 []),cC (QoY h2),bF h3] (hI _ (oJ h))
 ·exact gn 5 [8] [0] [bF h0] (hE _ (oJ h))
theorem QpS {n profile from_ to_} {rv:Qao×Bool} (h:Qlr n profile from_ to_=some rv):AFn Tryz.prog 79 [.agg (Qak.enc n),.one (lI profile),.one (lI from_),.one (lI to_)] [] (.tup [.agg [lI rv.1.from_,lI rv.1.to_,lI rv.1.profile,lI rv.1.miles,lL 2 rv.1.travel Qai.enc,lL 2 rv.1.slow Qai.enc],.one (.bool rv.2)]) []:=by
 refine QaS Tryz.func79 (by kernel_rfl) (by kernel_rfl) (fun Γ=>?_)
 unfold Qlr at h
 obtain ⟨e0,h4,h⟩:=Qae h
 refine gn 9 [8,10,18,19,20] [1,2] [nL Qao.enc n.arcs] (QrD Γ rv h4 ?_)
 rcases e0 with e0|e0
 ·replace h:(some ((Qao.mk 0 0 0 0 [] []),false):Option (Qao×Bool))=some _:=h
  obtain rfl:=Option.some.inj h
  exact gr 2 [] [hW 5,hH (.nilB 0 4 2),hH (.nilB 0 5 2)]
 ·obtain ⟨r1,rfl⟩:∃ x,x=e0:=⟨_,rfl⟩
  replace h:(some r1:Option (Qao×Bool))=some _:=h
  exact Option.some.inj h
theorem Qgx {n least most} {rv:Bool} (h:Qfn n least most=some rv):AFn Tryz.prog 139 [.one (lI n),.one (lI least),.one (lI most)] [] (one (.bool rv)) []:=by
 refine QaS Tryz.func139 (by kernel_rfl) (by kernel_rfl) (fun Γ=>?_)
 unfold Qfn at h
 obtain rfl:=Option.some.inj h
 exact gr 4 [] [rp 4 hP,rp 2 (oI ((geI n least)=true)),oR True ((geI n least)=true)]
theorem QtG {i} {rv:ByteArray} (h:Qo8 i=some rv):AFn Tryz.prog 164 [.one (lI i)] [] (one (.str rv)) []:=by
 refine QaS Tryz.func164 (by kernel_rfl) (by kernel_rfl) (fun Γ=>?_)
 unfold Qo8 at h
 rcases Qah h with ⟨h0,h⟩|⟨h0,h⟩
 ·obtain ⟨s0,h1,h⟩:=Qae h
  obtain rfl:=Option.some.inj h
  exact gr 8 [] [bT h0,oO (ss1 h1),oO (ss2 h1),oO (ss3 h1)]
 ·obtain ⟨s1,h2,h⟩:=Qae h
  obtain rfl:=Option.some.inj h
  exact gr 9 [] [bF h0,oO (ss1 h2),oO (ss2 h2),oO (ss3 h2)]
def Qq8 (Γ:Gam) (rv:ByteArray) (cf:Cf):Prop:=Go Tryz.prog Tryz.f163 [] Γ (one (.str rv)) [] cf
theorem Qix (Γ:Gam) (rv:ByteArray) {i u} (h:QfF i u=some rv):Qq8 Γ rv ⟨[.c 431,.c 7],⟨54,[vI 0 i,vP 5 0 24,(6,one (.int .u64 u))],[oX 24 218 [.int .u8 0,.int .u8 0,.int .u8 0,.int .u8 0,.int .u8 0,.int .u8 0,.int .u8 0,.int .u8 0,.int .u8 0,.int .u8 0,.int .u8 0,.int .u8 0,.int .u8 0,.int .u8 0,.int .u8 0,.int .u8 0,.int .u8 0,.int .u8 0,.int .u8 0,.int .u8 0,.int .u8 0,.int .u8 0,.int .u8 0,.int .u8 0]]⟩⟩:=by
 unfold QfF at h
 obtain ⟨r1,h4,h⟩:=Qae h
 cases h
theorem Qqg {i base} {rv:ByteArray} (h:Qj7 i base=some rv):AFn Tryz.prog 163 [.one (lI i),.one (lI base)] [] (one (.str rv)) []:=by
 refine QaS Tryz.func163 (by kernel_rfl) (by kernel_rfl) (fun Γ=>?_)
 unfold Qj7 at h
 rcases Qah h with ⟨h0,h⟩|⟨h0,h⟩
 ·rcases Qah h with ⟨h1,h⟩|⟨h1,h⟩
  ·obtain ⟨r,h2,h⟩:=Qae h
   obtain rfl:=Option.some.inj h
   exact gr 12 [] [bT h0,hP,hP,hP,oI ((leI 0 i)=true),oR True ((leI 0 i)=true),bT h1,cC (QtG h2)]
  ·rcases Qah h with ⟨h3,h⟩|⟨h3,h⟩
   ·exact gn 20 [0,5,6] [0] [bT h0,hP,hP,hP,oI ((leI 0 i)=true),oR True ((leI 0 i)=true),bF h1,bT h3] (Qix Γ rv h)
   ·exact gn 20 [0,5,6] [0] [bT h0,hP,hP,hP,oI ((leI 0 i)=true),oR True ((leI 0 i)=true),bF h1,bF h3] (Qix Γ rv h)
 ·cases h
theorem Qt3 {i} {rv:ByteArray} (h:Qqh i=some rv):AFn Tryz.prog 161 [.one (lI i)] [] (one (.str rv)) []:=by
 refine QaS Tryz.func161 (by kernel_rfl) (by kernel_rfl) (fun Γ=>?_)
 unfold Qqh at h
 obtain ⟨r,h0,h⟩:=Qae h
 obtain rfl:=Option.some.inj h
 exact gr 4 [] [cC (Qqg h0)]
theorem Qn2 {i} {rv:ByteArray} (h:QkO i=some rv):AFn Tryz.prog 159 [.one (lI i)] [] (one (.str rv)) []:=by
 refine QaS Tryz.func159 (by kernel_rfl) (by kernel_rfl) (fun Γ=>?_)
 unfold QkO at h
 obtain ⟨r,h0,h⟩:=Qae h
 obtain rfl:=Option.some.inj h
 exact gr 4 [] [cC (Qt3 h0)]
def QkQ (Γ:Gam) (rv:List Qac) (cf:Cf):Prop:=Go Tryz.prog Tryz.f151 [] Γ (one (lL 2 rv Qac.enc)) [] cf
def Qj8 (Γ:Gam) (rv:List Qac) (l:List Qai) (l2:List Qac) (v:Int):Prop:=QkQ Γ rv ⟨[.c 244,.l 244,.b 0,.c 31],⟨83,[vL 0 2 l Qai.enc,vO 3 0 2 l2 Qac.enc,vL 19 2 l Qai.enc,vI 20 (lenI l),vI 21 v],[oS 2 164 l2 Qac.enc]⟩⟩
def QiM (Γ:Gam) (rv:List Qac) (l:List Qai) (l4:List Qac):Prop:=QkQ Γ rv ⟨[.c 31],⟨83,[vO 3 0 2 l4 Qac.enc],[oS 2 164 l4 Qac.enc]⟩⟩
theorem Qne (Γ:Gam) (rv:List Qac) {l v x0 r l3} {x:(List Qac×Int)⊕(List Qac)} (h:Qg9 l v x0 r l3=some x) (hI:∀ s:List Qac×Int,x=.inl s→Qj8 Γ rv l s.1 s.2) (hE:∀ e:List Qac,x=.inr e→QiM Γ rv l e):QkQ Γ rv ⟨[.c 31335,.b 1,.c 1959,.l 244,.b 0,.c 31],⟨83,[vL 0 2 l Qai.enc,vO 3 0 2 l3 Qac.enc,vI 4 v,vP 5 1 2,vS 6 r,vL 19 2 l Qai.enc,vI 20 (lenI l),vI 21 v],[oS 2 164 l3 Qac.enc,oX 2 74 (Qai.enc x0)]⟩⟩:=by
 unfold Qg9 at h
 rcases Qah h with ⟨h8,h⟩|⟨h8,h⟩
 ·obtain ⟨x1,h9,h⟩:=Qae h
  rcases Qah h with ⟨h10,h⟩|⟨h10,h⟩
  ·obtain ⟨h11,h⟩:=Qat h
   exact gn 7 [0,3,19,20,21] [3] [hH (.draw 24 []),rp 6 (bT h8),cE Qai.enc h9,rp 4 (bT h8),rp 9 (bT h10),bT h8,bT h10,bT h8,tT,oO (Eq.refl ([(Qac.mk 13 r)].map Qac.enc).length),aO Qac.enc h11] (hI _ (oJ h))
  ·rcases Qah h with ⟨h12,h⟩|⟨h12,h⟩
   ·obtain ⟨h13,h⟩:=Qat h
    exact gn 7 [0,3,19,20,21] [3] [hH (.draw 24 []),rp 6 (bT h8),cE Qai.enc h9,rp 4 (bT h8),rp 6 (bF h10),cE Qai.enc h9,rp 3 (bF h10),bT h8,bF h10,bT h8,bT h12,oO (Eq.refl ([(Qac.mk 13 r)].map Qac.enc).length),aO Qac.enc h13] (hI _ (oJ h))
   ·exact gn 7 [0,3,19,20,21] [0] [hH (.draw 24 []),rp 6 (bT h8),cE Qai.enc h9,rp 4 (bT h8),rp 6 (bF h10),cE Qai.enc h9,rp 3 (bF h10),bT h8,bF h10,bT h8,bF h12] (hI _ (oJ h))
 ·exact gn 7 [0,3,19,20,21] [0] [hH (.draw 24 []),rp 10 (bF h8),rp 9 kF,bF h8,bF h8,fF] (hI _ (oJ h))
theorem QrT (Γ:Gam) (rv:List Qac) {l} {s:List Qac×Int} {e:List Qac} (h:QaK (fun s=>Qdt l s.1 s.2) s=some e) (hD:QiM Γ rv l e):Qj8 Γ rv l s.1 s.2:=by
 refine QaC (C:=fun (s:List Qac×Int)=>Qj8 Γ rv l s.1 s.2) (D:=fun (e:List Qac)=>QiM Γ rv l e) ?_ h hD
 clear h hD s e
 rintro ⟨l2,v⟩ z_ h hI hE
 replace h:Qdt l l2 v=_:=h
 unfold Qdt at h
 rcases Qah h with ⟨h2,h⟩|⟨h2,h⟩
 ·obtain ⟨x0,h3,h⟩:=Qae h
  obtain ⟨r,h4,h⟩:=Qae h
  obtain ⟨r1,h5,h⟩:=Qae h
  rcases Qah h with ⟨h6,h⟩|⟨h6,h⟩
  ·obtain ⟨h7,h⟩:=Qat h
   exact gn 16 [0,3,4,5,6,19,20,21] [3,1] [bT h2,cE Qai.enc h3,cC (Qn2 h4),cC (Qgx h5),rp 13 hP,rp 4 (oI ((!r1)=false)),oR True ((!r1)=false),rp 5 (oI (((!r1)||(ltI x0.a x0.t))=false)),oR True (((!r1)||(ltI x0.a x0.t))=false),bT h6,oO (Eq.refl ([(Qac.mk 2 r)].map Qac.enc).length),aO Qac.enc h7] (Qne Γ rv h hI hE)
  ·exact gn 16 [0,3,4,5,6,19,20,21] [0,1] [bT h2,cE Qai.enc h3,cC (Qn2 h4),cC (Qgx h5),rp 13 hP,rp 4 (oI ((!r1)=false)),oR True ((!r1)=false),rp 5 (oI (((!r1)||(ltI x0.a x0.t))=false)),oR True (((!r1)||(ltI x0.a x0.t))=false),bF h6] (Qne Γ rv h hI hE)
 ·exact gn 5 [3] [0] [bF h2] (hE _ (oJ h))
theorem Qnd (Γ:Gam) (rv:List Qac) {l l1} (h:Qg8 l l1=some rv):QkQ Γ rv ⟨[.c 15],⟨83,[vL 0 2 l Qai.enc,vO 3 0 2 l1 Qac.enc],[oS 2 164 l1 Qac.enc]⟩⟩:=by
 unfold Qg8 at h
 obtain ⟨e0,h14,h⟩:=Qae h
 refine gn 5 [0,3,19,20,21] [0] [nL Qai.enc l] (QrT Γ rv h14 ?_)
 obtain ⟨l4,rfl⟩:∃ x,x=e0:=⟨_,rfl⟩
 replace h:(some l4:Option (List Qac))=some _:=h
 obtain rfl:=Option.some.inj h
 exact gr 2 [] [hW 4,hH (.frz 0),rp 3 (eL l4 Qac.enc)]
theorem Qt4 {l} {rv:List Qac} (h:QlB l=some rv):AFn Tryz.prog 151 [.one (lL 2 l Qai.enc)] [] (one (lL 2 rv Qac.enc)) []:=by
 refine QaS Tryz.func151 (by kernel_rfl) (by kernel_rfl) (fun Γ=>?_)
 unfold QlB at h
 rcases Qah h with ⟨h0,h⟩|⟨h0,h⟩
 ·obtain ⟨h1,h⟩:=Qat h
  exact gn 9 [0,3] [1] [nL Qai.enc l,hP,hP,oI ((eqI (lenI l) 0)=false),nL Qai.enc l,hP,hP,oI ((eqI (lenI l) 0)=false),oR True ((eqI (lenI l) 0)=false),bT h0,oO (Eq.refl ([(Qac.mk 4 ByteArray.empty)].map Qac.enc).length),aN (l:=([(Qac.mk 4 ByteArray.empty)]:List Qac)) Qac.enc h1] (Qnd Γ rv h)
 ·exact gn 9 [0,3] [0] [nL Qai.enc l,hP,hP,oI ((eqI (lenI l) 0)=false),nL Qai.enc l,hP,hP,oI ((eqI (lenI l) 0)=false),oR True ((eqI (lenI l) 0)=false),bF h0,hW 1,hH (.adopt 3 2 164)] (Qnd Γ rv h)
theorem QpW {l} {rv:Bool} (h:QlC l=some rv):AFn Tryz.prog 140 [.one (lL 2 l Qai.enc)] [] (one (.bool rv)) []:=by
 refine QaS Tryz.func140 (by kernel_rfl) (by kernel_rfl) (fun Γ=>?_)
 unfold QlC at h
 obtain ⟨r,h0,h⟩:=Qae h
 obtain rfl:=Option.some.inj h
 exact gr 4 [] [cC (Qt4 h0),nL Qac.enc r]
theorem QiN {p t} {rv:Int} (h:QeV p t=some rv):AFn Tryz.prog 153 [.agg (Qai.enc p),.one (lI t)] [] (one (lI rv)) []:=by
 refine QaS Tryz.func153 (by kernel_rfl) (by kernel_rfl) (fun Γ=>?_)
 unfold QeV at h
 obtain rfl:=Option.some.inj h
 exact gr 4 [] []
def QbA (Γ:Gam) (rv:Int×Bool) (cf:Cf):Prop:=Go Tryz.prog Tryz.f152 [] Γ (.tup [.one (lI rv.1),.one (.bool rv.2)]) [] cf
def Qbu (Γ:Gam) (rv:Int×Bool) (x0:List Qai) (target:Int) (i:Int) (j:Int):Prop:=QbA Γ rv ⟨[.c 120,.l 120,.b 0,.c 31],⟨49,[vL 0 2 x0 Qai.enc,vI 1 target,(2,one (.fn (.func 153) [])),vI 8 (lenI x0),vI 9 i,vI 10 j],[]⟩⟩
def Qbh (Γ:Gam) (rv:Int×Bool) (x0:List Qai) (target:Int) (i1:Int):Prop:=QbA Γ rv ⟨[.c 31],⟨49,[vL 0 2 x0 Qai.enc,vI 1 target,(2,one (.fn (.func 153) [])),vI 8 (lenI x0),vI 9 i1],[]⟩⟩
theorem QcS (Γ:Gam) (rv:Int×Bool) {x0 target} {s:Int×Int} {e:Int} (h:QaK (fun s=>QaD x0 target s.1 s.2) s=some e) (hD:Qbh Γ rv x0 target e):Qbu Γ rv x0 target s.1 s.2:=by
 refine QaC (C:=fun (s:Int×Int)=>Qbu Γ rv x0 target s.1 s.2) (D:=fun (e:Int)=>Qbh Γ rv x0 target e) ?_ h hD
 clear h hD s e
 rintro ⟨i,j⟩ z_ h hI hE
 replace h:QaD x0 target i j=_:=h
 unfold QaD at h
 rcases Qah h with ⟨h0,h⟩|⟨h0,h⟩
 ·obtain ⟨x1,h1,h⟩:=Qae h
  obtain ⟨r,h2,h⟩:=Qae h
  rcases Qah h with ⟨h3,h⟩|⟨h3,h⟩
  ·exact gn 14 [0,1,2,8,9,10] [] [bT h0,oO (zL 1),cE Qai.enc h1,cC (QiN h2),bT h3] (hI _ (oJ h))
  ·exact gn 14 [0,1,2,8,9,10] [] [bT h0,oO (zL 1),cE Qai.enc h1,cC (QiN h2),bF h3] (hI _ (oJ h))
 ·exact gn 5 [0,1,2,8,9] [] [bF h0] (hE _ (oJ h))
theorem QaO {x0 target} {rv:Int×Bool} (h:QaU x0 target=some rv):AFn Tryz.prog 152 [.one (lL 2 x0 Qai.enc),.one (lI target),.one (.fn (.func 153) [])] [] (.tup [.one (lI rv.1),.one (.bool rv.2)]) []:=by
 refine QaS Tryz.func152 (by kernel_rfl) (by kernel_rfl) (fun Γ=>?_)
 unfold QaU at h
 obtain ⟨e0,h4,h⟩:=Qae h
 refine gn 9 [0,1,2,8,9,10] [] [nL Qai.enc x0] (QcS Γ rv h4 ?_)
 obtain ⟨i1,rfl⟩:∃ x,x=e0:=⟨_,rfl⟩
 replace h:(br (ltI i1 (lenI x0)) (bnd (getI x0 i1) fun x2=>bnd (QeV x2 target) fun r1=>some (i1,(eqI r1 0))) (some (i1,false)):Option (Int×Bool))=some _:=h
 rcases Qah h with ⟨h5,h⟩|⟨h5,h⟩
 ·obtain ⟨x2,h6,h⟩:=Qae h
  obtain ⟨r1,h7,h⟩:=Qae h
  obtain rfl:=Option.some.inj h
  exact gr 2 [] [rp 4 (bT h5),cE Qai.enc h6,rp 3 (bT h5),cC (QiN h7),bT h5,bT h5]
 ·obtain rfl:=Option.some.inj h
  exact gr 2 [] [rp 9 (bF h5)]
theorem QtO {l t} {rv:Int} (h:QjU l t=some rv):AFn Tryz.prog 141 [.one (lL 2 l Qai.enc),.one (lI t)] [] (one (lI rv)) []:=by
 refine QaS Tryz.func141 (by kernel_rfl) (by kernel_rfl) (fun Γ=>?_)
 unfold QjU at h
 obtain ⟨r,h0,h⟩:=Qae h
 rcases Qah h with ⟨h1,h⟩|⟨h1,h⟩
 ·obtain ⟨x0,h2,h⟩:=Qae h
  obtain rfl:=Option.some.inj h
  exact gr 11 [] [cC (QaO h0),bT h1,cE Qai.enc h2]
 ·rcases Qah h with ⟨h3,h⟩|⟨h3,h⟩
  ·obtain ⟨x1,h4,h⟩:=Qae h
   obtain rfl:=Option.some.inj h
   exact gr 14 [] [cC (QaO h0),bF h1,bT h3,hH (.draw 12 []),rp 2 (cE Qai.enc h4)]
  ·rcases Qah h with ⟨h5,h⟩|⟨h5,h⟩
   ·obtain ⟨x2,h6,h⟩:=Qae h
    obtain rfl:=Option.some.inj h
    exact gr 17 [] [cC (QaO h0),bF h1,bF h3,nL Qai.enc l,bT h5,hH (.draw 16 []),rp 2 (cE Qai.enc h6)]
   ·obtain ⟨x3,h7,h⟩:=Qae h
    obtain ⟨x4,h8,h⟩:=Qae h
    obtain ⟨h9,h⟩:=Qat h
    obtain rfl:=Option.some.inj h
    exact gr 23 [] [cC (QaO h0),bF h1,bF h3,nL Qai.enc l,bF h5,hH (.draw 13 [(0,11),(1,12)]),cE Qai.enc h7,cE Qai.enc h8,hH (.draw 19 []),oO (h9)]
theorem QtN {l t} {rv:Int} (h:QjT l t=some rv):AFn Tryz.prog 115 [.one (lL 2 l Qai.enc),.one (lI t)] [] (one (lI rv)) []:=by
 refine QaS Tryz.func115 (by kernel_rfl) (by kernel_rfl) (fun Γ=>?_)
 unfold QjT at h
 obtain ⟨r,h0,h⟩:=Qae h
 rcases Qah h with ⟨h1,h⟩|⟨h1,h⟩
 ·obtain ⟨r1,h2,h⟩:=Qae h
  rcases Qah h with ⟨h3,h⟩|⟨h3,h⟩
  ·obtain ⟨r2,h4,h⟩:=Qae h
   obtain rfl:=Option.some.inj h
   exact gr 9 [] [cC (Qgx h0),nF h1,nF h1,cC (QpW h2),nF h1,nF h1,nF h3,cC (QtO h4)]
  ·obtain rfl:=Option.some.inj h
   exact gr 8 [] [cC (Qgx h0),nF h1,nF h1,cC (QpW h2),nF h1,nF h1,nT h3]
 ·obtain rfl:=Option.some.inj h
  exact gr 8 [] [cC (Qgx h0),rp 4 (nT h1),tT]
def QnT (Γ:Gam) (rv:Int) (cf:Cf):Prop:=Go Tryz.prog Tryz.f80 [] Γ (one (lI rv)) [] cf
def Qls (Γ:Gam) (rv:Int) (a:Qao) (t:Int) (out:Int) (v:Int):Prop:=QnT Γ rv ⟨[.c 116,.l 116,.b 0,.c 15],⟨29,[vI 1 t,vI 5 out,vL 13 2 a.slow Qai.enc,vI 14 (lenI a.slow),vI 15 v],[]⟩⟩
def QkI (Γ:Gam) (rv:Int) (a:Qao) (t:Int) (out1:Int):Prop:=QnT Γ rv ⟨[.c 15],⟨29,[vI 5 out1],[]⟩⟩
theorem QpF (Γ:Gam) (rv:Int) {a t} {s:Int×Int} {e:Int} (h:QaK (fun s=>QgL a t s.1 s.2) s=some e) (hD:QkI Γ rv a t e):Qls Γ rv a t s.1 s.2:=by
 refine QaC (C:=fun (s:Int×Int)=>Qls Γ rv a t s.1 s.2) (D:=fun (e:Int)=>QkI Γ rv a t e) ?_ h hD
 clear h hD s e
 rintro ⟨out,v⟩ z_ h hI hE
 replace h:QgL a t out v=_:=h
 unfold QgL at h
 rcases Qah h with ⟨h1,h⟩|⟨h1,h⟩
 ·obtain ⟨x0,h2,h⟩:=Qae h
  rcases Qah h with ⟨h3,h⟩|⟨h3,h⟩
  ·exact gn 16 [1,5,13,14,15] [] [bT h1,cE Qai.enc h2,bT h3] (hI _ (oJ h))
  ·exact gn 16 [1,5,13,14,15] [] [bT h1,cE Qai.enc h2,bF h3] (hI _ (oJ h))
 ·exact gn 5 [5] [] [bF h1] (hE _ (oJ h))
theorem QrE {a t} {rv:Int} (h:Qg6 a t=some rv):AFn Tryz.prog 80 [.agg (Qao.enc a),.one (lI t)] [] (one (lI rv)) []:=by
 refine QaS Tryz.func80 (by kernel_rfl) (by kernel_rfl) (fun Γ=>?_)
 unfold Qg6 at h
 obtain ⟨r,h0,h⟩:=Qae h
 obtain ⟨e0,h4,h⟩:=Qae h
 refine gn 9 [1,5,13,14,15] [] [cC (QtN h0),nL Qai.enc a.slow] (QpF Γ rv h4 ?_)
 obtain ⟨out1,rfl⟩:∃ x,x=e0:=⟨_,rfl⟩
 replace h:(some out1:Option Int)=some _:=h
 obtain rfl:=Option.some.inj h
 exact gr 2 [] []
theorem QeK {n profile from_ to_ t} {rv:Int×Int×Int} (h:QmV n profile from_ to_ t=some rv):AFn Tryz.prog 39 [.agg (Qak.enc n),.one (lI profile),.one (lI from_),.one (lI to_),.one (lI t)] [] (.tup [.one (lI rv.1),.one (lI rv.2.1),.one (lI rv.2.2)]) []:=by
 refine QaS Tryz.func39 (by kernel_rfl) (by kernel_rfl) (fun Γ=>?_)
 unfold QmV at h
 obtain ⟨r,h0,h⟩:=Qae h
 rcases Qah h with ⟨h1,h⟩|⟨h1,h⟩
 ·obtain ⟨r1,h2,h⟩:=Qae h
  rcases Qah h with ⟨h3,h⟩|⟨h3,h⟩
  ·rcases Qah h with ⟨h4,h⟩|⟨h4,h⟩
   ·obtain rfl:=Option.some.inj h
    exact gr 13 [] [cC (Qc3 h0),rp 3 (nF h1),cC (Qc3 h2),nF h1,nF h1,nF h3,bT h4]
   ·obtain ⟨r2,h5,h⟩:=Qae h
    rcases Qah h with ⟨h6,h⟩|⟨h6,h⟩
    ·obtain ⟨r3,h7,h⟩:=Qae h
     obtain rfl:=Option.some.inj h
     exact gr 21 [] [cC (Qc3 h0),rp 3 (nF h1),cC (Qc3 h2),nF h1,nF h1,nF h3,bF h4,cC (QpS h5),nF h6,hH (.draw 8 []),cC (QrE h7)]
    ·obtain rfl:=Option.some.inj h
     exact gr 20 [] [cC (Qc3 h0),rp 3 (nF h1),cC (Qc3 h2),nF h1,nF h1,nF h3,bF h4,cC (QpS h5),nT h6]
  ·obtain rfl:=Option.some.inj h
   exact gr 8 [] [cC (Qc3 h0),rp 3 (nF h1),cC (Qc3 h2),nF h1,nF h1,nT h3]
 ·obtain rfl:=Option.some.inj h
  exact gr 8 [] [cC (Qc3 h0),rp 5 (nT h1),tT]
theorem QhY {kind own} {rv:Bool} (h:QjO kind own=some rv):AFn Tryz.prog 81 [.one (lI kind),.one (lI own)] [] (one (.bool rv)) []:=by
 refine QaS Tryz.func81 (by kernel_rfl) (by kernel_rfl) (fun Γ=>?_)
 unfold QjO at h
 obtain rfl:=Option.some.inj h
 exact gr 4 [] [rp 4 hP,rp 2 (oI ((neI kind (-1))=true)),oR True ((neI kind (-1))=true)]
def Qo3 (Γ:Gam) (rv:Qay) (cf:Cf):Prop:=Go Tryz.prog Tryz.f40 [] Γ (gG [lI rv.cost,lI rv.moved,lI rv.other,lI rv.work]) [] cf
def Qlt (Γ:Gam) (rv:Qay) (x0:Qab) (r:Qam) (s0:Qap) (x1:Qag) (l:List (Int×Int)) (moved:Int) (other:Int) (v:Int):Prop:=Qo3 Γ rv ⟨[.c 4084,.l 4084,.b 0,.c 511],⟨114,[vP 3 0 6,vP 4 1 4,vP 6 2 4,vP 10 3 4,(11,one (.mp 4)),vL 59 2 r.visits Qaa.enc,vI 60 (lenI r.visits),vI 61 v],[oX 6 30 (Qab.enc x0),oX 4 66 (Qam.enc r),oX 4 98 [lI 0,lI 0,lI 0,lI 0],oX 4 98 [lI (addK .i64 (addK .i64 x1.fixed (mulK .i64 x1.perMile s0.miles)) (mulK .i64 x1.perTick (subK .i64 s0.end_ x1.open_))),lI moved,lI other,lI (mulK .i64 (quoK .i64 (subK .i64 s0.end_ x1.open_) 64) (quoK .i64 (subK .i64 s0.end_ x1.open_) 64))],oM 145 l (mE kI lI)]⟩⟩
def Qj1 (Γ:Gam) (rv:Qay) (x0:Qab) (r:Qam) (s0:Qap) (x1:Qag) (moved2:Int) (other1:Int):Prop:=Qo3 Γ rv ⟨[.c 511],⟨114,[vP 6 0 4,vP 10 1 4],[oX 4 98 [lI 0,lI 0,lI 0,lI 0],oX 4 98 [lI (addK .i64 (addK .i64 x1.fixed (mulK .i64 x1.perMile s0.miles)) (mulK .i64 x1.perTick (subK .i64 s0.end_ x1.open_))),lI moved2,lI other1,lI (mulK .i64 (quoK .i64 (subK .i64 s0.end_ x1.open_) 64) (quoK .i64 (subK .i64 s0.end_ x1.open_) 64))]]⟩⟩
theorem QnU (Γ:Gam) (rv:Qay) {x0 r s0 x1 l other v x2 x3 moved1} {x:(List (Int×Int)×Int×Int×Int)⊕(Int×Int)} (h:QhX x0 r s0 x1 l other v x2 x3 moved1=some x) (hI:∀ s:List (Int×Int)×Int×Int×Int,x=.inl s→Qlt Γ rv x0 r s0 x1 s.1 s.2.1 s.2.2.1 s.2.2.2) (hE:∀ e:Int×Int,x=.inr e→Qj1 Γ rv x0 r s0 x1 e.1 e.2):Qo3 Γ rv ⟨[.c 2091423,.b 1,.c 32679,.l 4084,.b 0,.c 511],⟨114,[vP 3 0 6,vP 4 1 4,vP 6 2 4,vP 10 3 4,(11,one (.mp 4)),vP 14 5 16,vL 59 2 r.visits Qaa.enc,vI 60 (lenI r.visits),vI 61 v],[oX 6 30 (Qab.enc x0),oX 4 66 (Qam.enc r),oX 4 98 [lI 0,lI 0,lI 0,lI 0],oX 4 98 [lI (addK .i64 (addK .i64 x1.fixed (mulK .i64 x1.perMile s0.miles)) (mulK .i64 x1.perTick (subK .i64 s0.end_ x1.open_))),lI moved1,lI other,lI (mulK .i64 (quoK .i64 (subK .i64 s0.end_ x1.open_) 64) (quoK .i64 (subK .i64 s0.end_ x1.open_) 64))],oM 145 (mPut eqI l x2.order (addK .i64 (mGet eqI l x2.order 0) 1)) (mE kI lI),oX 16 83 (Qaf.enc x3)]⟩⟩:=by
 unfold QhX at h
 obtain ⟨r2,h9,h⟩:=Qae h
 rcases Qah h with ⟨h10,h⟩|⟨h10,h⟩
 ·exact gn 7 [3,4,6,10,11,59,60,61] [0,1,2,3,4] [cC (QhY h9),bT h10] (hI _ (oJ h))
 ·exact gn 7 [3,4,6,10,11,59,60,61] [0,1,2,3,4] [cC (QhY h9),bF h10] (hI _ (oJ h))
theorem Qsr (Γ:Gam) (rv:Qay) {x0 r s0 x1} {s:List (Int×Int)×Int×Int×Int} {e:Int×Int} (h:QaK (fun s=>Qds x0 r s0 x1 s.1 s.2.1 s.2.2.1 s.2.2.2) s=some e) (hD:Qj1 Γ rv x0 r s0 x1 e.1 e.2):Qlt Γ rv x0 r s0 x1 s.1 s.2.1 s.2.2.1 s.2.2.2:=by
 refine QaC (C:=fun (s:List (Int×Int)×Int×Int×Int)=>Qlt Γ rv x0 r s0 x1 s.1 s.2.1 s.2.2.1 s.2.2.2) (D:=fun (e:Int×Int)=>Qj1 Γ rv x0 r s0 x1 e.1 e.2) ?_ h hD
 clear h hD s e
 rintro ⟨l,moved,other,v⟩ z_ h hI hE
 replace h:Qds x0 r s0 x1 l moved other v=_:=h
 unfold Qds at h
 rcases Qah h with ⟨h2,h⟩|⟨h2,h⟩
 ·obtain ⟨x2,h3,h⟩:=Qae h
  rcases Qah h with ⟨h4,h⟩|⟨h4,h⟩
  ·exact gn 18 [3,4,6,10,11,59,60,61] [0,1,2,3,4] [bT h2,cE Qaa.enc h3,mG kqI lI l x2.order 0,mU kqI lI l x2.order (addK .i64 (mGet eqI l x2.order 0) 1),rp 5 hP,rp 3 (oI ((ltI x2.order 0)=false)),nL Qaf.enc x0.orders,hP,hP,rp 2 (oI ((ltI x2.order 0)=false)),oR True ((ltI x2.order 0)=false),rp 6 (bT h4),tT] (hI _ (oJ h))
  ·rcases Qah h with ⟨h5,h⟩|⟨h5,h⟩
   ·exact gn 18 [3,4,6,10,11,59,60,61] [0,1,2,3,4] [bT h2,cE Qaa.enc h3,mG kqI lI l x2.order 0,mU kqI lI l x2.order (addK .i64 (mGet eqI l x2.order 0) 1),rp 5 hP,rp 3 (oI ((ltI x2.order 0)=false)),nL Qaf.enc x0.orders,hP,hP,rp 2 (oI ((ltI x2.order 0)=false)),oR True ((ltI x2.order 0)=false),rp 4 (bF h4),mG kqI lI (mPut eqI l x2.order (addK .i64 (mGet eqI l x2.order 0) 1)) x2.order 0,bF h4,bF h4,bT h5] (hI _ (oJ h))
   ·obtain ⟨x3,h6,h⟩:=Qae h
    obtain ⟨r1,h7,h⟩:=Qae h
    rcases Qah h with ⟨h8,h⟩|⟨h8,h⟩
    ·exact gn 23 [3,4,6,10,11,14,59,60,61] [0,1,2,3,4,6] [bT h2,cE Qaa.enc h3,mG kqI lI l x2.order 0,mU kqI lI l x2.order (addK .i64 (mGet eqI l x2.order 0) 1),rp 5 hP,rp 3 (oI ((ltI x2.order 0)=false)),nL Qaf.enc x0.orders,hP,hP,rp 2 (oI ((ltI x2.order 0)=false)),oR True ((ltI x2.order 0)=false),rp 4 (bF h4),mG kqI lI (mPut eqI l x2.order (addK .i64 (mGet eqI l x2.order 0) 1)) x2.order 0,bF h4,bF h4,bF h5,cE Qaf.enc h6,cC (QhY h7),bT h8] (QnU Γ rv h hI hE)
    ·exact gn 23 [3,4,6,10,11,14,59,60,61] [0,1,2,3,4,6] [bT h2,cE Qaa.enc h3,mG kqI lI l x2.order 0,mU kqI lI l x2.order (addK .i64 (mGet eqI l x2.order 0) 1),rp 5 hP,rp 3 (oI ((ltI x2.order 0)=false)),nL Qaf.enc x0.orders,hP,hP,rp 2 (oI ((ltI x2.order 0)=false)),oR True ((ltI x2.order 0)=false),rp 4 (bF h4),mG kqI lI (mPut eqI l x2.order (addK .i64 (mGet eqI l x2.order 0) 1)) x2.order 0,bF h4,bF h4,bF h5,cE Qaf.enc h6,cC (QhY h7),bF h8] (QnU Γ rv h hI hE)
 ·exact gn 5 [6,10] [2,3] [bF h2] (hE _ (oJ h))
theorem QqP {x0 r s0} {rv:Qay} (h:QkX x0 r s0=some rv):AFn Tryz.prog 40 [.agg (Qab.enc x0),.agg (Qam.enc r),.agg (Qap.enc s0)] [] (gG [lI rv.cost,lI rv.moved,lI rv.other,lI rv.work]) []:=by
 refine QaS Tryz.func40 (by kernel_rfl) (by kernel_rfl) (fun Γ=>?_)
 unfold QkX at h
 rcases Qah h with ⟨h0,h⟩|⟨h0,h⟩
 ·obtain rfl:=Option.some.inj h
  exact gr 8 [] [rp 5 hP,rp 3 (oI ((ltI r.type_ 0)=false)),nL Qag.enc x0.types,hP,hP,rp 2 (oI ((ltI r.type_ 0)=false)),oR True ((ltI r.type_ 0)=false),bT h0]
 ·obtain ⟨x1,h1,h⟩:=Qae h
  obtain ⟨e0,h11,h⟩:=Qae h
  refine gn 22 [3,4,6,10,11,59,60,61] [0,1,3,5,6] [rp 5 hP,rp 3 (oI ((ltI r.type_ 0)=false)),nL Qag.enc x0.types,hP,hP,rp 2 (oI ((ltI r.type_ 0)=false)),oR True ((ltI r.type_ 0)=false),bF h0,cE Qag.enc h1,oO (oA (n:=64)),nL Qaa.enc r.visits] (Qsr Γ rv h11 ?_)
  obtain ⟨moved2,other1⟩:=e0
  replace h:(some (Qay.mk (addK .i64 (addK .i64 x1.fixed (mulK .i64 x1.perMile s0.miles)) (mulK .i64 x1.perTick (subK .i64 s0.end_ x1.open_))) moved2 other1 (mulK .i64 (quoK .i64 (subK .i64 s0.end_ x1.open_) 64) (quoK .i64 (subK .i64 s0.end_ x1.open_) 64))):Option Qay)=some _:=h
  obtain rfl:=Option.some.inj h
  exact gr 2 [] []
theorem QgN {s0} {rv:Qyd} (h:QmX s0=some rv):AFn Tryz.prog 82 [.agg (Qay.enc s0)] [] (gG [lI rv.x0,lI rv.x1,lI rv.x2,lI rv.x3]) []:=by
 refine QaS Tryz.func82 (by kernel_rfl) (by kernel_rfl) (fun Γ=>?_)
 unfold QmX at h
 obtain rfl:=Option.some.inj h
 exact gr 4 [] []
theorem QpT {s0} {rv:Int×Int} (h:QfC s0=some rv):AFn Tryz.prog 41 [.agg (Qay.enc s0)] [] (.tup [.one (lI rv.1),.one (lI rv.2)]) []:=by
 refine QaS Tryz.func41 (by kernel_rfl) (by kernel_rfl) (fun Γ=>?_)
 unfold QfC at h
 obtain ⟨r,h0,h⟩:=Qae h
 rcases Qah h with ⟨h1,h⟩|⟨h1,h⟩
 ·obtain rfl:=Option.some.inj h
  exact gr 23 [] [cC (QgN h0),tT,oO (zL 0),oO (lT 0 4),bT h1]
 ·rcases Qah h with ⟨h2,h⟩|⟨h2,h⟩
  ·obtain rfl:=Option.some.inj h
   exact gr 39 [] [cC (QgN h0),tT,oO (zL 0),oO (lT 0 4),bF h1,tT,oO (zL 1),oO (lT 1 4),bT h2]
  ·rcases Qah h with ⟨h3,h⟩|⟨h3,h⟩
   ·obtain rfl:=Option.some.inj h
    exact gr 55 [] [cC (QgN h0),tT,oO (zL 0),oO (lT 0 4),bF h1,tT,oO (zL 1),oO (lT 1 4),bF h2,tT,oO (zL 2),oO (lT 2 4),bT h3]
   ·rcases Qah h with ⟨h4,h⟩|⟨h4,h⟩
    ·obtain rfl:=Option.some.inj h
     exact gr 71 [] [cC (QgN h0),tT,oO (zL 0),oO (lT 0 4),bF h1,tT,oO (zL 1),oO (lT 1 4),bF h2,tT,oO (zL 2),oO (lT 2 4),bF h3,tT,oO (zL 3),oO (lT 3 4),bT h4]
    ·rcases Qah h with ⟨h5,h⟩|⟨h5,h⟩
     ·obtain rfl:=Option.some.inj h
      exact gr 84 [] [cC (QgN h0),tT,oO (zL 0),oO (lT 0 4),bF h1,tT,oO (zL 1),oO (lT 1 4),bF h2,tT,oO (zL 2),oO (lT 2 4),bF h3,tT,oO (zL 3),oO (lT 3 4),bF h4,fF,rp 12 hP,rp 2 (oI ((gtI s0.cost 1073741824)=false)),oR True ((gtI s0.cost 1073741824)=false),rp 2 (oI (((gtI s0.cost 1073741824)||(geI s0.moved 16))=false)),oR True (((gtI s0.cost 1073741824)||(geI s0.moved 16))=false),rp 2 (oI ((((gtI s0.cost 1073741824)||(geI s0.moved 16))||(geI s0.other 16))=false)),oR True ((((gtI s0.cost 1073741824)||(geI s0.moved 16))||(geI s0.other 16))=false),bT h5]
     ·obtain rfl:=Option.some.inj h
      exact gr 85 [] [cC (QgN h0),tT,oO (zL 0),oO (lT 0 4),bF h1,tT,oO (zL 1),oO (lT 1 4),bF h2,tT,oO (zL 2),oO (lT 2 4),bF h3,tT,oO (zL 3),oO (lT 3 4),bF h4,fF,rp 12 hP,rp 2 (oI ((gtI s0.cost 1073741824)=false)),oR True ((gtI s0.cost 1073741824)=false),rp 2 (oI (((gtI s0.cost 1073741824)||(geI s0.moved 16))=false)),oR True (((gtI s0.cost 1073741824)||(geI s0.moved 16))=false),rp 2 (oI ((((gtI s0.cost 1073741824)||(geI s0.moved 16))||(geI s0.other 16))=false)),oR True ((((gtI s0.cost 1073741824)||(geI s0.moved 16))||(geI s0.other 16))=false),bF h5]
theorem QgB {x0 l} {rv:Int×Int×Bool} (h:Qiz x0 l=some rv):AFn Tryz.prog 12 [.agg (Qab.enc x0),.agg (Qad.enc l)] [] (.tup [.one (lI rv.1),.one (lI rv.2.1),.one (.bool rv.2.2)]) []:=by
 refine QaS Tryz.func12 (by kernel_rfl) (by kernel_rfl) (fun Γ=>?_)
 unfold Qiz at h
 rcases Qah h with ⟨h0,h⟩|⟨h0,h⟩
 ·obtain rfl:=Option.some.inj h
  exact gr 8 [] [nL Qaa.enc l.visits,rp 13 hP,rp 2 (oI ((eqI (lenI l.visits) 0)=false)),oR True ((eqI (lenI l.visits) 0)=false),rp 2 (oI (((eqI (lenI l.visits) 0)||(neI l.open_ 0))=false)),oR True (((eqI (lenI l.visits) 0)||(neI l.open_ 0))=false),rp 3 (oI ((((eqI (lenI l.visits) 0)||(neI l.open_ 0))||(ltI l.type_ 0))=false)),nL Qag.enc x0.types,hP,hP,rp 2 (oI ((((eqI (lenI l.visits) 0)||(neI l.open_ 0))||(ltI l.type_ 0))=false)),oR True ((((eqI (lenI l.visits) 0)||(neI l.open_ 0))||(ltI l.type_ 0))=false),bT h0]
 ·obtain ⟨x1,h1,h⟩:=Qae h
  obtain ⟨r,h2,h⟩:=Qae h
  rcases Qah h with ⟨h3,h⟩|⟨h3,h⟩
  ·obtain rfl:=Option.some.inj h
   exact gr 17 [] [nL Qaa.enc l.visits,rp 13 hP,rp 2 (oI ((eqI (lenI l.visits) 0)=false)),oR True ((eqI (lenI l.visits) 0)=false),rp 2 (oI (((eqI (lenI l.visits) 0)||(neI l.open_ 0))=false)),oR True (((eqI (lenI l.visits) 0)||(neI l.open_ 0))=false),rp 3 (oI ((((eqI (lenI l.visits) 0)||(neI l.open_ 0))||(ltI l.type_ 0))=false)),nL Qag.enc x0.types,hP,hP,rp 2 (oI ((((eqI (lenI l.visits) 0)||(neI l.open_ 0))||(ltI l.type_ 0))=false)),oR True ((((eqI (lenI l.visits) 0)||(neI l.open_ 0))||(ltI l.type_ 0))=false),bF h0,cE Qag.enc h1,cC (QeK h2),rp 16 hP,rp 9 (oI ((neI r.2.2 0)=false)),oR True ((neI r.2.2 0)=false),rp 3 (oI (((neI r.2.2 0)||(gtI (subK .i64 (addK .i64 l.driven r.1) l.time) x1.drive))=false)),oR True (((neI r.2.2 0)||(gtI (subK .i64 (addK .i64 l.driven r.1) l.time) x1.drive))=false),bT h3]
  ·obtain ⟨r1,h4,h⟩:=Qae h
   obtain ⟨r2,h5,h⟩:=Qae h
   rcases Qah h with ⟨h6,h⟩|⟨h6,h⟩
   ·obtain rfl:=Option.some.inj h
    exact gr 26 [] [nL Qaa.enc l.visits,rp 13 hP,rp 2 (oI ((eqI (lenI l.visits) 0)=false)),oR True ((eqI (lenI l.visits) 0)=false),rp 2 (oI (((eqI (lenI l.visits) 0)||(neI l.open_ 0))=false)),oR True (((eqI (lenI l.visits) 0)||(neI l.open_ 0))=false),rp 3 (oI ((((eqI (lenI l.visits) 0)||(neI l.open_ 0))||(ltI l.type_ 0))=false)),nL Qag.enc x0.types,hP,hP,rp 2 (oI ((((eqI (lenI l.visits) 0)||(neI l.open_ 0))||(ltI l.type_ 0))=false)),oR True ((((eqI (lenI l.visits) 0)||(neI l.open_ 0))||(ltI l.type_ 0))=false),bF h0,cE Qag.enc h1,cC (QeK h2),rp 16 hP,rp 9 (oI ((neI r.2.2 0)=false)),oR True ((neI r.2.2 0)=false),rp 3 (oI (((neI r.2.2 0)||(gtI (subK .i64 (addK .i64 l.driven r.1) l.time) x1.drive))=false)),oR True (((neI r.2.2 0)||(gtI (subK .i64 (addK .i64 l.driven r.1) l.time) x1.drive))=false),bF h3,hW 15,hH (.nilS 81 2 1),hH (.nilS 87 2 4),cC (QqP h4),cC (QpT h5),bT h6]
   ·obtain rfl:=Option.some.inj h
    exact gr 27 [] [nL Qaa.enc l.visits,rp 13 hP,rp 2 (oI ((eqI (lenI l.visits) 0)=false)),oR True ((eqI (lenI l.visits) 0)=false),rp 2 (oI (((eqI (lenI l.visits) 0)||(neI l.open_ 0))=false)),oR True (((eqI (lenI l.visits) 0)||(neI l.open_ 0))=false),rp 3 (oI ((((eqI (lenI l.visits) 0)||(neI l.open_ 0))||(ltI l.type_ 0))=false)),nL Qag.enc x0.types,hP,hP,rp 2 (oI ((((eqI (lenI l.visits) 0)||(neI l.open_ 0))||(ltI l.type_ 0))=false)),oR True ((((eqI (lenI l.visits) 0)||(neI l.open_ 0))||(ltI l.type_ 0))=false),bF h0,cE Qag.enc h1,cC (QeK h2),rp 16 hP,rp 9 (oI ((neI r.2.2 0)=false)),oR True ((neI r.2.2 0)=false),rp 3 (oI (((neI r.2.2 0)||(gtI (subK .i64 (addK .i64 l.driven r.1) l.time) x1.drive))=false)),oR True (((neI r.2.2 0)||(gtI (subK .i64 (addK .i64 l.driven r.1) l.time) x1.drive))=false),bF h3,hW 15,hH (.nilS 81 2 1),hH (.nilS 87 2 4),cC (QqP h4),cC (QpT h5),bF h6]
theorem QgM {l at_} {rv:Bool} (h:QkW l at_=some rv):AFn Tryz.prog 88 [.one (lL 16 l Qaf.enc),.one (lI at_)] [] (one (.bool rv)) []:=by
 refine QaS Tryz.func88 (by kernel_rfl) (by kernel_rfl) (fun Γ=>?_)
 unfold QkW at h
 obtain rfl:=Option.some.inj h
 exact gr 4 [] [hP,hP,hP,oI ((geI at_ 0)=true),nL Qaf.enc l,hP,hP,rp 2 (oI ((geI at_ 0)=true)),oR True ((geI at_ 0)=true)]
def Qwx (Γ:Gam) (rv:Qar×Int) (cf:Cf):Prop:=Go Tryz.prog Tryz.f45 [] Γ (.tup [.agg [lI rv.1.place,lI rv.1.open_,lI rv.1.close,lI rv.1.service],.one (lI rv.2)]) [] cf
theorem Qo1 (Γ:Gam) (rv:Qar×Int) {x1} (h:QjM x1=some rv):Qwx Γ rv ⟨[.c 31],⟨32,[vP 4 0 4,vP 6 1 4],[oX 4 81 [lI 0,lI 0,lI 0,lI 0],oX 4 81 (Qar.enc x1)]⟩⟩:=by
 unfold QjM at h
 rcases Qah h with ⟨h4,h⟩|⟨h4,h⟩
 ·obtain rfl:=Option.some.inj h
  exact gr 6 [] [bT h4]
 ·obtain rfl:=Option.some.inj h
  exact gr 7 [] [bF h4]
theorem Qfm {l v} {rv:Qar×Int} (h:Qo0 l v=some rv):AFn Tryz.prog 45 [.one (lL 16 l Qaf.enc),.agg (Qaa.enc v)] [] (.tup [.agg [lI rv.1.place,lI rv.1.open_,lI rv.1.close,lI rv.1.service],.one (lI rv.2)]) []:=by
 refine QaS Tryz.func45 (by kernel_rfl) (by kernel_rfl) (fun Γ=>?_)
 unfold Qo0 at h
 obtain ⟨r,h0,h⟩:=Qae h
 rcases Qah h with ⟨h1,h⟩|⟨h1,h⟩
 ·obtain ⟨x0,h2,h⟩:=Qae h
  rcases Qah h with ⟨h3,h⟩|⟨h3,h⟩
  ·exact gn 14 [4,6] [1,2] [cC (QgM h0),nF h1,cE Qaf.enc h2,bT h3,cE Qaf.enc h2] (Qo1 Γ rv h)
  ·exact gn 14 [4,6] [1,2] [cC (QgM h0),nF h1,cE Qaf.enc h2,bF h3] (Qo1 Γ rv h)
 ·obtain rfl:=Option.some.inj h
  exact gr 8 [] [cC (QgM h0),nT h1]
def Qfj (Γ:Gam) (rv:Bool) (cf:Cf):Prop:=Go Tryz.prog Tryz.f46 [] Γ (one (.bool rv)) [] cf
def Qot (Γ:Gam) (rv:Bool) (x0:Qab) (l:Qad) (v:Qaa) (x1:Qaf) (v1:Int):Prop:=Qfj Γ rv ⟨[.c 500,.l 500,.b 0,.c 63],⟨127,[vP 3 0 6,vP 4 1 9,vP 5 2 2,vI 8 (orK .i64 l.done l.open_),vL 63 2 x0.apart Qau.enc,vI 64 (lenI x0.apart),vI 65 v1],[oX 6 30 (Qab.enc x0),oX 9 47 (Qad.enc l),oX 2 54 (Qaa.enc v)]⟩⟩
def QnE (Γ:Gam) (rv:Bool) (x0:Qab) (l:Qad) (v:Qaa) (x1:Qaf):Prop:=Qfj Γ rv ⟨[.c 63],⟨127,[vP 3 0 6,vP 4 1 9,vP 5 2 2],[oX 6 30 (Qab.enc x0),oX 9 47 (Qad.enc l),oX 2 54 (Qaa.enc v)]⟩⟩
def Qou (Γ:Gam) (rv:Bool) (x0:Qab) (l:Qad) (v:Qaa) (x1:Qaf) (v2:Int):Prop:=Qfj Γ rv ⟨[.c 2036,.l 2036,.b 2,.c 255],⟨127,[vP 4 0 9,vP 5 1 2,vL 100 2 x0.before Qau.enc,vI 101 (lenI x0.before),vI 102 v2],[oX 9 47 (Qad.enc l),oX 2 54 (Qaa.enc v)]⟩⟩
def QnF (Γ:Gam) (rv:Bool) (x0:Qab) (l:Qad) (v:Qaa) (x1:Qaf):Prop:=Qfj Γ rv ⟨[.c 255],⟨127,[],[]⟩⟩
def Qov (Γ:Gam) (rv:Bool) (x0:Qab) (l:Qad) (v:Qaa) (x1:Qaf) (v3:Int):Prop:=Qfj Γ rv ⟨[.c 500,.l 500,.b 0,.c 63],⟨127,[vP 3 0 6,vP 4 1 9,vP 5 2 2,vI 8 (orK .i64 l.done l.open_),vL 63 2 x0.apart Qau.enc,vI 64 (lenI x0.apart),vI 65 v3],[oX 6 30 (Qab.enc x0),oX 9 47 (Qad.enc l),oX 2 54 (Qaa.enc v)]⟩⟩
def QnG (Γ:Gam) (rv:Bool) (x0:Qab) (l:Qad) (v:Qaa) (x1:Qaf):Prop:=Qfj Γ rv ⟨[.c 63],⟨127,[vP 3 0 6,vP 4 1 9,vP 5 2 2],[oX 6 30 (Qab.enc x0),oX 9 47 (Qad.enc l),oX 2 54 (Qaa.enc v)]⟩⟩
def Qow (Γ:Gam) (rv:Bool) (x0:Qab) (l:Qad) (v:Qaa) (x1:Qaf) (v4:Int):Prop:=Qfj Γ rv ⟨[.c 2036,.l 2036,.b 2,.c 255],⟨127,[vP 4 0 9,vP 5 1 2,vL 100 2 x0.before Qau.enc,vI 101 (lenI x0.before),vI 102 v4],[oX 9 47 (Qad.enc l),oX 2 54 (Qaa.enc v)]⟩⟩
def QnH (Γ:Gam) (rv:Bool) (x0:Qab) (l:Qad) (v:Qaa) (x1:Qaf):Prop:=Qfj Γ rv ⟨[.c 255],⟨127,[],[]⟩⟩
theorem Qsd (Γ:Gam) (rv:Bool) {x0 l v x1} {s:Int} {e:(Unit)⊕(Bool)} (h:QaK (fun s=>Qdp x0 l v x1 s) s=some e) (hD:sel e (fun e=>QnE Γ rv x0 l v x1) (fun e=>e=rv)):Qot Γ rv x0 l v x1 s:=by
 refine QaC (C:=fun (s:Int)=>Qot Γ rv x0 l v x1 s) (D:=fun (e:(Unit)⊕(Bool))=>sel e (fun e=>QnE Γ rv x0 l v x1) (fun e=>e=rv)) ?_ h hD
 clear h hD s e
 intro v1 z_ h hI hE
 replace h:Qdp x0 l v x1 v1=_:=h
 unfold Qdp at h
 rcases Qah h with ⟨h8,h⟩|⟨h8,h⟩
 ·obtain ⟨x3,h9,h⟩:=Qae h
  rcases Qah h with ⟨h10,h⟩|⟨h10,h⟩
  ·obtain ⟨r2,h11,h⟩:=Qae h
   rcases Qah h with ⟨h12,h⟩|⟨h12,h⟩
   ·obtain rfl:=(hE _ (oJ h):_=rv)
    exact gr 14 [] [bT h8,cE Qau.enc h9,oO (zL 0),oO (lT 0 2),rp 2 (bT h10),oO (zL 1),oO (lT 1 2),rp 2 (bT h10),cC (QaB h11),bT h10,rp 6 (bT h12),rp 4 kF,rp 2 (bT h12),tT]
   ·rcases Qah h with ⟨h13,h⟩|⟨h13,h⟩
    ·obtain ⟨r3,h14,h⟩:=Qae h
     rcases Qah h with ⟨h15,h⟩|⟨h15,h⟩
     ·obtain rfl:=(hE _ (oJ h):_=rv)
      exact gr 14 [] [bT h8,cE Qau.enc h9,oO (zL 0),oO (lT 0 2),rp 2 (bT h10),oO (zL 1),oO (lT 1 2),rp 2 (bT h10),cC (QaB h11),bT h10,bF h12,oO (zL 1),oO (lT 1 2),rp 5 (bF h12),rp 2 (bT h13),oO (zL 0),oO (lT 0 2),rp 2 (bT h13),cC (QaB h14),bF h12,bT h13,bF h12,bT h15]
     ·exact gn 16 [3,4,5,8,63,64,65] [0,1,2] [bT h8,cE Qau.enc h9,oO (zL 0),oO (lT 0 2),rp 2 (bT h10),oO (zL 1),oO (lT 1 2),rp 2 (bT h10),cC (QaB h11),bT h10,bF h12,oO (zL 1),oO (lT 1 2),rp 5 (bF h12),rp 2 (bT h13),oO (zL 0),oO (lT 0 2),rp 2 (bT h13),cC (QaB h14),bF h12,bT h13,bF h12,bF h15] (hI _ (oJ h))
    ·exact gn 16 [3,4,5,8,63,64,65] [0,1,2] [bT h8,cE Qau.enc h9,oO (zL 0),oO (lT 0 2),rp 2 (bT h10),oO (zL 1),oO (lT 1 2),rp 2 (bT h10),cC (QaB h11),bT h10,bF h12,oO (zL 1),oO (lT 1 2),rp 5 (bF h12),rp 4 (bF h13),bF h12,bF h13,bF h12,fF] (hI _ (oJ h))
  ·rcases Qah h with ⟨h16,h⟩|⟨h16,h⟩
   ·obtain ⟨r4,h17,h⟩:=Qae h
    rcases Qah h with ⟨h18,h⟩|⟨h18,h⟩
    ·obtain rfl:=(hE _ (oJ h):_=rv)
     exact gr 14 [] [bT h8,cE Qau.enc h9,oO (zL 0),oO (lT 0 2),rp 5 (bF h10),fF,oO (zL 1),oO (lT 1 2),rp 5 fF,rp 2 (bT h16),oO (zL 0),oO (lT 0 2),rp 2 (bT h16),cC (QaB h17),fF,bT h16,fF,bT h18]
    ·exact gn 16 [3,4,5,8,63,64,65] [0,1,2] [bT h8,cE Qau.enc h9,oO (zL 0),oO (lT 0 2),rp 5 (bF h10),fF,oO (zL 1),oO (lT 1 2),rp 5 fF,rp 2 (bT h16),oO (zL 0),oO (lT 0 2),rp 2 (bT h16),cC (QaB h17),fF,bT h16,fF,bF h18] (hI _ (oJ h))
   ·exact gn 16 [3,4,5,8,63,64,65] [0,1,2] [bT h8,cE Qau.enc h9,oO (zL 0),oO (lT 0 2),rp 5 (bF h10),fF,oO (zL 1),oO (lT 1 2),rp 5 fF,rp 4 (bF h16),fF,bF h16,fF,fF] (hI _ (oJ h))
 ·exact gn 5 [3,4,5] [0,1,2] [bF h8] (hE _ (oJ h))
theorem Qse (Γ:Gam) (rv:Bool) {x0 l v x1} {s:Int} {e:(Unit)⊕(Bool)} (h:QaK (fun s=>Qc0 x0 l v x1 s) s=some e) (hD:sel e (fun e=>QnF Γ rv x0 l v x1) (fun e=>e=rv)):Qou Γ rv x0 l v x1 s:=by
 refine QaC (C:=fun (s:Int)=>Qou Γ rv x0 l v x1 s) (D:=fun (e:(Unit)⊕(Bool))=>sel e (fun e=>QnF Γ rv x0 l v x1) (fun e=>e=rv)) ?_ h hD
 clear h hD s e
 intro v2 z_ h hI hE
 replace h:Qc0 x0 l v x1 v2=_:=h
 unfold Qc0 at h
 rcases Qah h with ⟨h22,h⟩|⟨h22,h⟩
 ·obtain ⟨x4,h23,h⟩:=Qae h
  rcases Qah h with ⟨h24,h⟩|⟨h24,h⟩
  ·obtain ⟨r6,h25,h⟩:=Qae h
   rcases Qah h with ⟨h26,h⟩|⟨h26,h⟩
   ·obtain ⟨r7,h27,h⟩:=Qae h
    rcases Qah h with ⟨h28,h⟩|⟨h28,h⟩
    ·obtain rfl:=(hE _ (oJ h):_=rv)
     exact gr 14 [] [bT h22,cE Qau.enc h23,oO (zL 1),oO (lT 1 2),rp 3 (bT h24),oO (zL 0),oO (lT 0 2),rp 2 (bT h24),cC (QaB h25),rp 2 (bT h24),rp 3 (nF h26),oO (zL 0),oO (lT 0 2),rp 2 (nF h26),cC (QaB h27),bT h24,nF h26,bT h24,bT h28]
    ·exact gn 16 [4,5,100,101,102] [0,1] [bT h22,cE Qau.enc h23,oO (zL 1),oO (lT 1 2),rp 3 (bT h24),oO (zL 0),oO (lT 0 2),rp 2 (bT h24),cC (QaB h25),rp 2 (bT h24),rp 3 (nF h26),oO (zL 0),oO (lT 0 2),rp 2 (nF h26),cC (QaB h27),bT h24,nF h26,bT h24,bF h28] (hI _ (oJ h))
   ·obtain rfl:=(hE _ (oJ h):_=rv)
    exact gr 14 [] [bT h22,cE Qau.enc h23,oO (zL 1),oO (lT 1 2),rp 3 (bT h24),oO (zL 0),oO (lT 0 2),rp 2 (bT h24),cC (QaB h25),rp 2 (bT h24),rp 5 (nT h26),bT h24,nT h26,bT h24,tT]
  ·exact gn 16 [4,5,100,101,102] [0,1] [bT h22,cE Qau.enc h23,oO (zL 1),oO (lT 1 2),rp 7 (bF h24),rp 5 kF,rp 2 (bF h24),fF] (hI _ (oJ h))
 ·exact gn 5 [] [] [bF h22] (hE _ (oJ h))
theorem Qsf (Γ:Gam) (rv:Bool) {x0 l v x1} {s:Int} {e:(Unit)⊕(Bool)} (h:QaK (fun s=>Qdq x0 l v x1 s) s=some e) (hD:sel e (fun e=>QnG Γ rv x0 l v x1) (fun e=>e=rv)):Qov Γ rv x0 l v x1 s:=by
 refine QaC (C:=fun (s:Int)=>Qov Γ rv x0 l v x1 s) (D:=fun (e:(Unit)⊕(Bool))=>sel e (fun e=>QnG Γ rv x0 l v x1) (fun e=>e=rv)) ?_ h hD
 clear h hD s e
 intro v3 z_ h hI hE
 replace h:Qdq x0 l v x1 v3=_:=h
 unfold Qdq at h
 rcases Qah h with ⟨h32,h⟩|⟨h32,h⟩
 ·obtain ⟨x5,h33,h⟩:=Qae h
  rcases Qah h with ⟨h34,h⟩|⟨h34,h⟩
  ·obtain ⟨r11,h35,h⟩:=Qae h
   rcases Qah h with ⟨h36,h⟩|⟨h36,h⟩
   ·obtain rfl:=(hE _ (oJ h):_=rv)
    exact gr 14 [] [bT h32,cE Qau.enc h33,oO (zL 0),oO (lT 0 2),rp 2 (bT h34),oO (zL 1),oO (lT 1 2),rp 2 (bT h34),cC (QaB h35),bT h34,rp 6 (bT h36),rp 4 kF,rp 2 (bT h36),tT]
   ·rcases Qah h with ⟨h37,h⟩|⟨h37,h⟩
    ·obtain ⟨r12,h38,h⟩:=Qae h
     rcases Qah h with ⟨h39,h⟩|⟨h39,h⟩
     ·obtain rfl:=(hE _ (oJ h):_=rv)
      exact gr 14 [] [bT h32,cE Qau.enc h33,oO (zL 0),oO (lT 0 2),rp 2 (bT h34),oO (zL 1),oO (lT 1 2),rp 2 (bT h34),cC (QaB h35),bT h34,bF h36,oO (zL 1),oO (lT 1 2),rp 5 (bF h36),rp 2 (bT h37),oO (zL 0),oO (lT 0 2),rp 2 (bT h37),cC (QaB h38),bF h36,bT h37,bF h36,bT h39]
     ·exact gn 16 [3,4,5,8,63,64,65] [0,1,2] [bT h32,cE Qau.enc h33,oO (zL 0),oO (lT 0 2),rp 2 (bT h34),oO (zL 1),oO (lT 1 2),rp 2 (bT h34),cC (QaB h35),bT h34,bF h36,oO (zL 1),oO (lT 1 2),rp 5 (bF h36),rp 2 (bT h37),oO (zL 0),oO (lT 0 2),rp 2 (bT h37),cC (QaB h38),bF h36,bT h37,bF h36,bF h39] (hI _ (oJ h))
    ·exact gn 16 [3,4,5,8,63,64,65] [0,1,2] [bT h32,cE Qau.enc h33,oO (zL 0),oO (lT 0 2),rp 2 (bT h34),oO (zL 1),oO (lT 1 2),rp 2 (bT h34),cC (QaB h35),bT h34,bF h36,oO (zL 1),oO (lT 1 2),rp 5 (bF h36),rp 4 (bF h37),bF h36,bF h37,bF h36,fF] (hI _ (oJ h))
  ·rcases Qah h with ⟨h40,h⟩|⟨h40,h⟩
   ·obtain ⟨r13,h41,h⟩:=Qae h
    rcases Qah h with ⟨h42,h⟩|⟨h42,h⟩
    ·obtain rfl:=(hE _ (oJ h):_=rv)
     exact gr 14 [] [bT h32,cE Qau.enc h33,oO (zL 0),oO (lT 0 2),rp 5 (bF h34),fF,oO (zL 1),oO (lT 1 2),rp 5 fF,rp 2 (bT h40),oO (zL 0),oO (lT 0 2),rp 2 (bT h40),cC (QaB h41),fF,bT h40,fF,bT h42]
    ·exact gn 16 [3,4,5,8,63,64,65] [0,1,2] [bT h32,cE Qau.enc h33,oO (zL 0),oO (lT 0 2),rp 5 (bF h34),fF,oO (zL 1),oO (lT 1 2),rp 5 fF,rp 2 (bT h40),oO (zL 0),oO (lT 0 2),rp 2 (bT h40),cC (QaB h41),fF,bT h40,fF,bF h42] (hI _ (oJ h))
   ·exact gn 16 [3,4,5,8,63,64,65] [0,1,2] [bT h32,cE Qau.enc h33,oO (zL 0),oO (lT 0 2),rp 5 (bF h34),fF,oO (zL 1),oO (lT 1 2),rp 5 fF,rp 4 (bF h40),fF,bF h40,fF,fF] (hI _ (oJ h))
 ·exact gn 5 [3,4,5] [0,1,2] [bF h32] (hE _ (oJ h))
theorem Qsg (Γ:Gam) (rv:Bool) {x0 l v x1} {s:Int} {e:(Unit)⊕(Bool)} (h:QaK (fun s=>Qc1 x0 l v x1 s) s=some e) (hD:sel e (fun e=>QnH Γ rv x0 l v x1) (fun e=>e=rv)):Qow Γ rv x0 l v x1 s:=by
 refine QaC (C:=fun (s:Int)=>Qow Γ rv x0 l v x1 s) (D:=fun (e:(Unit)⊕(Bool))=>sel e (fun e=>QnH Γ rv x0 l v x1) (fun e=>e=rv)) ?_ h hD
 clear h hD s e
 intro v4 z_ h hI hE
 replace h:Qc1 x0 l v x1 v4=_:=h
 unfold Qc1 at h
 rcases Qah h with ⟨h46,h⟩|⟨h46,h⟩
 ·obtain ⟨x6,h47,h⟩:=Qae h
  rcases Qah h with ⟨h48,h⟩|⟨h48,h⟩
  ·obtain ⟨r15,h49,h⟩:=Qae h
   rcases Qah h with ⟨h50,h⟩|⟨h50,h⟩
   ·obtain ⟨r16,h51,h⟩:=Qae h
    rcases Qah h with ⟨h52,h⟩|⟨h52,h⟩
    ·obtain rfl:=(hE _ (oJ h):_=rv)
     exact gr 14 [] [bT h46,cE Qau.enc h47,oO (zL 1),oO (lT 1 2),rp 3 (bT h48),oO (zL 0),oO (lT 0 2),rp 2 (bT h48),cC (QaB h49),rp 2 (bT h48),rp 3 (nF h50),oO (zL 0),oO (lT 0 2),rp 2 (nF h50),cC (QaB h51),bT h48,nF h50,bT h48,bT h52]
    ·exact gn 16 [4,5,100,101,102] [0,1] [bT h46,cE Qau.enc h47,oO (zL 1),oO (lT 1 2),rp 3 (bT h48),oO (zL 0),oO (lT 0 2),rp 2 (bT h48),cC (QaB h49),rp 2 (bT h48),rp 3 (nF h50),oO (zL 0),oO (lT 0 2),rp 2 (nF h50),cC (QaB h51),bT h48,nF h50,bT h48,bF h52] (hI _ (oJ h))
   ·obtain rfl:=(hE _ (oJ h):_=rv)
    exact gr 14 [] [bT h46,cE Qau.enc h47,oO (zL 1),oO (lT 1 2),rp 3 (bT h48),oO (zL 0),oO (lT 0 2),rp 2 (bT h48),cC (QaB h49),rp 2 (bT h48),rp 5 (nT h50),bT h48,nT h50,bT h48,tT]
  ·exact gn 16 [4,5,100,101,102] [0,1] [bT h46,cE Qau.enc h47,oO (zL 1),oO (lT 1 2),rp 7 (bF h48),rp 5 kF,rp 2 (bF h48),fF] (hI _ (oJ h))
 ·exact gn 5 [] [] [bF h46] (hE _ (oJ h))
theorem Qfp {x0 l v} {rv:Bool} (h:Qmw x0 l v=some rv):AFn Tryz.prog 46 [.agg (Qab.enc x0),.agg (Qad.enc l),.agg (Qaa.enc v)] [] (one (.bool rv)) []:=by
 refine QaS Tryz.func46 (by kernel_rfl) (by kernel_rfl) (fun Γ=>?_)
 unfold Qmw at h
 obtain ⟨x1,h0,h⟩:=Qae h
 rcases Qah h with ⟨h1,h⟩|⟨h1,h⟩
 ·obtain rfl:=Option.some.inj h
  exact gr 10 [] [cE Qaf.enc h0,hH (.draw 38 []),rp 11 (bT h1),tT,tT,tT,rp 6 kF,rp 6 tT,rp 5 kF,tT,tT,tT]
 ·obtain ⟨x2,h2,h⟩:=Qae h
  obtain ⟨r,h3,h⟩:=Qae h
  rcases Qah h with ⟨h4,h⟩|⟨h4,h⟩
  ·rcases Qah h with ⟨h5,h⟩|⟨h5,h⟩
   ·obtain ⟨r1,h6,h⟩:=Qae h
    rcases Qah h with ⟨h7,h⟩|⟨h7,h⟩
    ·obtain ⟨e0,h19,h⟩:=Qae h
     refine gn 16 [3,4,5,8,63,64,65] [0,1,2] [cE Qaf.enc h0,hH (.draw 38 []),rp 5 (bF h1),cE Qag.enc h2,rp 4 (bF h1),cC (Qfh h3),bF h1,bF h1,rp 3 (nF h4),rp 5 (bT h5),cC (QaB h6),bT h5,nF h4,bT h5,nF h4,rp 4 (nF h7),rp 5 (nF h5),nF h7,nF h5,nF h7,fF,nL Qau.enc x0.apart] (Qsd Γ rv h19 ?_)
     rcases e0 with e0|e0
     ·replace h:(bnd (QbV l.done v.order) fun r5=>br r5 (some true) (bnd (QaK (fun s=>Qc0 x0 l v x1 s) 0) (fun e=>sel e (fun (_:Unit)=>some true) (fun r8=>some r8))):Option Bool)=some _:=h
      obtain ⟨r5,h20,h⟩:=Qae h
      rcases Qah h with ⟨h21,h⟩|⟨h21,h⟩
      ·obtain rfl:=Option.some.inj h
       exact gr 6 [] [cC (QaB h20),bT h21]
      ·obtain ⟨e1,h29,h⟩:=Qae h
       refine gn 10 [4,5,100,101,102] [1,2] [cC (QaB h20),bF h21,nL Qau.enc x0.before] (Qse Γ rv h29 ?_)
       rcases e1 with e1|e1
       ·replace h:(some true:Option Bool)=some _:=h
        obtain rfl:=Option.some.inj h
        exact gr 2 [] []
       ·obtain ⟨r8,rfl⟩:∃ x,x=e1:=⟨_,rfl⟩
        replace h:(some r8:Option Bool)=some _:=h
        exact Option.some.inj h
     ·obtain ⟨r9,rfl⟩:∃ x,x=e0:=⟨_,rfl⟩
      replace h:(some r9:Option Bool)=some _:=h
      exact Option.some.inj h
    ·obtain rfl:=Option.some.inj h
     exact gr 10 [] [cE Qaf.enc h0,hH (.draw 38 []),rp 5 (bF h1),cE Qag.enc h2,rp 4 (bF h1),cC (Qfh h3),bF h1,bF h1,rp 3 (nF h4),rp 5 (bT h5),cC (QaB h6),bT h5,nF h4,bT h5,nF h4,rp 4 (nT h7),rp 5 kF,nT h7,nT h7,tT]
   ·obtain ⟨r10,h30,h⟩:=Qae h
    rcases Qah h with ⟨h31,h⟩|⟨h31,h⟩
    ·obtain rfl:=Option.some.inj h
     exact gr 10 [] [cE Qaf.enc h0,hH (.draw 38 []),rp 5 (bF h1),cE Qag.enc h2,rp 4 (bF h1),cC (Qfh h3),bF h1,bF h1,rp 3 (nF h4),rp 6 (bF h5),nF h4,bF h5,nF h4,rp 4 fF,rp 5 (nT h5),cC (QaB h30),fF,nT h5,fF,bT h31]
    ·obtain ⟨e2,h43,h⟩:=Qae h
     refine gn 16 [3,4,5,8,63,64,65] [0,1,2] [cE Qaf.enc h0,hH (.draw 38 []),rp 5 (bF h1),cE Qag.enc h2,rp 4 (bF h1),cC (Qfh h3),bF h1,bF h1,rp 3 (nF h4),rp 6 (bF h5),nF h4,bF h5,nF h4,rp 4 fF,rp 5 (nT h5),cC (QaB h30),fF,nT h5,fF,bF h31,nL Qau.enc x0.apart] (Qsf Γ rv h43 ?_)
     rcases e2 with e2|e2
     ·replace h:(bnd (QbV l.done v.order) fun r14=>br r14 (some true) (bnd (QaK (fun s=>Qc1 x0 l v x1 s) 0) (fun e=>sel e (fun (_:Unit)=>some true) (fun r17=>some r17))):Option Bool)=some _:=h
      obtain ⟨r14,h44,h⟩:=Qae h
      rcases Qah h with ⟨h45,h⟩|⟨h45,h⟩
      ·obtain rfl:=Option.some.inj h
       exact gr 6 [] [cC (QaB h44),bT h45]
      ·obtain ⟨e3,h53,h⟩:=Qae h
       refine gn 10 [4,5,100,101,102] [1,2] [cC (QaB h44),bF h45,nL Qau.enc x0.before] (Qsg Γ rv h53 ?_)
       rcases e3 with e3|e3
       ·replace h:(some true:Option Bool)=some _:=h
        obtain rfl:=Option.some.inj h
        exact gr 2 [] []
       ·obtain ⟨r17,rfl⟩:∃ x,x=e3:=⟨_,rfl⟩
        replace h:(some r17:Option Bool)=some _:=h
        exact Option.some.inj h
     ·obtain ⟨r18,rfl⟩:∃ x,x=e2:=⟨_,rfl⟩
      replace h:(some r18:Option Bool)=some _:=h
      exact Option.some.inj h
  ·obtain rfl:=Option.some.inj h
   exact gr 10 [] [cE Qaf.enc h0,hH (.draw 38 []),rp 5 (bF h1),cE Qag.enc h2,rp 4 (bF h1),cC (Qfh h3),bF h1,bF h1,rp 3 (nT h4),rp 6 kF,nT h4,nT h4,rp 4 tT,rp 5 kF,tT,tT,tT]
end Go.Proofs.YtfjiafgldchinaaGreatDoor
