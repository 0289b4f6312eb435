/- Part MU. -/
import Derived.Test.YtbilkblifgaflaaGreatDoorMT
import Derived.Test.YtbilkblifgaflaaGreatDoorMC
import Derived.Test.YtbilkblifgaflaaGreatDoorProg
set_option linter.unusedSimpArgs false
set_option linter.unusedVariables false
set_option linter.unusedSectionVars false
namespace Go.Proofs.YtbilkblifgaflaaGreatDoor
open _root_.Go.Proofs.Tryz
section
set_option maxHeartbeats 4000000
set_option maxRecDepth 100000
def ES(Γ:bn)(rv:Bool)(cf:Cf):Prop:=Go prog f8 [] Γ (one (.bool rv)) [] cf
def Lh(Γ:bn)(rv:Bool)(x0:ae)(i:Int):Prop:=ES Γ rv ⟨[.c 116,.l 116,.b 0,.c 15],⟨56,[vP 1 0 6,vI 3 i],[oX 6 30 (ae.enc x0)]⟩⟩
def Ju(Γ:bn)(rv:Bool)(x0:ae):Prop:=ES Γ rv ⟨[.c 15],⟨56,[],[]⟩⟩
theorem Jv(Γ:bn)(rv:Bool){x0}:∀⦃s:Int⦄ ⦃e:(Unit)⊕(Bool)⦄,aK (fun s=>kg x0 s) s=some e→jf e (fun e=>Ju Γ rv x0) (fun e=>e=rv)→Lh Γ rv x0 s:=by
 refine bk ?_
 intro i z_ h hI hE;simp only[kg,az,an,aq]at h;rcases h with⟨h1,x1,h2,⟨h3,h⟩|⟨h3,⟨h4,h⟩|⟨h4,h⟩⟩⟩|⟨h1,h⟩
 ·obtain rfl:=(hE h:_=rv);exact gr 12 [] [nL aw.enc x0.bG.bj,bT h1,cE aw.enc h2,nL aB.enc x1.dM,rp 10 (bT h3),tT]
 ·obtain rfl:=(hE h:_=rv);exact gr 12 [] [nL aw.enc x0.bG.bj,bT h1,cE aw.enc h2,nL aB.enc x1.dM,rp 5 (bF h3),cE aw.enc h2,rp 3 (bF h3),nL aB.enc x1.eU,bF h3,bF h3,bT h4]
 ·exact gn 14 [1,3] [0] [nL aw.enc x0.bG.bj,bT h1,cE aw.enc h2,nL aB.enc x1.dM,rp 5 (bF h3),cE aw.enc h2,rp 3 (bF h3),nL aB.enc x1.eU,bF h3,bF h3,bF h4] (hI h)
 ·exact gn 5 [] [] [nL aw.enc x0.bG.bj,bF h1] (hE h)
theorem qJ{x0}{rv:Bool}(h:uI x0=some rv):dF prog 8 [.agg (ae.enc x0)] [] (one (.bool rv)) []:=by
 refine aU func8 fun Γ=>?_
 simp only[uI,az,an,aq]at h;rcases h with⟨h0,h⟩|⟨h0,e0,h5,h⟩
 ·obtain rfl:=oK h;exact gr 8 [] [nL af.enc x0.ah,hP,hP,hP,rp 2 (oI ((cQ (aC x0.ah) 3)=false)),nL ag.enc x0.types,rp 6 hP,oI ((cQ (aC x0.ah) 3)=false),oR True ((cQ (aC x0.ah) 3)=false),rp 3 (oI (((cQ (aC x0.ah) 3)||(cQ (aC x0.types) 3))=false)),nL dC x0.bG.aD,rp 6 hP,oI (((cQ (aC x0.ah) 3)||(cQ (aC x0.types) 3))=false),oR True (((cQ (aC x0.ah) 3)||(cQ (aC x0.types) 3))=false),rp 3 (oI ((((cQ (aC x0.ah) 3)||(cQ (aC x0.types) 3))||(cQ (aC x0.bG.aD) 6))=false)),nL aw.enc x0.bG.bj,hP,hP,oI ((((cQ (aC x0.ah) 3)||(cQ (aC x0.types) 3))||(cQ (aC x0.bG.aD) 6))=false),oR True ((((cQ (aC x0.ah) 3)||(cQ (aC x0.types) 3))||(cQ (aC x0.bG.aD) 6))=false),bT h0]
 ·refine gn 12 [1,3] [0] [nL af.enc x0.ah,hP,hP,hP,rp 2 (oI ((cQ (aC x0.ah) 3)=false)),nL ag.enc x0.types,rp 6 hP,oI ((cQ (aC x0.ah) 3)=false),oR True ((cQ (aC x0.ah) 3)=false),rp 3 (oI (((cQ (aC x0.ah) 3)||(cQ (aC x0.types) 3))=false)),nL dC x0.bG.aD,rp 6 hP,oI (((cQ (aC x0.ah) 3)||(cQ (aC x0.types) 3))=false),oR True (((cQ (aC x0.ah) 3)||(cQ (aC x0.types) 3))=false),rp 3 (oI ((((cQ (aC x0.ah) 3)||(cQ (aC x0.types) 3))||(cQ (aC x0.bG.aD) 6))=false)),nL aw.enc x0.bG.bj,hP,hP,oI ((((cQ (aC x0.ah) 3)||(cQ (aC x0.types) 3))||(cQ (aC x0.bG.aD) 6))=false),oR True ((((cQ (aC x0.ah) 3)||(cQ (aC x0.types) 3))||(cQ (aC x0.bG.aD) 6))=false),bF h0] (Jv Γ rv h5 ?_);rcases e0 with e0|r
  ·obtain rfl:=oK h;exact gr 2 [] []
  ·exact oK h
theorem rz{n}{rv:List aa}(h:ew n=some rv):dF prog 112 [.one (.dO),.one (lI n)] [] (one (lO 0 2 rv aa.enc)) [oS 2 104 rv aa.enc]:=by
 refine aU func112 fun Γ=>?_
 simp only[ew,az,an,aq]at h;rcases h with⟨h0,h⟩|⟨h0,⟨h1,l,h2,l1,h3,h⟩|⟨h1,h⟩⟩
 ·cases h
 ·obtain rfl:=oK h;exact gr 16 [0] [bF h0,bT h1,hH (.cells [lI 0,.str ByteArray.empty]),rp 3 (oO (Int.le_refl 0)),hH (.rows (l.map aa.enc)),oO (mk1 h2),oO (mk3 h2),oO (mk4 h2),oO (mk5 aa.enc h2),eL l aa.enc,hH (.rows (l1.map aa.enc)),oO (Py h3),oO (Ap aa.enc h3),oO (Qq4 aa.enc h3)]
 ·cases h;exact gr 16 [0] [bF h0,bF h1,hW 5,hH (.lP 4 2 104)]
def gm(Γ:bn)(rv:List aa)(cf:Cf):Prop:=Go prog f76 [] Γ (one (lL 2 rv aa.enc)) [] cf
def tL(Γ:bn)(rv:List aa)(kW:List (List aa))(size v:Int):Prop:=gm Γ rv ⟨[.c 116,.l 116,.b 0,.c 15],⟨36,[vL 0 1 kW kD.enc,vI 3 size,vL 9 1 kW kD.enc,vI 10 (aC kW),vI 11 v],[]⟩⟩
def s9(Γ:bn)(rv:List aa)(kW:List (List aa))(Qc3:Int):Prop:=gm Γ rv ⟨[.c 15],⟨36,[vL 0 1 kW kD.enc,vI 3 Qc3],[]⟩⟩
def tM(Γ:bn)(rv:List aa)(kW:List (List aa))(l:List aa)(v1:Int):Prop:=gm Γ rv ⟨[.c 500,.l 500,.b 2,.c 63],⟨36,[vO 6 0 2 l aa.enc,vL 25 1 kW kD.enc,vI 26 (aC kW),vI 27 v1],[oS 2 104 l aa.enc]⟩⟩
def ta(Γ:bn)(rv:List aa)(kW:List (List aa))(l1:List aa):Prop:=gm Γ rv ⟨[.c 63],⟨36,[vO 6 0 2 l1 aa.enc],[oS 2 104 l1 aa.enc]⟩⟩
theorem s_(Γ:bn)(rv:List aa){kW}:∀⦃s:Int×Int⦄ ⦃e:Int⦄,aK (fun s=>cJ kW s.1 s.2) s=some e→s9 Γ rv kW e→tL Γ rv kW s.1 s.2:=by
 refine bk ?_
 rintro⟨size,v⟩ z_ h hI hE;simp only[cJ,az,an,aq]at h;rcases h with⟨h0,x0,h1,⟨h2,h⟩|⟨h2,h⟩⟩|⟨h0,h⟩
 ·cases h
 ·exact gn 18 [0,3,9,10,11] [] [bT h0,cE kD.enc h1,nL aa.enc x0,bF h2] (hI h)
 ·exact gn 5 [0,3] [] [bF h0] (hE h)
theorem tc(Γ:bn)(rv:List aa){kW}:∀⦃s:List aa×Int⦄ ⦃e:List aa⦄,aK (fun s=>cK kW s.1 s.2) s=some e→ta Γ rv kW e→tM Γ rv kW s.1 s.2:=by
 refine bk ?_
 rintro⟨l,v1⟩ z_ h hI hE;simp only[cK,az,an,aq]at h;rcases h with⟨h5,x1,h6,h7,h⟩|⟨h5,h⟩
 ·exact gn 13 [6,25,26,27] [1] [bT h5,cE kD.enc h6,aO aa.enc h7] (hI h)
 ·exact gn 5 [6] [0] [bF h5] (hE h)
theorem ux{kW}{rv:List aa}(h:fA kW=some rv):dF prog 76 [.one (lL 1 kW kD.enc)] [] (one (lL 2 rv aa.enc)) []:=by
 refine aU func76 fun Γ=>?_
 simp only[fA,az,an,aq]at h;obtain⟨Qc3,h3,h⟩:=h;refine gn 9 [0,3,9,10,11] [] [nL kD.enc kW] (s_ Γ rv h3 ?_);obtain⟨r,h4,l1,h8,h⟩:=h;refine gn 7 [6,25,26,27] [0] [cC (rz h4),nL kD.enc kW] (tc Γ rv h8 ?_);obtain rfl:=oK h;exact gr 2 [] [hW 4,hH (.kX 0),rp 3 (eL l1 aa.enc)]
def zu(Γ:bn)(rv:List aa)(cf:Cf):Prop:=Go prog f77 [] Γ (one (lL 2 rv aa.enc)) [] cf
def AM(Γ:bn)(rv:List aa)(word:ByteArray)(l l2:List aa)(v:Int):Prop:=zu Γ rv ⟨[.c 116,.l 116,.b 0,.c 15],⟨36,[vS 0 word,vO 5 0 2 l2 aa.enc,vL 12 2 l aa.enc,vI 13 (aC l),vI 14 v],[oS 2 104 l2 aa.enc]⟩⟩
def z4(Γ:bn)(rv:List aa)(word:ByteArray)(l l3:List aa):Prop:=zu Γ rv ⟨[.c 15],⟨36,[vO 5 0 2 l3 aa.enc],[oS 2 104 l3 aa.enc]⟩⟩
theorem z3(Γ:bn)(rv:List aa){word l l2 v x0 di Qdn}{x:(List aa×Int)⊕(List aa)}(h:qH word l l2 v x0 di Qdn=some x)(hI:∀⦃s:List aa×Int⦄,some (.inl s)=some x→AM Γ rv word l s.1 s.2)(hE:∀⦃e:List aa⦄,some (.inr e)=some x→z4 Γ rv word l e):zu Γ rv ⟨[.c 14951,.b 1,.c 935,.l 116,.b 0,.c 15],⟨36,[vS 0 word,vO 5 0 2 l2 aa.enc,vP 7 1 2,vS 8 Qdn,vL 12 2 l aa.enc,vI 13 (aC l),vI 14 v],[oS 2 104 l2 aa.enc,oX 2 104 [lI x0.IK,.str di]]⟩⟩:=by
 simp only[qH,az,an,aq]at h;obtain⟨h6,h⟩:=h;exact gn 4 [0,5,12,13,14] [3] [oO (Eq.refl ([(aa.mk x0.IK Qdn)].map aa.enc).length),aO aa.enc h6] (hI h)
theorem Jn(Γ:bn)(rv:List aa){word l}:∀⦃s:List aa×Int⦄ ⦃e:List aa⦄,aK (fun s=>qI word l s.1 s.2) s=some e→z4 Γ rv word l e→AM Γ rv word l s.1 s.2:=by
 refine bk ?_
 rintro⟨l2,v⟩ z_ h hI hE;simp only[qI,az,an,aq]at h;rcases h with⟨h1,x0,h2,⟨h3,h⟩|⟨h3,h4,h5,h⟩⟩|⟨h1,h⟩
 ·exact gn 16 [0,5,7,8,12,13,14] [0,1] [bT h1,cE aa.enc h2,nF h3] (z3 Γ rv h hI hE)
 ·exact gn 16 [0,5,7,8,12,13,14] [0,1] [bT h1,cE aa.enc h2,nT h3,oO (h4),oO (h5)] (z3 Γ rv h hI hE)
 ·exact gn 5 [5] [0] [bF h1] (hE h)
theorem ug{word l}{rv:List aa}(h:nt word l=some rv):dF prog 77 [.one (.str word),.one (lL 2 l aa.enc)] [] (one (lL 2 rv aa.enc)) []:=by
 refine aU func77 fun Γ=>?_
 simp only[nt,az,an,aq]at h;obtain⟨l1,h0,l3,h7,h⟩:=h;refine gn 9 [0,5,12,13,14] [0] [nL aa.enc l,hH (.cells [lI 0,.str ByteArray.empty]),hH (.rows (l1.map aa.enc)),oO (mk1 h0),oO (mk2 h0),oO (mk3 h0),oO (mk4 h0),oO (mk5 aa.enc h0),nL aa.enc l] (Jn Γ rv h7 ?_);obtain rfl:=oK h;exact gr 2 [] [hW 4,hH (.kX 0),rp 3 (eL l3 aa.enc)]
theorem QI{i}{rv:ByteArray}(h:Ep i=some rv):dF prog 232 [.one (lI i)] [] (one (.str rv)) []:=by
 refine aU func232 fun Γ=>?_
 simp only[Ep,az,an,aq]at h;rcases h with⟨h0,s0,h1,h⟩|⟨h0,s1,h2,h⟩
 ·cases h;exact gr 8 [] [bT h0,oO (ss1 h1),oO (ss2 h1),oO (ss3 h1)]
 ·cases h;exact gr 9 [] [bF h0,oO (ss1 h2),oO (ss2 h2),oO (ss3 h2)]
def L5(Γ:bn)(rv:ByteArray)(cf:Cf):Prop:=Go prog f207 [] Γ (one (.str rv)) [] cf
theorem xt(Γ:bn)(rv:ByteArray){i u}(h:q_ i u=some rv):L5 Γ rv ⟨[.c 431,.c 7],⟨54,[vI 0 i,vP 5 0 24,(6,one (.int .u64 u))],[oX 24 245 [.int .u8 0,.int .u8 0,.int .u8 0,.int .u8 0,.int .u8 0,.int .u8 0,.int .u8 0,.int .u8 0,.int .u8 0,.int .u8 0,.int .u8 0,.int .u8 0,.int .u8 0,.int .u8 0,.int .u8 0,.int .u8 0,.int .u8 0,.int .u8 0,.int .u8 0,.int .u8 0,.int .u8 0,.int .u8 0,.int .u8 0,.int .u8 0]]⟩⟩:=by
 simp only[q_,az,an,aq]at h;obtain⟨r1,h4,h⟩:=h;cases h
theorem KE{i base}{rv:ByteArray}(h:yQ i base=some rv):dF prog 207 [.one (lI i),.one (lI base)] [] (one (.str rv)) []:=by
 refine aU func207 fun Γ=>?_
 simp only[yQ,az,an,aq]at h;rcases h with⟨h0,⟨h1,r,h2,h⟩|⟨h1,⟨h3,h⟩|⟨h3,h⟩⟩⟩|⟨h0,h⟩
 ·obtain rfl:=oK h;exact gr 12 [] [bT h0,hP,hP,hP,oI ((jD 0 i)=true),oR True ((jD 0 i)=true),bT h1,cC (QI h2)]
 ·exact gn 20 [0,5,6] [0] [bT h0,hP,hP,hP,oI ((jD 0 i)=true),oR True ((jD 0 i)=true),bF h1,bT h3] (xt Γ rv h)
 ·exact gn 20 [0,5,6] [0] [bT h0,hP,hP,hP,oI ((jD 0 i)=true),oR True ((jD 0 i)=true),bF h1,bF h3] (xt Γ rv h)
 ·cases h
theorem RL{i}{rv:ByteArray}(h:Hb i=some rv):dF prog 179 [.one (lI i)] [] (one (.str rv)) []:=by
 refine aU func179 fun Γ=>?_
 simp only[Hb,az,an,aq]at h;obtain⟨r,h0,h⟩:=h;obtain rfl:=oK h;exact gr 4 [] [cC (KE h0)]
theorem yR{i}{rv:ByteArray}(h:nD i=some rv):dF prog 146 [.one (lI i)] [] (one (.str rv)) []:=by
 refine aU func146 fun Γ=>?_
 simp only[nD,az,an,aq]at h;obtain⟨r,h0,h⟩:=h;obtain rfl:=oK h;exact gr 4 [] [cC (RL h0)]
theorem qx{n}{rv:ByteArray}(h:nh n=some rv):dF prog 113 [.one (lI n)] [] (one (.str rv)) []:=by
 refine aU func113 fun Γ=>?_
 simp only[nh,az,an,aq]at h;obtain⟨r,h0,h⟩:=h;obtain rfl:=oK h;exact gr 4 [] [cC (yR h0)]
theorem zK{c}{rv:Bool}(h:He c=some rv):dF prog 147 [.one (.int .u8 c)] [] (one (.bool rv)) []:=by
 refine aU func147 fun Γ=>?_
 simp only[He,az,an,aq]at h;cases h;exact gr 4 [] [hP,hP,hP,oI ((bZ c 48)=true),oR True ((bZ c 48)=true)]
theorem CD{c}{rv:Bool}(h:KG c=some rv):dF prog 148 [.one (.int .u8 c)] [] (one (.bool rv)) []:=by
 refine aU func148 fun Γ=>?_
 simp only[KG,az,an,aq]at h;cases h;exact gr 4 [] [rp 14 hP,oI ((bZ c 97)=true),oR True ((bZ c 97)=true),rp 2 (oI (((bZ c 97)&&(jD c 122))=false)),oI ((((bZ c 97)&&(jD c 122))=false)∧(bZ c 65)=true),oI (((bZ c 97)&&(jD c 122))=false),oI ((((bZ c 97)&&(jD c 122))=false)∧(bZ c 65)=true),oR True (((bZ c 97)&&(jD c 122))=false),oI ((((bZ c 97)&&(jD c 122))||((bZ c 65)&&(jD c 90)))=false),oR True ((((bZ c 97)&&(jD c 122))||((bZ c 65)&&(jD c 90)))=false)]
def Rg(Γ:bn)(rv:Bool)(cf:Cf):Prop:=Go prog f114 [] Γ (one (.bool rv)) [] cf
def TT(Γ:bn)(rv:Bool)(s0:ByteArray)(b:UInt8)(v:Int):Prop:=Rg Γ rv ⟨[.c 116,.l 116,.b 0,.c 15],⟨34,[vS 0 s0,vI 17 (xq s0),vI 18 v],[]⟩⟩
def RM(Γ:bn)(rv:Bool)(s0:ByteArray)(b:UInt8):Prop:=Rg Γ rv ⟨[.c 15],⟨34,[],[]⟩⟩
theorem RN(Γ:bn)(rv:Bool){s0 b}:∀⦃s:Int⦄ ⦃e:(Unit)⊕(Bool)⦄,aK (fun s=>Hd s0 b s) s=some e→jf e (fun e=>RM Γ rv s0 b) (fun e=>e=rv)→TT Γ rv s0 b s:=by
 refine bk ?_
 intro v z_ h hI hE;simp only[Hd,az,an,aq]at h;rcases h with⟨h4,b1,h5,r1,h6,⟨h7,h⟩|⟨h7,r2,h8,⟨h9,h⟩|⟨h9,h⟩⟩⟩|⟨h4,h⟩
 ·exact gn 16 [0,17,18] [] [bT h4,yE h5,cC (CD h6),rp 6 (nF h7),fF] (hI h)
 ·exact gn 16 [0,17,18] [] [bT h4,yE h5,cC (CD h6),rp 3 (nT h7),yE h5,nT h7,cC (zK h8),nT h7,nT h7,nF h9] (hI h)
 ·obtain rfl:=(hE h:_=rv);exact gr 14 [] [bT h4,yE h5,cC (CD h6),rp 3 (nT h7),yE h5,nT h7,cC (zK h8),nT h7,nT h7,nT h9]
 ·exact gn 5 [] [] [bF h4] (hE h)
theorem eA{s0}{rv:Bool}(h:zG s0=some rv):dF prog 114 [.one (.str s0)] [] (one (.bool rv)) []:=by
 refine aU func114 fun Γ=>?_
 simp only[zG,az,an,aq]at h;rcases h with⟨h0,h⟩|⟨h0,b,h1,r,h2,⟨h3,h⟩|⟨h3,e0,dN,h⟩⟩
 ·obtain rfl:=oK h;exact gr 8 [] [rp 4 hP,rp 2 (oI ((Jb s0 ByteArray.empty)=false)),oR True ((Jb s0 ByteArray.empty)=false),rp 4 (bT h0),tT]
 ·obtain rfl:=oK h;exact gr 8 [] [rp 4 hP,rp 2 (oI ((Jb s0 ByteArray.empty)=false)),oR True ((Jb s0 ByteArray.empty)=false),bF h0,bF h0,yE h1,bF h0,cC (zK h2),bF h0,bT h3]
 ·refine gn 12 [0,17,18] [] [rp 4 hP,rp 2 (oI ((Jb s0 ByteArray.empty)=false)),oR True ((Jb s0 ByteArray.empty)=false),bF h0,bF h0,yE h1,bF h0,cC (zK h2),bF h0,bF h3] (RN Γ rv dN ?_);rcases e0 with e0|r3
  ·obtain rfl:=oK h;exact gr 2 [] []
  ·exact oK h
theorem cz{n i}{rv:Bool}(h:kE n i=some rv):dF prog 83 [.agg (ak.enc n),.one (lI i)] [] (one (.bool rv)) []:=by
 refine aU func83 fun Γ=>?_
 simp only[kE,az,an,aq]at h;cases h;exact gr 4 [] [rp 4 hP,rp 2 (oI ((bZ i 0)=true)),nL dC n.aD,hP,hP,rp 2 (oI ((bZ i 0)=true)),oR True ((bZ i 0)=true)]
theorem mY{a}{rv:aV}(h:nd a=some rv):dF prog 116 [.agg (aw.enc a)] [] (gG [lI rv.aE,lI rv.dE,lI rv.aj]) []:=by
 refine aU func116 fun Γ=>?_
 simp only[nd,az,an,aq]at h;cases h;exact gr 4 [] []
theorem sE{n least C5}{rv:Bool}(h:ni n least C5=some rv):dF prog 163 [.one (lI n),.one (lI least),.one (lI C5)] [] (one (.bool rv)) []:=by
 refine aU func163 fun Γ=>?_
 simp only[ni,az,an,aq]at h;cases h;exact gr 4 [] [rp 4 hP,rp 2 (oI ((bZ n least)=true)),oR True ((bZ n least)=true)]
def yS(Γ:bn)(rv:List aa)(cf:Cf):Prop:=Go prog f149 [] Γ (one (lL 2 rv aa.enc)) [] cf
def DS(Γ:bn)(rv:List aa)(l:List aB)(l2:List aa)(v:Int):Prop:=yS Γ rv ⟨[.c 244,.l 244,.b 0,.c 31],⟨83,[vL 0 2 l aB.enc,vO 3 0 2 l2 aa.enc,vL 19 2 l aB.enc,vI 20 (aC l),vI 21 v],[oS 2 104 l2 aa.enc]⟩⟩
def CH(Γ:bn)(rv:List aa)(l:List aB)(l4:List aa):Prop:=yS Γ rv ⟨[.c 31],⟨83,[vO 3 0 2 l4 aa.enc],[oS 2 104 l4 aa.enc]⟩⟩
theorem CG(Γ:bn)(rv:List aa){l v x0 r l3}{x:(List aa×Int)⊕(List aa)}(h:n5 l v x0 r l3=some x)(hI:∀⦃s:List aa×Int⦄,some (.inl s)=some x→DS Γ rv l s.1 s.2)(hE:∀⦃e:List aa⦄,some (.inr e)=some x→CH Γ rv l e):yS Γ rv ⟨[.c 31335,.b 1,.c 1959,.l 244,.b 0,.c 31],⟨83,[vL 0 2 l aB.enc,vO 3 0 2 l3 aa.enc,vI 4 v,vP 5 1 2,vS 6 r,vL 19 2 l aB.enc,vI 20 (aC l),vI 21 v],[oS 2 104 l3 aa.enc,oX 2 86 (aB.enc x0)]⟩⟩:=by
 simp only[n5,az,an,aq]at h;rcases h with⟨h8,x1,h9,⟨dN,gq,h⟩|⟨dN,⟨gu,ij,h⟩|⟨gu,h⟩⟩⟩|⟨h8,h⟩
 ·exact gn 7 [0,3,19,20,21] [3] [hH (.draw 24 []),rp 6 (bT h8),cE aB.enc h9,rp 4 (bT h8),rp 9 (bT dN),bT h8,bT dN,bT h8,tT,oO (Eq.refl ([(aa.mk 13 r)].map aa.enc).length),aO aa.enc gq] (hI h)
 ·exact gn 7 [0,3,19,20,21] [3] [hH (.draw 24 []),rp 6 (bT h8),cE aB.enc h9,rp 4 (bT h8),rp 6 (bF dN),cE aB.enc h9,rp 3 (bF dN),bT h8,bF dN,bT h8,bT gu,oO (Eq.refl ([(aa.mk 13 r)].map aa.enc).length),aO aa.enc ij] (hI h)
 ·exact gn 7 [0,3,19,20,21] [0] [hH (.draw 24 []),rp 6 (bT h8),cE aB.enc h9,rp 4 (bT h8),rp 6 (bF dN),cE aB.enc h9,rp 3 (bF dN),bT h8,bF dN,bT h8,bF gu] (hI h)
 ·exact gn 7 [0,3,19,20,21] [0] [hH (.draw 24 []),rp 10 (bF h8),rp 9 kF,bF h8,bF h8,fF] (hI h)
theorem Nt(Γ:bn)(rv:List aa){l}:∀⦃s:List aa×Int⦄ ⦃e:List aa⦄,aK (fun s=>im l s.1 s.2) s=some e→CH Γ rv l e→DS Γ rv l s.1 s.2:=by
 refine bk ?_
 rintro⟨l2,v⟩ z_ h hI hE;simp only[im,az,an,aq]at h;rcases h with⟨h2,x0,h3,r,h4,r1,h5,⟨h6,h7,h⟩|⟨h6,h⟩⟩|⟨h2,h⟩
 ·exact gn 16 [0,3,4,5,6,19,20,21] [3,1] [bT h2,cE aB.enc h3,cC (yR h4),cC (sE h5),rp 13 hP,rp 4 (oI ((!r1)=false)),oR True ((!r1)=false),rp 5 (oI (((!r1)||(aT x0.a x0.t))=false)),oR True (((!r1)||(aT x0.a x0.t))=false),bT h6,oO (Eq.refl ([(aa.mk 2 r)].map aa.enc).length),aO aa.enc h7] (CG Γ rv h hI hE)
 ·exact gn 16 [0,3,4,5,6,19,20,21] [0,1] [bT h2,cE aB.enc h3,cC (yR h4),cC (sE h5),rp 13 hP,rp 4 (oI ((!r1)=false)),oR True ((!r1)=false),rp 5 (oI (((!r1)||(aT x0.a x0.t))=false)),oR True (((!r1)||(aT x0.a x0.t))=false),bF h6] (CG Γ rv h hI hE)
 ·exact gn 5 [3] [0] [bF h2] (hE h)
theorem CF(Γ:bn)(rv:List aa){l l1}(h:n0 l l1=some rv):yS Γ rv ⟨[.c 15],⟨83,[vL 0 2 l aB.enc,vO 3 0 2 l1 aa.enc],[oS 2 104 l1 aa.enc]⟩⟩:=by
 simp only[n0,az,an,aq]at h;obtain⟨l4,kH,h⟩:=h;refine gn 5 [0,3,19,20,21] [0] [nL aB.enc l] (Nt Γ rv kH ?_);obtain rfl:=oK h;exact gr 2 [] [hW 4,hH (.kX 0),rp 3 (eL l4 aa.enc)]
theorem AD{l}{rv:List aa}(h:jU l=some rv):dF prog 149 [.one (lL 2 l aB.enc)] [] (one (lL 2 rv aa.enc)) []:=by
 refine aU func149 fun Γ=>?_
 simp only[jU,az,an,aq]at h;rcases h with⟨h0,h1,h⟩|⟨h0,h⟩
 ·exact gn 9 [0,3] [1] [nL aB.enc l,hP,hP,oI ((bP (aC l) 0)=false),nL aB.enc l,hP,hP,oI ((bP (aC l) 0)=false),oR True ((bP (aC l) 0)=false),bT h0,oO (Eq.refl ([(aa.mk 4 ByteArray.empty)].map aa.enc).length),aN (l:=([(aa.mk 4 ByteArray.empty)]:List aa)) aa.enc h1] (CF Γ rv h)
 ·exact gn 9 [0,3] [0] [nL aB.enc l,hP,hP,oI ((bP (aC l) 0)=false),nL aB.enc l,hP,hP,oI ((bP (aC l) 0)=false),oR True ((bP (aC l) 0)=false),bF h0,hW 1,hH (.lP 3 2 104)] (CF Γ rv h)
theorem jE{t}{rv:Bool}(h:vj t=some rv):dF prog 180 [.one (lI t)] [] (one (.bool rv)) []:=by
 refine aU func180 fun Γ=>?_
 simp only[vj,az,an,aq]at h;cases h;exact gr 4 [] [hP,hP,hP,oI ((bZ t 0)=true),oR True ((bZ t 0)=true)]
def Cl(Γ:bn)(rv:List Int)(cf:Cf):Prop:=Go prog f150 [] Γ (one (lL 1 rv ax)) [] cf
def OK(Γ:bn)(rv:List Int)(l:List aB)(l2:List Int)(v:Int):Prop:=Cl Γ rv ⟨[.c 244,.l 244,.b 0,.c 31],⟨49,[vL 0 2 l aB.enc,vO 3 0 1 l2 ax,vL 12 2 l aB.enc,vI 13 (aC l),vI 14 v],[oS 1 33 l2 ax]⟩⟩
def MT(Γ:bn)(rv:List Int)(l:List aB)(l3:List Int):Prop:=Cl Γ rv ⟨[.c 31],⟨49,[vO 3 0 1 l3 ax],[oS 1 33 l3 ax]⟩⟩
theorem MU(Γ:bn)(rv:List Int){l}:∀⦃s:List Int×Int⦄ ⦃e:List Int⦄,aK (fun s=>kN l s.1 s.2) s=some e→MT Γ rv l e→OK Γ rv l s.1 s.2:=by
 refine bk ?_
 rintro⟨l2,v⟩ z_ h hI hE;simp only[kN,az,an,aq]at h;rcases h with⟨h2,x0,h3,r,h4,⟨h5,⟨h6,x1,h7,⟨h8,h9,h⟩|⟨h8,r1,dN,⟨gq,h⟩|⟨gq,gu,h⟩⟩⟩|⟨h6,r2,ij,⟨kH,h⟩|⟨kH,nk,h⟩⟩⟩|⟨h5,pc,h⟩⟩|⟨h2,h⟩
 ·exact gn 16 [0,3,12,13,14] [3] [bT h2,cE aB.enc h3,hH (.draw 25 []),cC (jE h4),rp 3 (nF h5),rp 6 (bT h6),cE aB.enc h7,rp 3 (bT h6),nF h5,bT h6,nF h5,rp 5 (bT h8),tT,oO (Eq.refl ([2].map ax).length),aO ax h9] (hI h)
 ·exact gn 16 [0,3,12,13,14] [0] [bT h2,cE aB.enc h3,hH (.draw 25 []),cC (jE h4),rp 3 (nF h5),rp 6 (bT h6),cE aB.enc h7,rp 3 (bT h6),nF h5,bT h6,nF h5,rp 3 (bF h8),cC (jE dN),bF h8,bF h8,nF gq] (hI h)
 ·exact gn 16 [0,3,12,13,14] [3] [bT h2,cE aB.enc h3,hH (.draw 25 []),cC (jE h4),rp 3 (nF h5),rp 6 (bT h6),cE aB.enc h7,rp 3 (bT h6),nF h5,bT h6,nF h5,rp 3 (bF h8),cC (jE dN),bF h8,bF h8,nT gq,oO (Eq.refl ([2].map ax).length),aO ax gu] (hI h)
 ·exact gn 16 [0,3,12,13,14] [0] [bT h2,cE aB.enc h3,hH (.draw 25 []),cC (jE h4),rp 3 (nF h5),rp 9 (bF h6),nF h5,bF h6,nF h5,fF,fF,fF,cC (jE ij),fF,fF,nF kH] (hI h)
 ·exact gn 16 [0,3,12,13,14] [3] [bT h2,cE aB.enc h3,hH (.draw 25 []),cC (jE h4),rp 3 (nF h5),rp 9 (bF h6),nF h5,bF h6,nF h5,fF,fF,fF,cC (jE ij),fF,fF,nT kH,oO (Eq.refl ([2].map ax).length),aO ax nk] (hI h)
 ·exact gn 16 [0,3,12,13,14] [3] [bT h2,cE aB.enc h3,hH (.draw 25 []),cC (jE h4),rp 3 (nT h5),rp 9 kF,nT h5,nT h5,rp 6 tT,oO (Eq.refl ([2].map ax).length),aO ax pc] (hI h)
 ·exact gn 5 [3] [0] [bF h2] (hE h)
theorem Cn(Γ:bn)(rv:List Int){l l1}(h:qt l l1=some rv):Cl Γ rv ⟨[.c 15],⟨49,[vL 0 2 l aB.enc,vO 3 0 1 l1 ax],[oS 1 33 l1 ax]⟩⟩:=by
 simp only[qt,az,an,aq]at h;obtain⟨l3,sG,h⟩:=h;refine gn 5 [0,3,12,13,14] [0] [nL aB.enc l] (MU Γ rv sG ?_);obtain rfl:=oK h;exact gr 2 [] [hW 4,hH (.kX 0),rp 3 (eL l3 ax)]
theorem Hq{l}{rv:List Int}(h:vi l=some rv):dF prog 150 [.one (lL 2 l aB.enc)] [] (one (lL 1 rv ax)) []:=by
 refine aU func150 fun Γ=>?_
 simp only[vi,az,an,aq]at h;rcases h with⟨h0,h1,h⟩|⟨h0,h⟩
 ·exact gn 9 [0,3] [1] [nL aB.enc l,bT h0,oO (Eq.refl ([4].map ax).length),aN (l:=([4]:List Int)) ax h1] (Cn Γ rv h)
 ·exact gn 9 [0,3] [0] [nL aB.enc l,bF h0,hW 1,hH (.lP 3 1 33)] (Cn Γ rv h)
def nc(Γ:bn)(rv:List Int)(known:List (aV×Bool))(cf:Cf):Prop:=Go prog f115 [0] Γ (one (lL 1 rv ax)) [oM 151 known (mE aV.enc Lf.bool)] cf
def Qi(Γ:bn)(rv:List Int)(a:aw)(known:List (aV×Bool))(l:List Int)(r3:List aa)(l3:List Int)(v:Int):Prop:=nc Γ rv known ⟨[.c 1012,.l 1012,.b 0,.c 127],⟨79,[vP 4 1 6,vO 7 2 1 l3 ax,vL 62 2 r3 aa.enc,vI 63 (aC r3),vI 64 v],[oM 151 known (mE aV.enc Lf.bool),oX 6 59 (aw.enc a),oS 1 33 l3 ax]⟩⟩
def OG(Γ:bn)(rv:List Int)(a:aw)(known:List (aV×Bool))(l:List Int)(r3:List aa)(l4:List Int):Prop:=nc Γ rv known ⟨[.c 127],⟨79,[vP 4 1 6,vO 7 2 1 l4 ax],[oM 151 known (mE aV.enc Lf.bool),oX 6 59 (aw.enc a),oS 1 33 l4 ax]⟩⟩
def Qj(Γ:bn)(rv:List Int)(a:aw)(known:List (aV×Bool))(r6:List aa)(l7:List Int)(v1:Int):Prop:=nc Γ rv known ⟨[.c 1012,.l 1012,.b 0,.c 127],⟨79,[vP 4 1 6,vO 7 2 1 l7 ax,vL 62 2 r6 aa.enc,vI 63 (aC r6),vI 64 v1],[oM 151 known (mE aV.enc Lf.bool),oX 6 59 (aw.enc a),oS 1 33 l7 ax]⟩⟩
def OI(Γ:bn)(rv:List Int)(a:aw)(known:List (aV×Bool))(r6:List aa)(l8:List Int):Prop:=nc Γ rv known ⟨[.c 127],⟨79,[vP 4 1 6,vO 7 2 1 l8 ax],[oM 151 known (mE aV.enc Lf.bool),oX 6 59 (aw.enc a),oS 1 33 l8 ax]⟩⟩
theorem OH(Γ:bn)(rv:List Int){a known l r3}:∀⦃s:List Int×Int⦄ ⦃e:List Int⦄,aK (fun s=>lZ a known l r3 s.1 s.2) s=some e→OG Γ rv a known l r3 e→Qi Γ rv a known l r3 s.1 s.2:=by
 refine bk ?_
 rintro⟨l3,v⟩ z_ h hI hE;simp only[lZ,az,an,aq]at h;rcases h with⟨gq,x0,gu,ij,h⟩|⟨gq,h⟩
 ·exact gn 13 [4,7,62,63,64] [0,1,5] [bT gq,cE aa.enc gu,oO (Eq.refl ([x0.IK].map ax).length),aO ax ij] (hI h)
 ·exact gn 5 [4,7] [0,1,2] [bF gq] (hE h)
theorem Dy(Γ:bn)(rv:List Int){a known l l2}(h:sf a known l l2=some rv):nc Γ rv known ⟨[.c 63],⟨79,[vP 4 1 6,vO 7 2 1 l2 ax],[oM 151 known (mE aV.enc Lf.bool),oX 6 59 (aw.enc a),oS 1 33 l2 ax]⟩⟩:=by
 simp only[sf,az,an,aq]at h;obtain⟨r3,dN,l4,kH,h⟩:=h;refine gn 5 [4,7,62,63,64] [0,1,2] [cC (AD dN),nL aa.enc r3] (OH Γ rv kH ?_);obtain⟨r4,nk,pc,h⟩:=h;cases h;exact gr 2 [0] [cC (Hq nk),aO ax pc,hW 1,hH (.kX 3),rp 2 (oO (Eq.refl ((l4++r4).map ax).length))]
theorem Dx(Γ:bn)(rv:List Int){a known l l1}(h:pZ a known l l1=some rv):nc Γ rv known ⟨[.c 31],⟨79,[(2,one (.mp 0)),vP 4 1 6,vO 7 2 1 l1 ax],[oM 151 known (mE aV.enc Lf.bool),oX 6 59 (aw.enc a),oS 1 33 l1 ax]⟩⟩:=by
 simp only[pZ,az,an,aq]at h;rcases h with⟨r2,h7,⟨h8,h9,h⟩|⟨h8,h⟩⟩
 ·exact gn 5 [4,7] [0,1,4] [cC (mY h7),mG aV.kq Lf.bool known r2 false,bT h8,oO (Eq.refl ([6].map ax).length),aO ax h9] (Dy Γ rv h)
 ·exact gn 5 [4,7] [0,1,2] [cC (mY h7),mG aV.kq Lf.bool known r2 false,bF h8] (Dy Γ rv h)
theorem Dw(Γ:bn)(rv:List Int){a known l}(h:se a known l=some rv):nc Γ rv known ⟨[.c 15],⟨79,[(2,one (.mp 0)),vP 4 1 6,vO 7 2 1 l ax],[oM 151 known (mE aV.enc Lf.bool),oX 6 59 (aw.enc a),oS 1 33 l ax]⟩⟩:=by
 simp only[se,az,an,aq]at h;rcases h with⟨h5,h6,h⟩|⟨h5,h⟩
 ·exact gn 5 [2,4,7] [0,1,4] [rp 18 hP,rp 2 (oI ((aT a.aj 0)=false)),oR True ((aT a.aj 0)=false),rp 2 (oI (((aT a.aj 0)||(cQ a.aj 7))=false)),oR True (((aT a.aj 0)||(cQ a.aj 7))=false),rp 2 (oI ((((aT a.aj 0)||(cQ a.aj 7))||(aT a.cT 0))=false)),oR True ((((aT a.aj 0)||(cQ a.aj 7))||(aT a.cT 0))=false),rp 4 (oI (((((aT a.aj 0)||(cQ a.aj 7))||(aT a.cT 0))||(cQ a.cT 10000))=false)),oR True (((((aT a.aj 0)||(cQ a.aj 7))||(aT a.cT 0))||(cQ a.cT 10000))=false),bT h5,oO (Eq.refl ([2].map ax).length),aO ax h6] (Dx Γ rv h)
 ·exact gn 5 [2,4,7] [0,1,2] [rp 18 hP,rp 2 (oI ((aT a.aj 0)=false)),oR True ((aT a.aj 0)=false),rp 2 (oI (((aT a.aj 0)||(cQ a.aj 7))=false)),oR True (((aT a.aj 0)||(cQ a.aj 7))=false),rp 2 (oI ((((aT a.aj 0)||(cQ a.aj 7))||(aT a.cT 0))=false)),oR True ((((aT a.aj 0)||(cQ a.aj 7))||(aT a.cT 0))=false),rp 4 (oI (((((aT a.aj 0)||(cQ a.aj 7))||(aT a.cT 0))||(cQ a.cT 10000))=false)),oR True (((((aT a.aj 0)||(cQ a.aj 7))||(aT a.cT 0))||(cQ a.cT 10000))=false),bF h5] (Dx Γ rv h)
theorem OJ(Γ:bn)(rv:List Int){a known r6}:∀⦃s:List Int×Int⦄ ⦃e:List Int⦄,aK (fun s=>Ch a known r6 s.1 s.2) s=some e→OI Γ rv a known r6 e→Qj Γ rv a known r6 s.1 s.2:=by
 refine bk ?_
 rintro⟨l7,v1⟩ z_ h hI hE;simp only[Ch,az,an,aq]at h;rcases h with⟨Jh,x1,MG,HG,h⟩|⟨Jh,h⟩
 ·exact gn 13 [4,7,62,63,64] [0,1,5] [bT Jh,cE aa.enc MG,oO (Eq.refl ([x1.IK].map ax).length),aO ax HG] (hI h)
 ·exact gn 5 [4,7] [0,1,2] [bF Jh] (hE h)
theorem DA(Γ:bn)(rv:List Int){a known l6}(h:yx a known l6=some rv):nc Γ rv known ⟨[.c 63],⟨79,[vP 4 1 6,vO 7 2 1 l6 ax],[oM 151 known (mE aV.enc Lf.bool),oX 6 59 (aw.enc a),oS 1 33 l6 ax]⟩⟩:=by
 simp only[yx,az,an,aq]at h;obtain⟨r6,PU,l8,Ve,h⟩:=h;refine gn 5 [4,7,62,63,64] [0,1,2] [cC (AD PU),nL aa.enc r6] (OJ Γ rv Ve ?_);obtain⟨r7,T2,YP,h⟩:=h;cases h;exact gr 2 [0] [cC (Hq T2),aO ax YP,hW 1,hH (.kX 3),rp 2 (oO (Eq.refl ((l8++r7).map ax).length))]
theorem Dz(Γ:bn)(rv:List Int){a known l5}(h:uR a known l5=some rv):nc Γ rv known ⟨[.c 31],⟨79,[(2,one (.mp 0)),vP 4 1 6,vO 7 2 1 l5 ax],[oM 151 known (mE aV.enc Lf.bool),oX 6 59 (aw.enc a),oS 1 33 l5 ax]⟩⟩:=by
 simp only[uR,az,an,aq]at h;rcases h with⟨r5,va,⟨BQ,Et,h⟩|⟨BQ,h⟩⟩
 ·exact gn 5 [4,7] [0,1,4] [cC (mY va),mG aV.kq Lf.bool known r5 false,bT BQ,oO (Eq.refl ([6].map ax).length),aO ax Et] (DA Γ rv h)
 ·exact gn 5 [4,7] [0,1,2] [cC (mY va),mG aV.kq Lf.bool known r5 false,bF BQ] (DA Γ rv h)
theorem Tf{n a known}{rv:List Int}(h:Ag n a known=some rv):dF prog 115 [.agg (ak.enc n),.agg (aw.enc a),.one (.mp 0)] [bM 151 known (mE aV.enc Lf.bool)] (one (lL 1 rv ax)) [oM 151 known (mE aV.enc Lf.bool)]:=by
 refine aU func115 fun Γ=>?_
 simp only[Ag,az,an,aq]at h;rcases h with⟨r,h0,⟨h1,r1,h2,⟨h3,h⟩|⟨h3,h4,h⟩⟩|⟨h1,sG,⟨ti,vF,h⟩|⟨ti,h⟩⟩⟩
 ·exact gn 9 [2,4,7] [0,2,3] [cC (cz h0),rp 4 (nF h1),cC (cz h2),nF h1,nF h1,nF h3,hW 1,hH (.lP 7 1 33)] (Dw Γ rv h)
 ·exact gn 9 [2,4,7] [0,2,4] [cC (cz h0),rp 4 (nF h1),cC (cz h2),nF h1,nF h1,nT h3,oO (Eq.refl ([11].map ax).length),aN (l:=([11]:List Int)) ax h4] (Dw Γ rv h)
 ·exact gn 14 [2,4,7] [0,2,6] [cC (cz h0),rp 6 (nT h1),tT,oO (Eq.refl ([11].map ax).length),aN (l:=([11]:List Int)) ax sG,rp 18 hP,rp 2 (oI ((aT a.aj 0)=false)),oR True ((aT a.aj 0)=false),rp 2 (oI (((aT a.aj 0)||(cQ a.aj 7))=false)),oR True (((aT a.aj 0)||(cQ a.aj 7))=false),rp 2 (oI ((((aT a.aj 0)||(cQ a.aj 7))||(aT a.cT 0))=false)),oR True ((((aT a.aj 0)||(cQ a.aj 7))||(aT a.cT 0))=false),rp 4 (oI (((((aT a.aj 0)||(cQ a.aj 7))||(aT a.cT 0))||(cQ a.cT 10000))=false)),oR True (((((aT a.aj 0)||(cQ a.aj 7))||(aT a.cT 0))||(cQ a.cT 10000))=false),bT ti,oO (Eq.refl ([2].map ax).length),aO ax vF] (Dz Γ rv h)
 ·exact gn 14 [2,4,7] [0,2,4] [cC (cz h0),rp 6 (nT h1),tT,oO (Eq.refl ([11].map ax).length),aN (l:=([11]:List Int)) ax sG,rp 18 hP,rp 2 (oI ((aT a.aj 0)=false)),oR True ((aT a.aj 0)=false),rp 2 (oI (((aT a.aj 0)||(cQ a.aj 7))=false)),oR True (((aT a.aj 0)||(cQ a.aj 7))=false),rp 2 (oI ((((aT a.aj 0)||(cQ a.aj 7))||(aT a.cT 0))=false)),oR True ((((aT a.aj 0)||(cQ a.aj 7))||(aT a.cT 0))=false),rp 4 (oI (((((aT a.aj 0)||(cQ a.aj 7))||(aT a.cT 0))||(cQ a.cT 10000))=false)),oR True (((((aT a.aj 0)||(cQ a.aj 7))||(aT a.cT 0))||(cQ a.cT 10000))=false),bF ti] (Dz Γ rv h)
def kM(Γ:bn)(rv:List aa)(cf:Cf):Prop:=Go prog f78 [] Γ (one (lL 2 rv aa.enc)) [] cf
def Cg(Γ:bn)(rv:List aa)(n:ak)(l l1:List aa)(l2:List (ByteArray×Bool))(v:Int):Prop:=kM Γ rv ⟨[.c 500,.l 500,.b 0,.c 63],⟨94,[vP 1 0 2,vO 3 1 2 l1 aa.enc,(4,one (.mp 2)),vL 23 1 n.aD dC,vI 24 (aC n.aD),vI 25 v],[oX 2 25 (ak.enc n),oS 2 104 l1 aa.enc,oM 150 l2 (mE kS Lf.bool)]⟩⟩
def A5(Γ:bn)(rv:List aa)(n:ak)(l l4:List aa):Prop:=kM Γ rv ⟨[.c 63],⟨94,[vP 1 0 2,vO 3 1 2 l4 aa.enc],[oX 2 25 (ak.enc n),oS 2 104 l4 aa.enc]⟩⟩
def MP(Γ:bn)(rv:List aa)(n:ak)(l:List aa)(l7:List (aV×Bool))(v1:Int)(x1:aw)(r2:List Int)(l8:List aa)(v2:Int):Prop:=kM Γ rv ⟨[.c 2091412,.l 2091412,.b 5,.c 261427,.b 4,.c 32679,.l 4084,.b 3,.c 511],⟨94,[vP 1 0 2,vO 3 1 2 l8 aa.enc,(8,one (.mp 2)),vI 9 v1,vP 10 3 6,vL 64 6 n.bj aw.enc,vI 65 (aC n.bj),vI 66 v1,vL 74 1 r2 ax,vI 75 (aC r2),vI 76 v2],[oX 2 25 (ak.enc n),oS 2 104 l8 aa.enc,oM 151 l7 (mE aV.enc Lf.bool),oX 6 59 (aw.enc x1)]⟩⟩
def LA(Γ:bn)(rv:List aa)(n:ak)(l:List aa)(l7:List (aV×Bool))(v1:Int)(x1:aw)(r2:List Int)(l9:List aa):Prop:=kM Γ rv ⟨[.c 261427,.b 4,.c 32679,.l 4084,.b 3,.c 511],⟨94,[vP 1 0 2,vO 3 1 2 l9 aa.enc,(8,one (.mp 2)),vP 10 3 6,vL 64 6 n.bj aw.enc,vI 65 (aC n.bj),vI 66 v1],[oX 2 25 (ak.enc n),oS 2 104 l9 aa.enc,oM 151 l7 (mE aV.enc Lf.bool),oX 6 59 (aw.enc x1)]⟩⟩
def MO(Γ:bn)(rv:List aa)(n:ak)(l l6:List aa)(l7:List (aV×Bool))(v1:Int):Prop:=kM Γ rv ⟨[.c 4084,.l 4084,.b 3,.c 511],⟨94,[vP 1 0 2,vO 3 1 2 l6 aa.enc,(8,one (.mp 2)),vL 64 6 n.bj aw.enc,vI 65 (aC n.bj),vI 66 v1],[oX 2 25 (ak.enc n),oS 2 104 l6 aa.enc,oM 151 l7 (mE aV.enc Lf.bool)]⟩⟩
def Ly(Γ:bn)(rv:List aa)(n:ak)(l P9:List aa):Prop:=kM Γ rv ⟨[.c 511],⟨94,[vO 3 0 2 P9 aa.enc],[oS 2 104 P9 aa.enc]⟩⟩
theorem v5(Γ:bn)(rv:List aa){n l l2 v x0 l3}{x:(List aa×List (ByteArray×Bool)×Int)⊕(List aa)}(h:po n l l2 v x0 l3=some x)(hI:∀⦃s:List aa×List (ByteArray×Bool)×Int⦄,some (.inl s)=some x→Cg Γ rv n l s.1 s.2.1 s.2.2)(hE:∀⦃e:List aa⦄,some (.inr e)=some x→A5 Γ rv n l e):kM Γ rv ⟨[.b 2,.c 64103,.b 1,.c 4007,.l 500,.b 0,.c 63],⟨94,[vP 1 0 2,vO 3 1 2 l3 aa.enc,(4,one (.mp 2)),vS 6 x0,vL 23 1 n.aD dC,vI 24 (aC n.aD),vI 25 v],[oX 2 25 (ak.enc n),oS 2 104 l3 aa.enc,oM 150 l2 (mE kS Lf.bool)]⟩⟩:=by
 simp only[po,az,an,aq]at h;exact gn 5 [1,3,4,23,24,25] [0,1,2] [mU kqS Lf.bool l2 x0 true] (hI h)
theorem Lx(Γ:bn)(rv:List aa){n l}:∀⦃s:List aa×List (ByteArray×Bool)×Int⦄ ⦃e:List aa⦄,aK (fun s=>jQ n l s.1 s.2.1 s.2.2) s=some e→A5 Γ rv n l e→Cg Γ rv n l s.1 s.2.1 s.2.2:=by
 refine bk ?_
 rintro⟨l1,l2,v⟩ z_ h hI hE;simp only[jQ,az,an,aq]at h;rcases h with⟨h2,x0,h3,r,h4,h5,r1,h6,⟨h7,⟨h8,h9,h⟩|⟨h8,h⟩⟩|⟨h7,dN,h⟩⟩|⟨h2,h⟩
 ·exact gn 20 [1,3,4,6,23,24,25] [0,4,2] [bT h2,cE dC h3,cC (qx h4),oO (h5),cC (eA h6),nF h7,mG kqS Lf.bool l2 x0 false,bT h8,oO (Eq.refl ([(aa.mk 6 (cM e7 r))].map aa.enc).length),aO aa.enc h9] (v5 Γ rv h hI hE)
 ·exact gn 20 [1,3,4,6,23,24,25] [0,1,2] [bT h2,cE dC h3,cC (qx h4),oO (h5),cC (eA h6),nF h7,mG kqS Lf.bool l2 x0 false,bF h8] (v5 Γ rv h hI hE)
 ·exact gn 17 [1,3,4,6,23,24,25] [0,4,2] [bT h2,cE dC h3,cC (qx h4),oO (h5),cC (eA h6),nT h7,oO (Eq.refl ([(aa.mk 5 (cM e7 r))].map aa.enc).length),aO aa.enc dN] (v5 Γ rv h hI hE)
 ·exact gn 5 [1,3] [0,1] [bF h2] (hE h)
theorem LB(Γ:bn)(rv:List aa){n l l7 v1 x1 r2}:∀⦃s:List aa×Int⦄ ⦃e:List aa⦄,aK (fun s=>jS n l l7 v1 x1 r2 s.1 s.2) s=some e→LA Γ rv n l l7 v1 x1 r2 e→MP Γ rv n l l7 v1 x1 r2 s.1 s.2:=by
 refine bk ?_
 rintro⟨l8,v2⟩ z_ h hI hE;simp only[jS,az,an,aq]at h;rcases h with⟨sG,x2,ti,r3,vF,va,BQ,h⟩|⟨sG,h⟩
 ·exact gn 13 [1,3,8,9,10,64,65,66,74,75,76] [0,5,2,3] [bT sG,cE ax ti,cC (qx vF),oO (va),oO (Eq.refl ([(aa.mk x2 (cM ct r3))].map aa.enc).length),aO aa.enc BQ] (hI h)
 ·exact gn 5 [1,3,8,10,64,65,66] [0,1,2,3] [bF sG] (hE h)
theorem Lz(Γ:bn)(rv:List aa){n l}:∀⦃s:List aa×List (aV×Bool)×Int⦄ ⦃e:List aa⦄,aK (fun s=>jR n l s.1 s.2.1 s.2.2) s=some e→Ly Γ rv n l e→MO Γ rv n l s.1 s.2.1 s.2.2:=by
 refine bk ?_
 rintro⟨l6,l7,v1⟩ z_ h hI hE;simp only[jR,az,an,aq]at h;rcases h with⟨kH,x1,nk,r2,pc,l9,Et,h⟩|⟨kH,h⟩
 ·refine gn 14 [1,3,8,9,10,64,65,66,74,75,76] [0,1,2,3] [bT kH,cE aw.enc nk,cI [2] (Tf pc),nL ax r2] (LB Γ rv Et ?_);obtain⟨r4,PU,h⟩:=h;exact gn 4 [1,3,8,64,65,66] [0,1,2] [cC (mY PU),mU aV.kq Lf.bool l7 r4 true] (hI h)
 ·exact gn 5 [3] [1] [bF kH] (hE h)
theorem A4(Γ:bn)(rv:List aa){n l l5}(h:pq n l l5=some rv):kM Γ rv ⟨[.c 127],⟨94,[vP 1 0 2,vO 3 1 2 l5 aa.enc],[oX 2 25 (ak.enc n),oS 2 104 l5 aa.enc]⟩⟩:=by
 simp only[pq,az,an,aq]at h;obtain⟨P9,Jh,h⟩:=h;refine gn 7 [1,3,8,64,65,66] [0,1,2] [nL aw.enc n.bj] (Lz Γ rv Jh ?_);obtain rfl:=oK h;exact gr 2 [] [hW 4,hH (.kX 0),rp 3 (eL P9 aa.enc)]
theorem A3(Γ:bn)(rv:List aa){n l}(h:pn n l=some rv):kM Γ rv ⟨[.c 15],⟨94,[vP 1 0 2,vO 3 1 2 l aa.enc],[oX 2 25 (ak.enc n),oS 2 104 l aa.enc]⟩⟩:=by
 simp only[pn,az,an,aq]at h;obtain⟨l4,gq,h⟩:=h;refine gn 7 [1,3,4,23,24,25] [0,1,2] [nL dC n.aD] (Lx Γ rv gq ?_);rcases h with⟨gu,ij,h⟩|⟨gu,h⟩
 ·exact gn 5 [1,3] [0,3] [nL aw.enc n.bj,bT gu,oO (Eq.refl ([(aa.mk 4 qZ)].map aa.enc).length),aO aa.enc ij] (A4 Γ rv h)
 ·exact gn 5 [1,3] [0,1] [nL aw.enc n.bj,bF gu] (A4 Γ rv h)
theorem Qh{n}{rv:List aa}(h:wm n=some rv):dF prog 78 [.agg (ak.enc n)] [] (one (lL 2 rv aa.enc)) []:=by
 refine aU func78 fun Γ=>?_
 simp only[wm,az,an,aq]at h;rcases h with⟨h0,h1,h⟩|⟨h0,h⟩
 ·exact gn 9 [1,3] [0,2] [nL dC n.aD,bT h0,oO (Eq.refl ([(aa.mk 4 iy)].map aa.enc).length),aN (l:=([(aa.mk 4 iy)]:List aa)) aa.enc h1] (A3 Γ rv h)
 ·exact gn 9 [1,3] [0,1] [nL dC n.aD,bF h0,hW 1,hH (.lP 3 2 104)] (A3 Γ rv h)
theorem aA{n least C5}{rv:Bool}(h:cN n least C5=some rv):dF prog 117 [.one (lI n),.one (lI least),.one (lI C5)] [] (one (.bool rv)) []:=by
 refine aU func117 fun Γ=>?_
 simp only[cN,az,an,aq]at h;cases h;exact gr 4 [] [rp 4 hP,rp 2 (oI ((bZ n least)=true)),oR True ((bZ n least)=true)]
theorem AJ{n}{rv:Bool}(h:u9 n=some rv):dF prog 182 [.one (lI n)] [] (one (.bool rv)) []:=by
 refine aU func182 fun Γ=>?_
 simp only[u9,az,an,aq]at h;obtain⟨r,h0,h⟩:=h;cases h;exact gr 4 [] [cC (aA h0)]
def mL(Γ:bn)(rv:Int)(cf:Cf):Prop:=Go prog f208 [] Γ (one (lI rv)) [] cf
def sJ(Γ:bn)(rv:Int)(s0:List Int)(v:Int):Prop:=mL Γ rv ⟨[.c 52,.l 52,.b 0,.c 7],⟨19,[vL 0 1 s0 ax,(1,one (.fn (.func 182) [])),vI 7 (aC s0),vI 8 v],[]⟩⟩
def sC(Γ:bn)(rv:Int)(s0:List Int):Prop:=mL Γ rv ⟨[.c 7],⟨19,[],[]⟩⟩
theorem sD(Γ:bn)(rv:Int){s0}:∀⦃s:Int⦄ ⦃e:(Unit)⊕(Int)⦄,aK (fun s=>cS s0 s) s=some e→jf e (fun e=>sC Γ rv s0) (fun e=>e=rv)→sJ Γ rv s0 s:=by
 refine bk ?_
 intro v z_ h hI hE;simp only[cS,az,an,aq]at h;rcases h with⟨h0,x0,h1,r,h2,⟨h3,h⟩|⟨h3,h⟩⟩|⟨h0,h⟩
 ·obtain rfl:=(hE h:_=rv);exact gr 14 [] [bT h0,cE ax h1,cC (AJ h2),bT h3]
 ·exact gn 16 [0,1,7,8] [] [bT h0,cE ax h1,cC (AJ h2),bF h3] (hI h)
 ·exact gn 5 [] [] [bF h0] (hE h)
theorem tO{s0}{rv:Int}(h:gp s0=some rv):dF prog 208 [.one (lL 1 s0 ax),.one (.fn (.func 182) [])] [] (one (lI rv)) []:=by
 refine aU func208 fun Γ=>?_
 simp only[gp,az,an,aq]at h;obtain⟨e0,h4,h⟩:=h;refine gn 7 [0,1,7,8] [] [nL ax s0] (sD Γ rv h4 ?_);rcases e0 with e0|r1
 ·cases h;exact gr 2 [] []
 ·exact oK h
theorem sw{s0}{rv:Bool}(h:eG s0=some rv):dF prog 181 [.one (lL 1 s0 ax),.one (.fn (.func 182) [])] [] (one (.bool rv)) []:=by
 refine aU func181 fun Γ=>?_
 simp only[eG,az,an,aq]at h;obtain⟨r,h0,h⟩:=h;cases h;exact gr 4 [] [cC (tO h0)]
theorem dR{l xD}{rv:Bool}(h:rN l xD=some rv):dF prog 153 [.one (lL 1 l ax),.one (lL 1 xD ax)] [] (one (.bool rv)) []:=by
 refine aU func153 fun Γ=>?_
 simp only[rN,az,an,aq]at h;rcases h with⟨r,h0,⟨h1,h⟩|⟨h1,r1,h2,h⟩⟩
 ·obtain rfl:=oK h;exact gr 8 [] [nL ax l,cC (aA h0),hP,hP,oI ((!r)=false),nL ax l,hP,hP,oI ((!r)=false),nL ax xD,hP,hP,rp 2 (oI ((!r)=false)),oR True ((!r)=false),bT h1]
 ·cases h;exact gr 9 [] [nL ax l,cC (aA h0),hP,hP,oI ((!r)=false),nL ax l,hP,hP,oI ((!r)=false),nL ax xD,hP,hP,rp 2 (oI ((!r)=false)),oR True ((!r)=false),bF h1,cC (sw h2)]
theorem av{right e0 c}{rv:List Int}(h:bO right e0 c=some rv):dF prog 151 [.one (.bool right),.one (lI e0),.one (.op 0 1 0 0)] [bX 1 107 [lO 1 1 c ax],bS 1 33 c ax] (.o5 []) [oX 1 107 [lO 1 1 rv ax],oS 1 33 rv ax]:=by
 refine aU func151 fun Γ=>?_
 simp only[bO,az,an,aq]at h;rcases h with⟨h0,h⟩|⟨h0,h1,h⟩
 ·obtain rfl:=oK h;exact gr 4 [0,1] [nF h0]
 ·cases h;exact gr 4 [0,3] [nT h0,oO (Eq.refl ([e0].map ax).length),aO ax h1]
theorem Df{x0 c}{rv:Bool}(h:xF x0 c=some rv):dF prog 152 [.agg (ag.enc x0),.one (.ip (ag.enc c) 0)] [] (one (.bool rv)) []:=by
 refine aU func152 fun Γ=>?_
 simp only[xF,az,an,aq]at h;cases h;exact gr 4 [] []
def jV(Γ:bn)(rv:Int)(cf:Cf):Prop:=Go prog f124 [] Γ (one (lI rv)) [] cf
def py(Γ:bn)(rv:Int)(s0:List ag)(c:ag)(v:Int):Prop:=jV Γ rv ⟨[.c 52,.l 52,.b 0,.c 7],⟨19,[vL 0 14 s0 ag.enc,(1,one (.fn (.func 152) [.ip (ag.enc c) 0])),vI 7 (aC s0),vI 8 v],[]⟩⟩
def oV(Γ:bn)(rv:Int)(s0:List ag)(c:ag):Prop:=jV Γ rv ⟨[.c 7],⟨19,[],[]⟩⟩
theorem oW(Γ:bn)(rv:Int){s0 c}:∀⦃s:Int⦄ ⦃e:(Unit)⊕(Int)⦄,aK (fun s=>cu s0 c s) s=some e→jf e (fun e=>oV Γ rv s0 c) (fun e=>e=rv)→py Γ rv s0 c s:=by
 refine bk ?_
 intro v z_ h hI hE;simp only[cu,az,an,aq]at h;rcases h with⟨h0,x0,h1,r,h2,⟨h3,h⟩|⟨h3,h⟩⟩|⟨h0,h⟩
 ·obtain rfl:=(hE h:_=rv);exact gr 14 [] [bT h0,cE ag.enc h1,cC (Df h2),bT h3]
 ·exact gn 16 [0,1,7,8] [] [bT h0,cE ag.enc h1,cC (Df h2),bF h3] (hI h)
 ·exact gn 5 [] [] [bF h0] (hE h)
theorem qg{s0 c}{rv:Int}(h:e9 s0 c=some rv):dF prog 124 [.one (lL 14 s0 ag.enc),.one (.fn (.func 152) [.ip (ag.enc c) 0])] [] (one (lI rv)) []:=by
 refine aU func124 fun Γ=>?_
 simp only[e9,az,an,aq]at h;obtain⟨e0,h4,h⟩:=h;refine gn 7 [0,1,7,8] [] [nL ag.enc s0] (oW Γ rv h4 ?_);rcases e0 with e0|r1
 ·cases h;exact gr 2 [] []
 ·exact oK h
theorem a0{s0 c}{rv:Bool}(h:dw s0 c=some rv):dF prog 86 [.one (lL 14 s0 ag.enc),.one (.fn (.func 152) [.ip (ag.enc c) 0])] [] (one (.bool rv)) []:=by
 refine aU func86 fun Γ=>?_
 simp only[dw,az,an,aq]at h;obtain⟨r,h0,h⟩:=h;cases h;exact gr 4 [] [cC (qg h0)]
theorem Rt{n l i}{rv:List Int}(h:xE n l i=some rv):dF prog 118 [.agg (ak.enc n),.one (lL 14 l ag.enc),.one (lI i)] [] (one (lL 1 rv ax)) []:=by
 refine aU func118 fun Γ=>?_
 simp only[xE,az,an,aq]at h;rcases h with⟨x0,h0,r,h1,r1,h2,l1,h3,r2,h4,r3,h5,r4,h6,r5,h7,r6,h8,⟨h9,r7,dN,r8,gq,x1,gu,r9,ij,Xf,kH,Ft,nk,XY,pc,Qp,sG,r14,ti,LD,vF,⟨va,r16,BQ,r17,Et,r18,PU,⟨Jh,J5,MG,⟨HG,r20,Ve,⟨T2,r21,YP,r22,YQ,h⟩|⟨T2,r23,Ul,h⟩⟩|⟨HG,r24,h32,h⟩⟩|⟨Jh,r25,h33,h⟩⟩|⟨va,r26,h34,r27,YR,⟨h36,r28,h37,⟨YS,r29,h39,⟨h40,r30,h41,r31,h42,h⟩|⟨h40,r32,h43,h⟩⟩|⟨YS,r33,ZW,h⟩⟩|⟨h36,r34,h45,h⟩⟩⟩|⟨h9,r35,T3,x2,Vf,r36,XM,r37,h49,r38,ZX,r39,h51,XZ,h52,r41,XN,r42,h54,⟨Um,r43,h56,r44,h57,r45,h58,⟨h59,r46,h60,⟨h61,r47,h62,⟨Vg,r48,h64,r49,h65,h⟩|⟨Vg,r50,h66,h⟩⟩|⟨h61,r51,ZY,h⟩⟩|⟨h59,r52,h68,h⟩⟩|⟨Um,r53,h69,r54,h70,⟨h71,r55,h72,⟨h73,r56,h74,⟨h75,r57,h76,r58,h77,h⟩|⟨h75,r59,h78,h⟩⟩|⟨h73,r60,h79,h⟩⟩|⟨h71,r61,h80,h⟩⟩⟩⟩
 ·obtain rfl:=oK h;exact gr 30 [] [cE ag.enc h0,nL dC n.aD,cC (eA h1),hH (.nN 1 0 1 33),cI [1,3] (av h2),hH (.rows (l1.map ag.enc)),oO (Px h3),oO (Py h3),oO (Ap ag.enc h3),oO (Int.le_refl i),oO (Ap ag.enc h3),oO (Pz ag.enc h3),cC (a0 h4),cI [1,4] (av h5),cC (aA h6),cI [1,5] (av h7),cC (aA h8),rp 4 (bT h9),cC (aA dN),bT h9,cI [1,6] (av gq),hH (.draw 9 [(1,8),(7,8)]),cE ag.enc gu,cC (dR ij),cI [1,7] (av kH),cC (aA nk),cI [1,8] (av pc),cC (aA sG),rp 4 hP,rp 2 (oI (Qp=true)),oR True (Qp=true),cI [1,9] (av ti),cC (aA vF),rp 3 (bT va),cC (aA BQ),bT va,cI [1,10] (av Et),cC (aA PU),rp 3 (bT Jh),cC (aA MG),bT Jh,rp 3 (bT HG),cC (aA Ve),bT HG,rp 3 (bT T2),cC (aA YP),bT T2,cI [1,11] (av YQ),hW 4,hH (.kX 12),rp 3 (eL r22 ax)]
 ·obtain rfl:=oK h;exact gr 30 [] [cE ag.enc h0,nL dC n.aD,cC (eA h1),hH (.nN 1 0 1 33),cI [1,3] (av h2),hH (.rows (l1.map ag.enc)),oO (Px h3),oO (Py h3),oO (Ap ag.enc h3),oO (Int.le_refl i),oO (Ap ag.enc h3),oO (Pz ag.enc h3),cC (a0 h4),cI [1,4] (av h5),cC (aA h6),cI [1,5] (av h7),cC (aA h8),rp 4 (bT h9),cC (aA dN),bT h9,cI [1,6] (av gq),hH (.draw 9 [(1,8),(7,8)]),cE ag.enc gu,cC (dR ij),cI [1,7] (av kH),cC (aA nk),cI [1,8] (av pc),cC (aA sG),rp 4 hP,rp 2 (oI (Qp=true)),oR True (Qp=true),cI [1,9] (av ti),cC (aA vF),rp 3 (bT va),cC (aA BQ),bT va,cI [1,10] (av Et),cC (aA PU),rp 3 (bT Jh),cC (aA MG),bT Jh,rp 3 (bT HG),cC (aA Ve),bT HG,rp 4 (bF T2),cI [1,11] (av Ul),hW 4,hH (.kX 12),rp 3 (eL r23 ax)]
 ·obtain rfl:=oK h;exact gr 30 [] [cE ag.enc h0,nL dC n.aD,cC (eA h1),hH (.nN 1 0 1 33),cI [1,3] (av h2),hH (.rows (l1.map ag.enc)),oO (Px h3),oO (Py h3),oO (Ap ag.enc h3),oO (Int.le_refl i),oO (Ap ag.enc h3),oO (Pz ag.enc h3),cC (a0 h4),cI [1,4] (av h5),cC (aA h6),cI [1,5] (av h7),cC (aA h8),rp 4 (bT h9),cC (aA dN),bT h9,cI [1,6] (av gq),hH (.draw 9 [(1,8),(7,8)]),cE ag.enc gu,cC (dR ij),cI [1,7] (av kH),cC (aA nk),cI [1,8] (av pc),cC (aA sG),rp 4 hP,rp 2 (oI (Qp=true)),oR True (Qp=true),cI [1,9] (av ti),cC (aA vF),rp 3 (bT va),cC (aA BQ),bT va,cI [1,10] (av Et),cC (aA PU),rp 3 (bT Jh),cC (aA MG),bT Jh,rp 4 (bF HG),rp 4 fF,cI [1,11] (av h32),hW 4,hH (.kX 12),rp 3 (eL r24 ax)]
 ·obtain rfl:=oK h;exact gr 30 [] [cE ag.enc h0,nL dC n.aD,cC (eA h1),hH (.nN 1 0 1 33),cI [1,3] (av h2),hH (.rows (l1.map ag.enc)),oO (Px h3),oO (Py h3),oO (Ap ag.enc h3),oO (Int.le_refl i),oO (Ap ag.enc h3),oO (Pz ag.enc h3),cC (a0 h4),cI [1,4] (av h5),cC (aA h6),cI [1,5] (av h7),cC (aA h8),rp 4 (bT h9),cC (aA dN),bT h9,cI [1,6] (av gq),hH (.draw 9 [(1,8),(7,8)]),cE ag.enc gu,cC (dR ij),cI [1,7] (av kH),cC (aA nk),cI [1,8] (av pc),cC (aA sG),rp 4 hP,rp 2 (oI (Qp=true)),oR True (Qp=true),cI [1,9] (av ti),cC (aA vF),rp 3 (bT va),cC (aA BQ),bT va,cI [1,10] (av Et),cC (aA PU),rp 4 (bF Jh),rp 8 fF,cI [1,11] (av h33),hW 4,hH (.kX 12),rp 3 (eL r25 ax)]
 ·obtain rfl:=oK h;exact gr 30 [] [cE ag.enc h0,nL dC n.aD,cC (eA h1),hH (.nN 1 0 1 33),cI [1,3] (av h2),hH (.rows (l1.map ag.enc)),oO (Px h3),oO (Py h3),oO (Ap ag.enc h3),oO (Int.le_refl i),oO (Ap ag.enc h3),oO (Pz ag.enc h3),cC (a0 h4),cI [1,4] (av h5),cC (aA h6),cI [1,5] (av h7),cC (aA h8),rp 4 (bT h9),cC (aA dN),bT h9,cI [1,6] (av gq),hH (.draw 9 [(1,8),(7,8)]),cE ag.enc gu,cC (dR ij),cI [1,7] (av kH),cC (aA nk),cI [1,8] (av pc),cC (aA sG),rp 4 hP,rp 2 (oI (Qp=true)),oR True (Qp=true),cI [1,9] (av ti),cC (aA vF),rp 4 (bF va),cI [1,10] (av h34),cC (aA YR),rp 3 (bT h36),cC (aA h37),bT h36,rp 3 (bT YS),cC (aA h39),bT YS,rp 3 (bT h40),cC (aA h41),bT h40,cI [1,11] (av h42),hW 4,hH (.kX 12),rp 3 (eL r31 ax)]
 ·obtain rfl:=oK h;exact gr 30 [] [cE ag.enc h0,nL dC n.aD,cC (eA h1),hH (.nN 1 0 1 33),cI [1,3] (av h2),hH (.rows (l1.map ag.enc)),oO (Px h3),oO (Py h3),oO (Ap ag.enc h3),oO (Int.le_refl i),oO (Ap ag.enc h3),oO (Pz ag.enc h3),cC (a0 h4),cI [1,4] (av h5),cC (aA h6),cI [1,5] (av h7),cC (aA h8),rp 4 (bT h9),cC (aA dN),bT h9,cI [1,6] (av gq),hH (.draw 9 [(1,8),(7,8)]),cE ag.enc gu,cC (dR ij),cI [1,7] (av kH),cC (aA nk),cI [1,8] (av pc),cC (aA sG),rp 4 hP,rp 2 (oI (Qp=true)),oR True (Qp=true),cI [1,9] (av ti),cC (aA vF),rp 4 (bF va),cI [1,10] (av h34),cC (aA YR),rp 3 (bT h36),cC (aA h37),bT h36,rp 3 (bT YS),cC (aA h39),bT YS,rp 4 (bF h40),cI [1,11] (av h43),hW 4,hH (.kX 12),rp 3 (eL r32 ax)]
 ·obtain rfl:=oK h;exact gr 30 [] [cE ag.enc h0,nL dC n.aD,cC (eA h1),hH (.nN 1 0 1 33),cI [1,3] (av h2),hH (.rows (l1.map ag.enc)),oO (Px h3),oO (Py h3),oO (Ap ag.enc h3),oO (Int.le_refl i),oO (Ap ag.enc h3),oO (Pz ag.enc h3),cC (a0 h4),cI [1,4] (av h5),cC (aA h6),cI [1,5] (av h7),cC (aA h8),rp 4 (bT h9),cC (aA dN),bT h9,cI [1,6] (av gq),hH (.draw 9 [(1,8),(7,8)]),cE ag.enc gu,cC (dR ij),cI [1,7] (av kH),cC (aA nk),cI [1,8] (av pc),cC (aA sG),rp 4 hP,rp 2 (oI (Qp=true)),oR True (Qp=true),cI [1,9] (av ti),cC (aA vF),rp 4 (bF va),cI [1,10] (av h34),cC (aA YR),rp 3 (bT h36),cC (aA h37),bT h36,rp 4 (bF YS),rp 4 fF,cI [1,11] (av ZW),hW 4,hH (.kX 12),rp 3 (eL r33 ax)]
 ·obtain rfl:=oK h;exact gr 30 [] [cE ag.enc h0,nL dC n.aD,cC (eA h1),hH (.nN 1 0 1 33),cI [1,3] (av h2),hH (.rows (l1.map ag.enc)),oO (Px h3),oO (Py h3),oO (Ap ag.enc h3),oO (Int.le_refl i),oO (Ap ag.enc h3),oO (Pz ag.enc h3),cC (a0 h4),cI [1,4] (av h5),cC (aA h6),cI [1,5] (av h7),cC (aA h8),rp 4 (bT h9),cC (aA dN),bT h9,cI [1,6] (av gq),hH (.draw 9 [(1,8),(7,8)]),cE ag.enc gu,cC (dR ij),cI [1,7] (av kH),cC (aA nk),cI [1,8] (av pc),cC (aA sG),rp 4 hP,rp 2 (oI (Qp=true)),oR True (Qp=true),cI [1,9] (av ti),cC (aA vF),rp 4 (bF va),cI [1,10] (av h34),cC (aA YR),rp 4 (bF h36),rp 8 fF,cI [1,11] (av h45),hW 4,hH (.kX 12),rp 3 (eL r34 ax)]
 ·obtain rfl:=oK h;exact gr 30 [] [cE ag.enc h0,nL dC n.aD,cC (eA h1),hH (.nN 1 0 1 33),cI [1,3] (av h2),hH (.rows (l1.map ag.enc)),oO (Px h3),oO (Py h3),oO (Ap ag.enc h3),oO (Int.le_refl i),oO (Ap ag.enc h3),oO (Pz ag.enc h3),cC (a0 h4),cI [1,4] (av h5),cC (aA h6),cI [1,5] (av h7),cC (aA h8),rp 5 (bF h9),cI [1,6] (av T3),hH (.draw 9 [(1,8),(7,8)]),cE ag.enc Vf,cC (dR XM),cI [1,7] (av h49),cC (aA ZX),cI [1,8] (av h51),cC (aA h52),rp 4 hP,rp 2 (oI (XZ=true)),oR True (XZ=true),cI [1,9] (av XN),cC (aA h54),rp 3 (bT Um),cC (aA h56),bT Um,cI [1,10] (av h57),cC (aA h58),rp 3 (bT h59),cC (aA h60),bT h59,rp 3 (bT h61),cC (aA h62),bT h61,rp 3 (bT Vg),cC (aA h64),bT Vg,cI [1,11] (av h65),hW 4,hH (.kX 12),rp 3 (eL r49 ax)]
 ·obtain rfl:=oK h;exact gr 30 [] [cE ag.enc h0,nL dC n.aD,cC (eA h1),hH (.nN 1 0 1 33),cI [1,3] (av h2),hH (.rows (l1.map ag.enc)),oO (Px h3),oO (Py h3),oO (Ap ag.enc h3),oO (Int.le_refl i),oO (Ap ag.enc h3),oO (Pz ag.enc h3),cC (a0 h4),cI [1,4] (av h5),cC (aA h6),cI [1,5] (av h7),cC (aA h8),rp 5 (bF h9),cI [1,6] (av T3),hH (.draw 9 [(1,8),(7,8)]),cE ag.enc Vf,cC (dR XM),cI [1,7] (av h49),cC (aA ZX),cI [1,8] (av h51),cC (aA h52),rp 4 hP,rp 2 (oI (XZ=true)),oR True (XZ=true),cI [1,9] (av XN),cC (aA h54),rp 3 (bT Um),cC (aA h56),bT Um,cI [1,10] (av h57),cC (aA h58),rp 3 (bT h59),cC (aA h60),bT h59,rp 3 (bT h61),cC (aA h62),bT h61,rp 4 (bF Vg),cI [1,11] (av h66),hW 4,hH (.kX 12),rp 3 (eL r50 ax)]
 ·obtain rfl:=oK h;exact gr 30 [] [cE ag.enc h0,nL dC n.aD,cC (eA h1),hH (.nN 1 0 1 33),cI [1,3] (av h2),hH (.rows (l1.map ag.enc)),oO (Px h3),oO (Py h3),oO (Ap ag.enc h3),oO (Int.le_refl i),oO (Ap ag.enc h3),oO (Pz ag.enc h3),cC (a0 h4),cI [1,4] (av h5),cC (aA h6),cI [1,5] (av h7),cC (aA h8),rp 5 (bF h9),cI [1,6] (av T3),hH (.draw 9 [(1,8),(7,8)]),cE ag.enc Vf,cC (dR XM),cI [1,7] (av h49),cC (aA ZX),cI [1,8] (av h51),cC (aA h52),rp 4 hP,rp 2 (oI (XZ=true)),oR True (XZ=true),cI [1,9] (av XN),cC (aA h54),rp 3 (bT Um),cC (aA h56),bT Um,cI [1,10] (av h57),cC (aA h58),rp 3 (bT h59),cC (aA h60),bT h59,rp 4 (bF h61),rp 4 fF,cI [1,11] (av ZY),hW 4,hH (.kX 12),rp 3 (eL r51 ax)]
 ·obtain rfl:=oK h;exact gr 30 [] [cE ag.enc h0,nL dC n.aD,cC (eA h1),hH (.nN 1 0 1 33),cI [1,3] (av h2),hH (.rows (l1.map ag.enc)),oO (Px h3),oO (Py h3),oO (Ap ag.enc h3),oO (Int.le_refl i),oO (Ap ag.enc h3),oO (Pz ag.enc h3),cC (a0 h4),cI [1,4] (av h5),cC (aA h6),cI [1,5] (av h7),cC (aA h8),rp 5 (bF h9),cI [1,6] (av T3),hH (.draw 9 [(1,8),(7,8)]),cE ag.enc Vf,cC (dR XM),cI [1,7] (av h49),cC (aA ZX),cI [1,8] (av h51),cC (aA h52),rp 4 hP,rp 2 (oI (XZ=true)),oR True (XZ=true),cI [1,9] (av XN),cC (aA h54),rp 3 (bT Um),cC (aA h56),bT Um,cI [1,10] (av h57),cC (aA h58),rp 4 (bF h59),rp 8 fF,cI [1,11] (av h68),hW 4,hH (.kX 12),rp 3 (eL r52 ax)]
 ·obtain rfl:=oK h;exact gr 30 [] [cE ag.enc h0,nL dC n.aD,cC (eA h1),hH (.nN 1 0 1 33),cI [1,3] (av h2),hH (.rows (l1.map ag.enc)),oO (Px h3),oO (Py h3),oO (Ap ag.enc h3),oO (Int.le_refl i),oO (Ap ag.enc h3),oO (Pz ag.enc h3),cC (a0 h4),cI [1,4] (av h5),cC (aA h6),cI [1,5] (av h7),cC (aA h8),rp 5 (bF h9),cI [1,6] (av T3),hH (.draw 9 [(1,8),(7,8)]),cE ag.enc Vf,cC (dR XM),cI [1,7] (av h49),cC (aA ZX),cI [1,8] (av h51),cC (aA h52),rp 4 hP,rp 2 (oI (XZ=true)),oR True (XZ=true),cI [1,9] (av XN),cC (aA h54),rp 4 (bF Um),cI [1,10] (av h69),cC (aA h70),rp 3 (bT h71),cC (aA h72),bT h71,rp 3 (bT h73),cC (aA h74),bT h73,rp 3 (bT h75),cC (aA h76),bT h75,cI [1,11] (av h77),hW 4,hH (.kX 12),rp 3 (eL r58 ax)]
 ·obtain rfl:=oK h;exact gr 30 [] [cE ag.enc h0,nL dC n.aD,cC (eA h1),hH (.nN 1 0 1 33),cI [1,3] (av h2),hH (.rows (l1.map ag.enc)),oO (Px h3),oO (Py h3),oO (Ap ag.enc h3),oO (Int.le_refl i),oO (Ap ag.enc h3),oO (Pz ag.enc h3),cC (a0 h4),cI [1,4] (av h5),cC (aA h6),cI [1,5] (av h7),cC (aA h8),rp 5 (bF h9),cI [1,6] (av T3),hH (.draw 9 [(1,8),(7,8)]),cE ag.enc Vf,cC (dR XM),cI [1,7] (av h49),cC (aA ZX),cI [1,8] (av h51),cC (aA h52),rp 4 hP,rp 2 (oI (XZ=true)),oR True (XZ=true),cI [1,9] (av XN),cC (aA h54),rp 4 (bF Um),cI [1,10] (av h69),cC (aA h70),rp 3 (bT h71),cC (aA h72),bT h71,rp 3 (bT h73),cC (aA h74),bT h73,rp 4 (bF h75),cI [1,11] (av h78),hW 4,hH (.kX 12),rp 3 (eL r59 ax)]
 ·obtain rfl:=oK h;exact gr 30 [] [cE ag.enc h0,nL dC n.aD,cC (eA h1),hH (.nN 1 0 1 33),cI [1,3] (av h2),hH (.rows (l1.map ag.enc)),oO (Px h3),oO (Py h3),oO (Ap ag.enc h3),oO (Int.le_refl i),oO (Ap ag.enc h3),oO (Pz ag.enc h3),cC (a0 h4),cI [1,4] (av h5),cC (aA h6),cI [1,5] (av h7),cC (aA h8),rp 5 (bF h9),cI [1,6] (av T3),hH (.draw 9 [(1,8),(7,8)]),cE ag.enc Vf,cC (dR XM),cI [1,7] (av h49),cC (aA ZX),cI [1,8] (av h51),cC (aA h52),rp 4 hP,rp 2 (oI (XZ=true)),oR True (XZ=true),cI [1,9] (av XN),cC (aA h54),rp 4 (bF Um),cI [1,10] (av h69),cC (aA h70),rp 3 (bT h71),cC (aA h72),bT h71,rp 4 (bF h73),rp 4 fF,cI [1,11] (av h79),hW 4,hH (.kX 12),rp 3 (eL r60 ax)]
 ·obtain rfl:=oK h;exact gr 30 [] [cE ag.enc h0,nL dC n.aD,cC (eA h1),hH (.nN 1 0 1 33),cI [1,3] (av h2),hH (.rows (l1.map ag.enc)),oO (Px h3),oO (Py h3),oO (Ap ag.enc h3),oO (Int.le_refl i),oO (Ap ag.enc h3),oO (Pz ag.enc h3),cC (a0 h4),cI [1,4] (av h5),cC (aA h6),cI [1,5] (av h7),cC (aA h8),rp 5 (bF h9),cI [1,6] (av T3),hH (.draw 9 [(1,8),(7,8)]),cE ag.enc Vf,cC (dR XM),cI [1,7] (av h49),cC (aA ZX),cI [1,8] (av h51),cC (aA h52),rp 4 hP,rp 2 (oI (XZ=true)),oR True (XZ=true),cI [1,9] (av XN),cC (aA h54),rp 4 (bF Um),cI [1,10] (av h69),cC (aA h70),rp 4 (bF h71),rp 8 fF,cI [1,11] (av h80),hW 4,hH (.kX 12),rp 3 (eL r61 ax)]
def we(Γ:bn)(rv:List aa)(cf:Cf):Prop:=Go prog f79 [] Γ (one (lL 2 rv aa.enc)) [] cf
def PS(Γ:bn)(rv:List aa)(n:ak)(l:List ag)(v:Int)(r1:List Int)(l3:List aa)(v1:Int):Prop:=we Γ rv ⟨[.c 62668,.l 62668,.b 2,.b 1,.c 1959,.l 244,.b 0,.c 31],⟨41,[vL 1 14 l ag.enc,vP 2 0 2,vO 5 1 2 l3 aa.enc,vI 6 v,vI 18 (aC l),vI 19 v,vL 25 1 r1 ax,vI 26 (aC r1),vI 27 v1],[oX 2 25 (ak.enc n),oS 2 104 l3 aa.enc]⟩⟩
def Oa(Γ:bn)(rv:List aa)(n:ak)(l:List ag)(v:Int)(r1:List Int)(l4:List aa):Prop:=we Γ rv ⟨[.b 1,.c 1959,.l 244,.b 0,.c 31],⟨41,[vL 1 14 l ag.enc,vP 2 0 2,vO 5 1 2 l4 aa.enc,vI 18 (aC l),vI 19 v],[oX 2 25 (ak.enc n),oS 2 104 l4 aa.enc]⟩⟩
def PR(Γ:bn)(rv:List aa)(n:ak)(l:List ag)(l2:List aa)(v:Int):Prop:=we Γ rv ⟨[.c 244,.l 244,.b 0,.c 31],⟨41,[vL 1 14 l ag.enc,vP 2 0 2,vO 5 1 2 l2 aa.enc,vI 18 (aC l),vI 19 v],[oX 2 25 (ak.enc n),oS 2 104 l2 aa.enc]⟩⟩
def N9(Γ:bn)(rv:List aa)(n:ak)(l:List ag)(l5:List aa):Prop:=we Γ rv ⟨[.c 31],⟨41,[vO 5 0 2 l5 aa.enc],[oS 2 104 l5 aa.enc]⟩⟩
theorem Oc(Γ:bn)(rv:List aa){n l v r1}:∀⦃s:List aa×Int⦄ ⦃e:List aa⦄,aK (fun s=>rM n l v r1 s.1 s.2) s=some e→Oa Γ rv n l v r1 e→PS Γ rv n l v r1 s.1 s.2:=by
 refine bk ?_
 rintro⟨l3,v1⟩ z_ h hI hE;simp only[rM,az,an,aq]at h;rcases h with⟨h5,x0,h6,r2,h7,h8,h⟩|⟨h5,h⟩
 ·exact gn 13 [1,2,5,6,18,19,25,26,27] [0,3] [bT h5,cE ax h6,cC (qx h7),oO (Eq.refl ([(aa.mk x0 r2)].map aa.enc).length),aO aa.enc h8] (hI h)
 ·exact gn 5 [1,2,5,18,19] [0,1] [bF h5] (hE h)
theorem N_(Γ:bn)(rv:List aa){n l}:∀⦃s:List aa×Int⦄ ⦃e:List aa⦄,aK (fun s=>rL n l s.1 s.2) s=some e→N9 Γ rv n l e→PR Γ rv n l s.1 s.2:=by
 refine bk ?_
 rintro⟨l2,v⟩ z_ h hI hE;simp only[rL,az,an,aq]at h;rcases h with⟨h3,r1,h4,l4,h9,h⟩|⟨h3,h⟩
 ·refine gn 13 [1,2,5,6,18,19,25,26,27] [0,1] [bT h3,cC (Rt h4),nL ax r1] (Oc Γ rv h9 ?_);exact gn 3 [1,2,5,18,19] [0,1] [] (hI h)
 ·exact gn 5 [5] [1] [bF h3] (hE h)
theorem De(Γ:bn)(rv:List aa){n l l1}(h:rK n l l1=some rv):we Γ rv ⟨[.c 15],⟨41,[vL 1 14 l ag.enc,vP 2 0 2,vO 5 1 2 l1 aa.enc],[oX 2 25 (ak.enc n),oS 2 104 l1 aa.enc]⟩⟩:=by
 simp only[rK,az,an,aq]at h;obtain⟨l5,dN,h⟩:=h;refine gn 5 [1,2,5,18,19] [0,1] [nL ag.enc l] (N_ Γ rv dN ?_);obtain rfl:=oK h;exact gr 2 [] [hW 4,hH (.kX 0),rp 3 (eL l5 aa.enc)]
theorem SI{n l}{rv:List aa}(h:w_ n l=some rv):dF prog 79 [.agg (ak.enc n),.one (lL 14 l ag.enc)] [] (one (lL 2 rv aa.enc)) []:=by
 refine aU func79 fun Γ=>?_
 simp only[w_,az,an,aq]at h;rcases h with⟨r,h0,⟨h1,h⟩|⟨h1,h2,h⟩⟩
 ·exact gn 9 [1,2,5] [0,1] [nL ag.enc l,cC (aA h0),nF h1,hW 1,hH (.lP 5 2 104)] (De Γ rv h)
 ·exact gn 9 [1,2,5] [0,2] [nL ag.enc l,cC (aA h0),nT h1,oO (Eq.refl ([(aa.mk 4 ByteArray.empty)].map aa.enc).length),aN (l:=([(aa.mk 4 ByteArray.empty)]:List aa)) aa.enc h2] (De Γ rv h)
def Mm(Γ:bn)(rv:Bool)(cf:Cf):Prop:=Go prog f157 [] Γ (one (.bool rv)) [] cf
def Qb(Γ:bn)(rv:Bool)(a:List Int)(bL v:Int):Prop:=Mm Γ rv ⟨[.c 52,.l 52,.b 0,.c 7],⟨24,[vL 0 1 a ax,vI 1 bL,vL 7 1 a ax,vI 8 (aC a),vI 9 v],[]⟩⟩
def Ov(Γ:bn)(rv:Bool)(a:List Int)(bL:Int):Prop:=Mm Γ rv ⟨[.c 7],⟨24,[vL 0 1 a ax,vI 1 bL],[]⟩⟩
theorem Ow(Γ:bn)(rv:Bool){a bL}:∀⦃s:Int⦄ ⦃e:(Unit)⊕(Bool)⦄,aK (fun s=>lV a bL s) s=some e→jf e (fun e=>Ov Γ rv a bL) (fun e=>e=rv)→Qb Γ rv a bL s:=by
 refine bk ?_
 intro v z_ h hI hE;simp only[lV,az,an,aq]at h;rcases h with⟨h0,x0,h1,⟨h2,h⟩|⟨h2,h⟩⟩|⟨h0,h⟩
 ·obtain rfl:=(hE h:_=rv);exact gr 14 [] [bT h0,cE ax h1,hP,hP,hP,oI ((aT x0 0)=false),oR True ((aT x0 0)=false),bT h2]
 ·exact gn 16 [0,1,7,8,9] [] [bT h0,cE ax h1,hP,hP,hP,oI ((aT x0 0)=false),oR True ((aT x0 0)=false),bF h2] (hI h)
 ·exact gn 5 [0,1] [] [bF h0] (hE h)
theorem xJ{a bL}{rv:Bool}(h:xb a bL=some rv):dF prog 157 [.one (lL 1 a ax),.one (lI bL)] [] (one (.bool rv)) []:=by
 refine aU func157 fun Γ=>?_
 simp only[xb,az,an,aq]at h;obtain⟨e0,h3,h⟩:=h;refine gn 7 [0,1,7,8,9] [] [nL ax a] (Ow Γ rv h3 ?_);rcases e0 with e0|r
 ·cases h;exact gr 2 [] [nL ax a]
 ·exact oK h
theorem fY{n least C5}{rv:Bool}(h:gM n least C5=some rv):dF prog 158 [.one (lI n),.one (lI least),.one (lI C5)] [] (one (.bool rv)) []:=by
 refine aU func158 fun Γ=>?_
 simp only[gM,az,an,aq]at h;cases h;exact gr 4 [] [rp 4 hP,rp 2 (oI ((bZ n least)=true)),oR True ((bZ n least)=true)]
theorem mi{n}{rv:Bool}(h:xu n=some rv):dF prog 184 [.one (lI n)] [] (one (.bool rv)) []:=by
 refine aU func184 fun Γ=>?_
 simp only[xu,az,an,aq]at h;cases h;exact gr 4 [] [hP,hP,hP,oI ((bZ n 0)=true),oR True ((bZ n 0)=true)]
theorem qz{s0}{rv:Int}(h:nj s0=some rv):dF prog 159 [.agg (aM.enc s0)] [] (one (lI rv)) []:=by
 refine aU func159 fun Γ=>?_
 simp only[nj,az,an,aq]at h;rcases h with⟨h0,h⟩|⟨h0,⟨h1,r,h2,⟨h3,r1,h4,⟨h5,r2,h6,⟨h7,h⟩|⟨h7,h⟩⟩|⟨h5,h⟩⟩|⟨h3,h⟩⟩|⟨h1,h⟩⟩
 ·obtain rfl:=oK h;exact gr 10 [] [rp 4 (bT h0),kF,kF,kF,bT h0,bT h0,kF,kF,kF,bT h0,bT h0,rp 5 kF,bT h0,bT h0,kF,kF,kF,bT h0,bT h0,tT]
 ·obtain rfl:=oK h;exact gr 10 [] [rp 4 (bF h0),rp 3 (bT h1),cC (mi h2),bF h0,bT h1,bF h0,rp 3 (bT h3),cC (mi h4),bF h0,bT h3,bF h0,rp 5 hP,rp 4 (oI (r1=true)),bF h0,hP,oR True (r1=true),bF h0,rp 3 (bT h5),cC (mi h6),bF h0,bT h5,bF h0,bT h7]
 ·obtain rfl:=oK h;exact gr 11 [] [rp 4 (bF h0),rp 3 (bT h1),cC (mi h2),bF h0,bT h1,bF h0,rp 3 (bT h3),cC (mi h4),bF h0,bT h3,bF h0,rp 5 hP,rp 4 (oI (r1=true)),bF h0,hP,oR True (r1=true),bF h0,rp 3 (bT h5),cC (mi h6),bF h0,bT h5,bF h0,bF h7]
 ·obtain rfl:=oK h;exact gr 11 [] [rp 4 (bF h0),rp 3 (bT h1),cC (mi h2),bF h0,bT h1,bF h0,rp 3 (bT h3),cC (mi h4),bF h0,bT h3,bF h0,rp 5 hP,rp 4 (oI (r1=true)),bF h0,hP,oR True (r1=true),bF h0,rp 3 (bF h5),bF h0,bF h5,bF h0,fF]
 ·obtain rfl:=oK h;exact gr 11 [] [rp 4 (bF h0),rp 3 (bT h1),cC (mi h2),bF h0,bT h1,bF h0,rp 3 (bF h3),bF h0,bF h3,bF h0,rp 5 fF,bF h0,fF,bF h0,fF,fF,fF,bF h0,fF,bF h0,fF]
 ·obtain rfl:=oK h;exact gr 11 [] [rp 4 (bF h0),rp 3 (bF h1),bF h0,bF h1,bF h0,fF,fF,fF,bF h0,fF,bF h0,rp 5 fF,bF h0,fF,bF h0,fF,fF,fF,bF h0,fF,bF h0,fF]
theorem vk{o types}{rv:Bool}(h:nf o types=some rv):dF prog 160 [.agg (af.enc o),.one (lI types)] [] (one (.bool rv)) []:=by
 refine aU func160 fun Γ=>?_
 simp only[nf,az,an,aq]at h;rcases h with⟨r,h0,⟨h1,r1,h2,h⟩|⟨h1,h⟩⟩
 ·cases h;exact gr 4 [] [cC (fY h0),rp 3 (bT h1),cC (fY h2),bT h1,rp 36 hP,rp 3 (oI (r1=true)),rp 3 (oI ((r1=true)∧(bP o.split 1)=false)),oI (r1=true),oI ((r1=true)∧(bP o.split 1)=false),oI (r1=true),rp 3 (oI ((r1=true)∧((bP o.split 1)||(bP o.pick.place (-1)))=false)),oI (r1=true),oI ((r1=true)∧((bP o.split 1)||(bP o.pick.place (-1)))=false),oR True (r1=true),rp 2 (oI ((r1&&(((bP o.split 1)||(bP o.pick.place (-1)))||(bP o.drop.place (-1))))=true)),oR True ((r1&&(((bP o.split 1)||(bP o.pick.place (-1)))||(bP o.drop.place (-1))))=true),rp 3 (oI (((r1&&(((bP o.split 1)||(bP o.pick.place (-1)))||(bP o.drop.place (-1))))&&(bZ o.bI (-1)))=true)),oR True (((r1&&(((bP o.split 1)||(bP o.pick.place (-1)))||(bP o.drop.place (-1))))&&(bZ o.bI (-1)))=true),rp 2 (oI ((((r1&&(((bP o.split 1)||(bP o.pick.place (-1)))||(bP o.drop.place (-1))))&&(bZ o.bI (-1)))&&(aT o.bI types))=true)),oR True ((((r1&&(((bP o.split 1)||(bP o.pick.place (-1)))||(bP o.drop.place (-1))))&&(bZ o.bI (-1)))&&(aT o.bI types))=true),rp 3 (oI (((((r1&&(((bP o.split 1)||(bP o.pick.place (-1)))||(bP o.drop.place (-1))))&&(bZ o.bI (-1)))&&(aT o.bI types))&&(bZ o.now (-1)))=true)),oR True (((((r1&&(((bP o.split 1)||(bP o.pick.place (-1)))||(bP o.drop.place (-1))))&&(bZ o.bI (-1)))&&(aT o.bI types))&&(bZ o.now (-1)))=true)]
 ·obtain rfl:=oK h;exact gr 4 [] [cC (fY h0),rp 4 (bF h1),rp 4 fF,rp 4 kF,fF,fF,rp 4 kF,rp 20 fF]
theorem bN{right e0 c}{rv:List Int}(h:bV right e0 c=some rv):dF prog 154 [.one (.bool right),.one (lI e0),.one (.op 0 1 0 0)] [bX 1 107 [lO 1 1 c ax],bS 1 33 c ax] (.o5 []) [oX 1 107 [lO 1 1 rv ax],oS 1 33 rv ax]:=by
 refine aU func154 fun Γ=>?_
 simp only[bV,az,an,aq]at h;rcases h with⟨h0,h⟩|⟨h0,h1,h⟩
 ·obtain rfl:=oK h;exact gr 4 [0,1] [nF h0]
 ·cases h;exact gr 4 [0,3] [nT h0,oO (Eq.refl ([e0].map ax).length),aO ax h1]
theorem DE{x0 c}{rv:Bool}(h:yD x0 c=some rv):dF prog 156 [.agg (af.enc x0),.one (.ip (af.enc c) 0)] [] (one (.bool rv)) []:=by
 refine aU func156 fun Γ=>?_
 simp only[yD,az,an,aq]at h;cases h;exact gr 4 [] []
def jA(Γ:bn)(rv:Int)(cf:Cf):Prop:=Go prog f183 [] Γ (one (lI rv)) [] cf
def oq(Γ:bn)(rv:Int)(s0:List af)(c:af)(v:Int):Prop:=jA Γ rv ⟨[.c 52,.l 52,.b 0,.c 7],⟨19,[vL 0 16 s0 af.enc,(1,one (.fn (.func 156) [.ip (af.enc c) 0])),vI 7 (aC s0),vI 8 v],[]⟩⟩
def nW(Γ:bn)(rv:Int)(s0:List af)(c:af):Prop:=jA Γ rv ⟨[.c 7],⟨19,[],[]⟩⟩
theorem nX(Γ:bn)(rv:Int){s0 c}:∀⦃s:Int⦄ ⦃e:(Unit)⊕(Int)⦄,aK (fun s=>ca s0 c s) s=some e→jf e (fun e=>nW Γ rv s0 c) (fun e=>e=rv)→oq Γ rv s0 c s:=by
 refine bk ?_
 intro v z_ h hI hE;simp only[ca,az,an,aq]at h;rcases h with⟨h0,x0,h1,r,h2,⟨h3,h⟩|⟨h3,h⟩⟩|⟨h0,h⟩
 ·obtain rfl:=(hE h:_=rv);exact gr 14 [] [bT h0,cE af.enc h1,cC (DE h2),bT h3]
 ·exact gn 16 [0,1,7,8] [] [bT h0,cE af.enc h1,cC (DE h2),bF h3] (hI h)
 ·exact gn 5 [] [] [bF h0] (hE h)
theorem px{s0 c}{rv:Int}(h:eM s0 c=some rv):dF prog 183 [.one (lL 16 s0 af.enc),.one (.fn (.func 156) [.ip (af.enc c) 0])] [] (one (lI rv)) []:=by
 refine aU func183 fun Γ=>?_
 simp only[eM,az,an,aq]at h;obtain⟨e0,h4,h⟩:=h;refine gn 7 [0,1,7,8] [] [nL af.enc s0] (nX Γ rv h4 ?_);rcases e0 with e0|r1
 ·cases h;exact gr 2 [] []
 ·exact oK h
theorem dP{s0 c}{rv:Bool}(h:cX s0 c=some rv):dF prog 155 [.one (lL 16 s0 af.enc),.one (.fn (.func 156) [.ip (af.enc c) 0])] [] (one (.bool rv)) []:=by
 refine aU func155 fun Γ=>?_
 simp only[cX,az,an,aq]at h;obtain⟨r,h0,h⟩:=h;cases h;exact gr 4 [] [cC (px h0)]
theorem RD{n bL types l i}{rv:List Int}(h:yC n bL types l i=some rv):dF prog 119 [.agg (ak.enc n),.one (lI bL),.one (lI types),.one (lL 16 l af.enc),.one (lI i)] [] (one (lL 1 rv ax)) []:=by
 refine aU func119 fun Γ=>?_
 simp only[yC,az,an,aq]at h;rcases h with⟨x0,h0,r,h1,r1,h2,l1,h3,r2,h4,r3,h5,r4,h6,r5,h7,r6,h8,⟨h9,r7,dN,r8,gq,r9,gu,Xf,ij,⟨kH,Ft,nk,XY,pc,Qp,sG,r14,ti,LD,vF,r16,va,h⟩|⟨kH,r17,BQ,r18,Et,J5,PU,r20,Jh,r21,MG,h⟩⟩|⟨h9,r22,HG,r23,Ve,r24,T2,⟨YP,r25,YQ,r26,Ul,r27,h32,r28,h33,r29,h34,r30,YR,h⟩|⟨YP,r31,h36,r32,h37,r33,YS,r34,h39,r35,h40,h⟩⟩⟩
 ·obtain rfl:=oK h;exact gr 28 [] [cE af.enc h0,nL dC n.aD,cC (eA h1),hH (.nN 1 0 1 33),cI [1,3] (bN h2),hH (.rows (l1.map af.enc)),oO (Px h3),oO (Py h3),oO (Ap af.enc h3),oO (Int.le_refl i),oO (Ap af.enc h3),oO (Pz af.enc h3),cC (dP h4),cI [1,4] (bN h5),cC (xJ h6),cI [1,5] (bN h7),cC (fY h8),rp 5 (bT h9),cC (fY dN),bT h9,cI [1,6] (bN gq),rp 5 hP,rp 3 (oI ((cA x0.pick.place (-1))=false)),oR True ((cA x0.pick.place (-1))=false),cI [1,7] (bN gu),cC (qz ij),rp 3 (bT kH),cC (qz nk),rp 2 (bT kH),cI [1,8] (bN pc),cC (fY sG),cI [1,9] (bN ti),cC (vk vF),cI [1,10] (bN va),hW 4,hH (.kX 11),rp 3 (eL r16 ax)]
 ·obtain rfl:=oK h;exact gr 28 [] [cE af.enc h0,nL dC n.aD,cC (eA h1),hH (.nN 1 0 1 33),cI [1,3] (bN h2),hH (.rows (l1.map af.enc)),oO (Px h3),oO (Py h3),oO (Ap af.enc h3),oO (Int.le_refl i),oO (Ap af.enc h3),oO (Pz af.enc h3),cC (dP h4),cI [1,4] (bN h5),cC (xJ h6),cI [1,5] (bN h7),cC (fY h8),rp 5 (bT h9),cC (fY dN),bT h9,cI [1,6] (bN gq),rp 5 hP,rp 3 (oI ((cA x0.pick.place (-1))=false)),oR True ((cA x0.pick.place (-1))=false),cI [1,7] (bN gu),cC (qz ij),rp 5 (bF kH),cI [1,8] (bN BQ),cC (fY Et),cI [1,9] (bN PU),cC (vk Jh),cI [1,10] (bN MG),hW 4,hH (.kX 11),rp 3 (eL r21 ax)]
 ·obtain rfl:=oK h;exact gr 28 [] [cE af.enc h0,nL dC n.aD,cC (eA h1),hH (.nN 1 0 1 33),cI [1,3] (bN h2),hH (.rows (l1.map af.enc)),oO (Px h3),oO (Py h3),oO (Ap af.enc h3),oO (Int.le_refl i),oO (Ap af.enc h3),oO (Pz af.enc h3),cC (dP h4),cI [1,4] (bN h5),cC (xJ h6),cI [1,5] (bN h7),cC (fY h8),rp 6 (bF h9),cI [1,6] (bN HG),rp 5 hP,rp 3 (oI ((cA x0.pick.place (-1))=false)),oR True ((cA x0.pick.place (-1))=false),cI [1,7] (bN Ve),cC (qz T2),rp 3 (bT YP),cC (qz YQ),rp 2 (bT YP),cI [1,8] (bN Ul),cC (fY h32),cI [1,9] (bN h33),cC (vk h34),cI [1,10] (bN YR),hW 4,hH (.kX 11),rp 3 (eL r30 ax)]
 ·obtain rfl:=oK h;exact gr 28 [] [cE af.enc h0,nL dC n.aD,cC (eA h1),hH (.nN 1 0 1 33),cI [1,3] (bN h2),hH (.rows (l1.map af.enc)),oO (Px h3),oO (Py h3),oO (Ap af.enc h3),oO (Int.le_refl i),oO (Ap af.enc h3),oO (Pz af.enc h3),cC (dP h4),cI [1,4] (bN h5),cC (xJ h6),cI [1,5] (bN h7),cC (fY h8),rp 6 (bF h9),cI [1,6] (bN HG),rp 5 hP,rp 3 (oI ((cA x0.pick.place (-1))=false)),oR True ((cA x0.pick.place (-1))=false),cI [1,7] (bN Ve),cC (qz T2),rp 5 (bF YP),cI [1,8] (bN h36),cC (fY h37),cI [1,9] (bN YS),cC (vk h39),cI [1,10] (bN h40),hW 4,hH (.kX 11),rp 3 (eL r35 ax)]
def wo(Γ:bn)(rv:List aa)(cf:Cf):Prop:=Go prog f80 [] Γ (one (lL 2 rv aa.enc)) [] cf
def Qn(Γ:bn)(rv:List aa)(n:ak)(bL types:Int)(l:List af)(v:Int)(r:List Int)(l3:List aa)(v1:Int):Prop:=wo Γ rv ⟨[.c 62668,.l 62668,.b 2,.b 1,.c 1959,.l 244,.b 0,.c 31],⟨46,[vI 1 bL,vI 2 types,vL 3 16 l af.enc,vP 4 0 2,vO 9 1 2 l3 aa.enc,vI 10 v,vI 21 (aC l),vI 22 v,vL 30 1 r ax,vI 31 (aC r),vI 32 v1],[oX 2 25 (ak.enc n),oS 2 104 l3 aa.enc]⟩⟩
def OS(Γ:bn)(rv:List aa)(n:ak)(bL types:Int)(l:List af)(v:Int)(r:List Int)(l4:List aa):Prop:=wo Γ rv ⟨[.b 1,.c 1959,.l 244,.b 0,.c 31],⟨46,[vI 1 bL,vI 2 types,vL 3 16 l af.enc,vP 4 0 2,vO 9 1 2 l4 aa.enc,vI 21 (aC l),vI 22 v],[oX 2 25 (ak.enc n),oS 2 104 l4 aa.enc]⟩⟩
def Qm(Γ:bn)(rv:List aa)(n:ak)(bL types:Int)(l:List af)(l2:List aa)(v:Int):Prop:=wo Γ rv ⟨[.c 244,.l 244,.b 0,.c 31],⟨46,[vI 1 bL,vI 2 types,vL 3 16 l af.enc,vP 4 0 2,vO 9 1 2 l2 aa.enc,vI 21 (aC l),vI 22 v],[oX 2 25 (ak.enc n),oS 2 104 l2 aa.enc]⟩⟩
def OP(Γ:bn)(rv:List aa)(n:ak)(bL types:Int)(l:List af)(l5:List aa):Prop:=wo Γ rv ⟨[.c 31],⟨46,[vO 9 0 2 l5 aa.enc],[oS 2 104 l5 aa.enc]⟩⟩
theorem OT(Γ:bn)(rv:List aa){n bL types l v r}:∀⦃s:List aa×Int⦄ ⦃e:List aa⦄,aK (fun s=>sj n bL types l v r s.1 s.2) s=some e→OS Γ rv n bL types l v r e→Qn Γ rv n bL types l v r s.1 s.2:=by
 refine bk ?_
 rintro⟨l3,v1⟩ z_ h hI hE;simp only[sj,az,an,aq]at h;rcases h with⟨h4,x0,h5,r1,h6,h7,h⟩|⟨h4,h⟩
 ·exact gn 13 [1,2,3,4,9,10,21,22,30,31,32] [0,3] [bT h4,cE ax h5,cC (qx h6),oO (Eq.refl ([(aa.mk x0 r1)].map aa.enc).length),aO aa.enc h7] (hI h)
 ·exact gn 5 [1,2,3,4,9,21,22] [0,1] [bF h4] (hE h)
theorem OQ(Γ:bn)(rv:List aa){n bL types l}:∀⦃s:List aa×Int⦄ ⦃e:List aa⦄,aK (fun s=>si n bL types l s.1 s.2) s=some e→OP Γ rv n bL types l e→Qm Γ rv n bL types l s.1 s.2:=by
 refine bk ?_
 rintro⟨l2,v⟩ z_ h hI hE;simp only[si,az,an,aq]at h;rcases h with⟨h2,r,h3,l4,h8,h⟩|⟨h2,h⟩
 ·refine gn 13 [1,2,3,4,9,10,21,22,30,31,32] [0,1] [bT h2,cC (RD h3),nL ax r] (OT Γ rv h8 ?_);exact gn 3 [1,2,3,4,9,21,22] [0,1] [] (hI h)
 ·exact gn 5 [9] [1] [bF h2] (hE h)
theorem DD(Γ:bn)(rv:List aa){n bL types l l1}(h:sg n bL types l l1=some rv):wo Γ rv ⟨[.c 15],⟨46,[vI 1 bL,vI 2 types,vL 3 16 l af.enc,vP 4 0 2,vO 9 1 2 l1 aa.enc],[oX 2 25 (ak.enc n),oS 2 104 l1 aa.enc]⟩⟩:=by
 simp only[sg,az,an,aq]at h;obtain⟨l5,h9,h⟩:=h;refine gn 5 [1,2,3,4,9,21,22] [0,1] [nL af.enc l] (OQ Γ rv h9 ?_);obtain rfl:=oK h;exact gr 2 [] [hW 4,hH (.kX 0),rp 3 (eL l5 aa.enc)]
theorem Tj{n bL types l}{rv:List aa}(h:xk n bL types l=some rv):dF prog 80 [.agg (ak.enc n),.one (lI bL),.one (lI types),.one (lL 16 l af.enc)] [] (one (lL 2 rv aa.enc)) []:=by
 refine aU func80 fun Γ=>?_
 simp only[xk,az,an,aq]at h;rcases h with⟨h0,h1,h⟩|⟨h0,h⟩
 ·exact gn 9 [1,2,3,4,9] [0,2] [nL af.enc l,bT h0,oO (Eq.refl ([(aa.mk 4 ByteArray.empty)].map aa.enc).length),aN (l:=([(aa.mk 4 ByteArray.empty)]:List aa)) aa.enc h1] (DD Γ rv h)
 ·exact gn 9 [1,2,3,4,9] [0,1] [nL af.enc l,bF h0,hW 1,hH (.lP 9 2 104)] (DD Γ rv h)
theorem Mj{l}{rv:Int}(h:wN l=some rv):dF prog 81 [.one (lL 14 l ag.enc)] [] (one (lI rv)) []:=by
 refine aU func81 fun Γ=>?_
 simp only[wN,az,an,aq]at h;rcases h with⟨h0,h⟩|⟨h0,x0,h1,h⟩
 ·obtain rfl:=oK h;exact gr 8 [] [nL ag.enc l,bT h0]
 ·cases h;exact gr 9 [] [nL ag.enc l,bF h0,cE ag.enc h1,nL ax x0.cap]
theorem Nj{self:Int→Option ByteArray}(AL:∀{n:Int} {rv:ByteArray},self n=some rv→dF prog 162 [.one (lI n)] [] (one (.str rv)) []){n}{rv:ByteArray}(h:tG self n=some rv):dF prog 162 [.one (lI n)] [] (one (.str rv)) []:=by
 refine aU func162 fun Γ=>?_
 simp only[tG,az,an,aq]at h;rcases h with⟨h0,h⟩|⟨h0,r,h1,h2,h⟩
 ·cases h;exact gr 10 [] [oO (oA (n:=10)),bT h0]
 ·cases h;exact gr 11 [] [oO (oA (n:=10)),bF h0,oO (oA (n:=10)),cC (AL h1),oO (h2)]
theorem DN:∀zZ,∀{n:Int} {rv:ByteArray},tH zZ n=some rv→dF prog 162 [.one (lI n)] [] (one (.str rv)) []
 |0=>fun h=>nomatch h
 |zZ+1=>fun h=>Nj (DN zZ) h
theorem lv:∀{n:Int} {rv:ByteArray},zJ n=some rv→dF prog 162 [.one (lI n)] [] (one (.str rv)) []:=DN _
theorem Ke{a b}{rv:Bool}(h:An a b=some rv):dF prog 121 [.agg (aI.enc a),.agg (aI.enc b)] [] (one (.bool rv)) []:=by
 refine aU func121 fun Γ=>?_
 simp only[An,az,an,aq]at h;rcases h with⟨h0,h⟩|⟨h0,⟨h1,h⟩|⟨h1,h⟩⟩
 ·obtain rfl:=oK h;exact gr 4 [] [rp 6 (bT h0),rp 5 kF,bT h0,bT h0]
 ·cases h;exact gr 4 [] [bF h0,oO (zL 0),oO (lT 0 2),bF h0,bF h0,oO (zL 1),oO (lT 1 2),rp 3 (bF h0),bT h1,oO (zL 1),oO (lT 1 2),bT h1,bT h1,oO (zL 0),oO (lT 0 2),bT h1,bT h1,bF h0,bT h1,bF h0]
 ·obtain rfl:=oK h;exact gr 4 [] [bF h0,oO (zL 0),oO (lT 0 2),bF h0,bF h0,oO (zL 1),oO (lT 1 2),rp 3 (bF h0),rp 5 (bF h1),bF h0,bF h1,bF h0]
theorem Kd{a b}{rv:Bool}(h:Am a b=some rv):dF prog 122 [.agg (aI.enc a),.agg (aI.enc b)] [] (one (.bool rv)) []:=by
 refine aU func122 fun Γ=>?_
 simp only[Am,az,an,aq]at h;cases h;exact gr 4 [] []
theorem fr{n c}{rv:Bool}(h:o9 n c=some rv):dF prog 161 [.one (lI n),.one (.ip [lI c] 0)] [] (one (.bool rv)) []:=by
 refine aU func161 fun Γ=>?_
 simp only[o9,az,an,aq]at h;cases h;exact gr 4 [] [rp 4 hP,rp 2 (oI ((bZ n 0)=true)),oR True ((bZ n 0)=true)]
def om(Γ:bn)(rv:List aa)(cf:Cf):Prop:=Go prog f120 [] Γ (one (lL 2 rv aa.enc)) [] cf
def G4(Γ:bn)(rv:List aa)(ah:Int)(word:ByteArray)(l:List aI)(l2:List aa)(v:Int)(x0:aI)(r:ByteArray)(l3:List aI)(v1:Int):Prop:=om Γ rv ⟨[.c 512828,.l 512828,.b 2,.b 1,.c 4007,.l 500,.b 0,.c 63],⟨81,[vS 1 word,vL 2 2 l aI.enc,(3,one (.fn (.func 122) [])),vO 9 0 2 l2 aa.enc,(10,one (.fn (.func 161) [.op 1 1 0 0])),vP 12 2 2,vS 13 (cM (cM word cj) r),vL 25 2 l aI.enc,vI 26 (aC l),vI 27 v,vL 63 2 l3 aI.enc,vI 64 (aC l3),vI 65 v1],[oS 2 104 l2 aa.enc,oX 1 3 [lI ah],oX 2 100 (aI.enc x0)]⟩⟩
def FB(Γ:bn)(rv:List aa)(ah:Int)(word:ByteArray)(l:List aI)(l2:List aa)(v:Int)(x0:aI)(r:ByteArray)(l3:List aI)(l4:List aa):Prop:=om Γ rv ⟨[.b 1,.c 4007,.l 500,.b 0,.c 63],⟨81,[vS 1 word,vL 2 2 l aI.enc,(3,one (.fn (.func 122) [])),vO 9 0 2 l4 aa.enc,(10,one (.fn (.func 161) [.op 1 1 0 0])),vL 25 2 l aI.enc,vI 26 (aC l),vI 27 v],[oS 2 104 l4 aa.enc,oX 1 3 [lI ah]]⟩⟩
def G3(Γ:bn)(rv:List aa)(ah:Int)(word:ByteArray)(l:List aI)(l2:List aa)(v:Int):Prop:=om Γ rv ⟨[.c 500,.l 500,.b 0,.c 63],⟨81,[vS 1 word,vL 2 2 l aI.enc,(3,one (.fn (.func 122) [])),vO 9 0 2 l2 aa.enc,(10,one (.fn (.func 161) [.op 1 1 0 0])),vL 25 2 l aI.enc,vI 26 (aC l),vI 27 v],[oS 2 104 l2 aa.enc,oX 1 3 [lI ah]]⟩⟩
def Fz(Γ:bn)(rv:List aa)(ah:Int)(word:ByteArray)(l:List aI)(l5:List aa):Prop:=om Γ rv ⟨[.c 63],⟨81,[vO 9 0 2 l5 aa.enc],[oS 2 104 l5 aa.enc]⟩⟩
theorem FC(Γ:bn)(rv:List aa){ah word l l2 v x0 r l3}:∀⦃s:Int⦄ ⦃e:List aa⦄,aK (fun s=>gl ah word l l2 v x0 r l3 s) s=some e→FB Γ rv ah word l l2 v x0 r l3 e→G4 Γ rv ah word l l2 v x0 r l3 s:=by
 refine bk ?_
 intro v1 z_ h hI hE;simp only[gl,az,an,aq]at h;rcases h with⟨kH,x1,nk,r3,pc,⟨sG,ti,h⟩|⟨sG,h⟩⟩|⟨kH,h⟩
 ·exact gn 15 [1,2,3,9,10,25,26,27] [5,1] [bT kH,cE aI.enc nk,cC (Kd pc),bT sG,oO (Eq.refl ([(aa.mk 6 (cM (cM word cj) r))].map aa.enc).length),aO aa.enc ti] (hE h)
 ·exact gn 16 [1,2,3,9,10,12,13,25,26,27,63,64,65] [0,1,2] [bT kH,cE aI.enc nk,cC (Kd pc),bF sG] (hI h)
 ·exact gn 5 [1,2,3,9,10,25,26,27] [0,1] [bF kH] (hE h)
theorem FA(Γ:bn)(rv:List aa){ah word l}:∀⦃s:List aa×Int⦄ ⦃e:List aa⦄,aK (fun s=>gY ah word l s.1 s.2) s=some e→Fz Γ rv ah word l e→G3 Γ rv ah word l s.1 s.2:=by
 refine bk ?_
 rintro⟨l2,v⟩ z_ h hI hE;simp only[gY,az,an,aq]at h;rcases h with⟨h2,x0,h3,h4,r,h5,h6,r1,h7,⟨h8,r2,h9,⟨dN,⟨gq,gu,h⟩|⟨gq,l3,ij,l4,vF,h⟩⟩|⟨dN,va,h⟩⟩|⟨h8,BQ,h⟩⟩|⟨h2,h⟩
 ·exact gn 20 [1,2,3,9,10,25,26,27] [4,1] [bT h2,cE aI.enc h3,oO (h4),cC (lv h5),oO (h6),oO (zL 0),oO (lT 0 2),cC (fr h7),nF h8,nF h8,oO (zL 1),oO (lT 1 2),nF h8,nF h8,cC (fr h9),nF h8,nF h8,nF dN,oO (zL 0),oO (lT 0 2),rp 2 (nF dN),oO (zL 1),oO (lT 1 2),rp 3 (nF dN),bT gq,oO (Eq.refl ([(aa.mk 2 (cM (cM word cj) r))].map aa.enc).length),aO aa.enc gu] (hI h)
 ·refine gn 20 [1,2,3,9,10,12,13,25,26,27,63,64,65] [0,1,2] [bT h2,cE aI.enc h3,oO (h4),cC (lv h5),oO (h6),oO (zL 0),oO (lT 0 2),cC (fr h7),nF h8,nF h8,oO (zL 1),oO (lT 1 2),nF h8,nF h8,cC (fr h9),nF h8,nF h8,nF dN,oO (zL 0),oO (lT 0 2),rp 2 (nF dN),oO (zL 1),oO (lT 1 2),rp 3 (nF dN),bF gq,hH (.rows (l3.map aI.enc)),oO (Px ij),oO (Py ij),oO (Ap aI.enc ij),oO (Int.le_refl v),oO (Ap aI.enc ij),oO (Pz aI.enc ij),nL aI.enc l3] (FC Γ rv vF ?_);exact gn 3 [1,2,3,9,10,25,26,27] [0,1] [] (hI h)
 ·exact gn 20 [1,2,3,9,10,25,26,27] [4,1] [bT h2,cE aI.enc h3,oO (h4),cC (lv h5),oO (h6),oO (zL 0),oO (lT 0 2),cC (fr h7),nF h8,nF h8,oO (zL 1),oO (lT 1 2),nF h8,nF h8,cC (fr h9),nF h8,nF h8,rp 6 (nT dN),tT,oO (Eq.refl ([(aa.mk 2 (cM (cM word cj) r))].map aa.enc).length),aO aa.enc va] (hI h)
 ·exact gn 20 [1,2,3,9,10,25,26,27] [4,1] [bT h2,cE aI.enc h3,oO (h4),cC (lv h5),oO (h6),oO (zL 0),oO (lT 0 2),cC (fr h7),rp 6 (nT h8),rp 7 tT,oO (Eq.refl ([(aa.mk 2 (cM (cM word cj) r))].map aa.enc).length),aO aa.enc BQ] (hI h)
 ·exact gn 5 [9] [0] [bF h2] (hE h)
theorem xp(Γ:bn)(rv:List aa){ah word l l1}(h:lx ah word l l1=some rv):om Γ rv ⟨[.c 15],⟨81,[vS 1 word,vL 2 2 l aI.enc,(3,one (.fn (.func 122) [])),vP 4 0 1,vO 9 1 2 l1 aa.enc],[oX 1 3 [lI ah],oS 2 104 l1 aa.enc]⟩⟩:=by
 simp only[lx,az,an,aq]at h;obtain⟨l5,Et,h⟩:=h;refine gn 7 [1,2,3,9,10,25,26,27] [1,0] [nL aI.enc l] (FA Γ rv Et ?_);obtain rfl:=oK h;exact gr 2 [] [hW 4,hH (.kX 0),rp 3 (eL l5 aa.enc)]
theorem Kf{ah word l}{rv:List aa}(h:qY ah word l=some rv):dF prog 120 [.one (lI ah),.one (.str word),.one (lL 2 l aI.enc),.one (.fn (.func 122) [])] [] (one (lL 2 rv aa.enc)) []:=by
 refine aU func120 fun Γ=>?_
 simp only[qY,az,an,aq]at h;rcases h with⟨h0,h1,h⟩|⟨h0,h⟩
 ·exact gn 9 [1,2,3,4,9] [0,2] [nL aI.enc l,bT h0,oO (Eq.refl ([(aa.mk 4 word)].map aa.enc).length),aN (l:=([(aa.mk 4 word)]:List aa)) aa.enc h1] (xp Γ rv h)
 ·exact gn 9 [1,2,3,4,9] [0,1] [nL aI.enc l,bF h0,hW 1,hH (.lP 9 2 104)] (xp Γ rv h)
def ly(Γ:bn)(rv:List aa)(cf:Cf):Prop:=Go prog f120 [] Γ (one (lO 0 2 rv aa.enc)) [oS 2 104 rv aa.enc] cf
def Cv(Γ:bn)(rv:List aa)(ah:Int)(word:ByteArray)(l:List aI)(l2:List aa)(v:Int)(x0:aI)(r:ByteArray)(l3:List aI)(v1:Int):Prop:=ly Γ rv ⟨[.c 512828,.l 512828,.b 2,.b 1,.c 4007,.l 500,.b 0,.c 63],⟨81,[vS 1 word,vL 2 2 l aI.enc,(3,one (.fn (.func 121) [])),vO 9 0 2 l2 aa.enc,(10,one (.fn (.func 161) [.op 1 1 0 0])),vP 12 2 2,vS 13 (cM (cM word cj) r),vL 25 2 l aI.enc,vI 26 (aC l),vI 27 v,vL 63 2 l3 aI.enc,vI 64 (aC l3),vI 65 v1],[oS 2 104 l2 aa.enc,oX 1 3 [lI ah],oX 2 100 (aI.enc x0)]⟩⟩
def Bt(Γ:bn)(rv:List aa)(ah:Int)(word:ByteArray)(l:List aI)(l2:List aa)(v:Int)(x0:aI)(r:ByteArray)(l3:List aI)(l4:List aa):Prop:=ly Γ rv ⟨[.b 1,.c 4007,.l 500,.b 0,.c 63],⟨81,[vS 1 word,vL 2 2 l aI.enc,(3,one (.fn (.func 121) [])),vO 9 0 2 l4 aa.enc,(10,one (.fn (.func 161) [.op 1 1 0 0])),vL 25 2 l aI.enc,vI 26 (aC l),vI 27 v],[oS 2 104 l4 aa.enc,oX 1 3 [lI ah]]⟩⟩
def Cu(Γ:bn)(rv:List aa)(ah:Int)(word:ByteArray)(l:List aI)(l2:List aa)(v:Int):Prop:=ly Γ rv ⟨[.c 500,.l 500,.b 0,.c 63],⟨81,[vS 1 word,vL 2 2 l aI.enc,(3,one (.fn (.func 121) [])),vO 9 0 2 l2 aa.enc,(10,one (.fn (.func 161) [.op 1 1 0 0])),vL 25 2 l aI.enc,vI 26 (aC l),vI 27 v],[oS 2 104 l2 aa.enc,oX 1 3 [lI ah]]⟩⟩
def Br(Γ:bn)(rv:List aa)(ah:Int)(word:ByteArray)(l:List aI)(l5:List aa):Prop:=ly Γ rv ⟨[.c 63],⟨81,[vO 9 0 2 l5 aa.enc],[oS 2 104 l5 aa.enc]⟩⟩
theorem Bu(Γ:bn)(rv:List aa){ah word l l2 v x0 r l3}:∀⦃s:Int⦄ ⦃e:List aa⦄,aK (fun s=>eZ ah word l l2 v x0 r l3 s) s=some e→Bt Γ rv ah word l l2 v x0 r l3 e→Cv Γ rv ah word l l2 v x0 r l3 s:=by
 refine bk ?_
 intro v1 z_ h hI hE;simp only[eZ,az,an,aq]at h;rcases h with⟨kH,x1,nk,r3,pc,⟨sG,ti,h⟩|⟨sG,h⟩⟩|⟨kH,h⟩
 ·exact gn 15 [1,2,3,9,10,25,26,27] [5,1] [bT kH,cE aI.enc nk,cC (Ke pc),bT sG,oO (Eq.refl ([(aa.mk 6 (cM (cM word cj) r))].map aa.enc).length),aO aa.enc ti] (hE h)
 ·exact gn 16 [1,2,3,9,10,12,13,25,26,27,63,64,65] [0,1,2] [bT kH,cE aI.enc nk,cC (Ke pc),bF sG] (hI h)
 ·exact gn 5 [1,2,3,9,10,25,26,27] [0,1] [bF kH] (hE h)
theorem Bs(Γ:bn)(rv:List aa){ah word l}:∀⦃s:List aa×Int⦄ ⦃e:List aa⦄,aK (fun s=>fH ah word l s.1 s.2) s=some e→Br Γ rv ah word l e→Cu Γ rv ah word l s.1 s.2:=by
 refine bk ?_
 rintro⟨l2,v⟩ z_ h hI hE;simp only[fH,az,an,aq]at h;rcases h with⟨h2,x0,h3,h4,r,h5,h6,r1,h7,⟨h8,r2,h9,⟨dN,⟨gq,gu,h⟩|⟨gq,l3,ij,l4,vF,h⟩⟩|⟨dN,va,h⟩⟩|⟨h8,BQ,h⟩⟩|⟨h2,h⟩
 ·exact gn 20 [1,2,3,9,10,25,26,27] [4,1] [bT h2,cE aI.enc h3,oO (h4),cC (lv h5),oO (h6),oO (zL 0),oO (lT 0 2),cC (fr h7),nF h8,nF h8,oO (zL 1),oO (lT 1 2),nF h8,nF h8,cC (fr h9),nF h8,nF h8,nF dN,oO (zL 0),oO (lT 0 2),rp 2 (nF dN),oO (zL 1),oO (lT 1 2),rp 3 (nF dN),bT gq,oO (Eq.refl ([(aa.mk 2 (cM (cM word cj) r))].map aa.enc).length),aO aa.enc gu] (hI h)
 ·refine gn 20 [1,2,3,9,10,12,13,25,26,27,63,64,65] [0,1,2] [bT h2,cE aI.enc h3,oO (h4),cC (lv h5),oO (h6),oO (zL 0),oO (lT 0 2),cC (fr h7),nF h8,nF h8,oO (zL 1),oO (lT 1 2),nF h8,nF h8,cC (fr h9),nF h8,nF h8,nF dN,oO (zL 0),oO (lT 0 2),rp 2 (nF dN),oO (zL 1),oO (lT 1 2),rp 3 (nF dN),bF gq,hH (.rows (l3.map aI.enc)),oO (Px ij),oO (Py ij),oO (Ap aI.enc ij),oO (Int.le_refl v),oO (Ap aI.enc ij),oO (Pz aI.enc ij),nL aI.enc l3] (Bu Γ rv vF ?_);exact gn 3 [1,2,3,9,10,25,26,27] [0,1] [] (hI h)
 ·exact gn 20 [1,2,3,9,10,25,26,27] [4,1] [bT h2,cE aI.enc h3,oO (h4),cC (lv h5),oO (h6),oO (zL 0),oO (lT 0 2),cC (fr h7),nF h8,nF h8,oO (zL 1),oO (lT 1 2),nF h8,nF h8,cC (fr h9),nF h8,nF h8,rp 6 (nT dN),tT,oO (Eq.refl ([(aa.mk 2 (cM (cM word cj) r))].map aa.enc).length),aO aa.enc va] (hI h)
 ·exact gn 20 [1,2,3,9,10,25,26,27] [4,1] [bT h2,cE aI.enc h3,oO (h4),cC (lv h5),oO (h6),oO (zL 0),oO (lT 0 2),cC (fr h7),rp 6 (nT h8),rp 7 tT,oO (Eq.refl ([(aa.mk 2 (cM (cM word cj) r))].map aa.enc).length),aO aa.enc BQ] (hI h)
 ·exact gn 5 [9] [0] [bF h2] (hE h)
theorem ur(Γ:bn)(rv:List aa){ah word l l1}(h:iw ah word l l1=some rv):ly Γ rv ⟨[.c 15],⟨81,[vS 1 word,vL 2 2 l aI.enc,(3,one (.fn (.func 121) [])),vP 4 0 1,vO 9 1 2 l1 aa.enc],[oX 1 3 [lI ah],oS 2 104 l1 aa.enc]⟩⟩:=by
 simp only[iw,az,an,aq]at h;obtain⟨l5,Et,h⟩:=h;refine gn 7 [1,2,3,9,10,25,26,27] [1,0] [nL aI.enc l] (Bs Γ rv Et ?_);obtain rfl:=oK h;exact gr 2 [0] []
theorem Ek{ah word l}{rv:List aa}(h:mI ah word l=some rv):dF prog 120 [.one (lI ah),.one (.str word),.one (lL 2 l aI.enc),.one (.fn (.func 121) [])] [] (one (lO 0 2 rv aa.enc)) [oS 2 104 rv aa.enc]:=by
 refine aU func120 fun Γ=>?_
 simp only[mI,az,an,aq]at h;rcases h with⟨h0,h1,h⟩|⟨h0,h⟩
 ·exact gn 9 [1,2,3,4,9] [0,2] [nL aI.enc l,bT h0,oO (Eq.refl ([(aa.mk 4 word)].map aa.enc).length),aN (l:=([(aa.mk 4 word)]:List aa)) aa.enc h1] (ur Γ rv h)
 ·exact gn 9 [1,2,3,4,9] [0,1] [nL aI.enc l,bF h0,hW 1,hH (.lP 9 2 104)] (ur Γ rv h)
theorem Ty{ah db before}{rv:List aa}(h:Al ah db before=some rv):dF prog 82 [.one (lI ah),.one (lL 2 db aI.enc),.one (lL 2 before aI.enc)] [] (one (lL 2 rv aa.enc)) []:=by
 refine aU func82 fun Γ=>?_
 simp only[Al,az,an,aq]at h;obtain⟨r,h0,r1,h1,h2,h⟩:=h;cases h;exact gr 4 [] [cC (Ek h0),cC (Kf h1),aO aa.enc h2,hW 1,hH (.kX 1),rp 2 (oO (Eq.refl ((r++r1).map aa.enc).length))]
theorem Oj{x0}{rv:List aa}(h:rQ x0=some rv):dF prog 49 [.agg (ae.enc x0)] [] (one (lL 2 rv aa.enc)) []:=by
 refine aU func49 fun Γ=>?_
 simp only[rQ,az,an,aq]at h;obtain⟨r,h0,r1,h1,r2,h2,r3,h3,r4,h4,r5,h5,r6,h6,r7,h7,r8,h8,r9,h9,h⟩:=h;obtain rfl:=oK h;exact gr 4 [] [hH (.draw 32 []),cC (Qh h0),cC (ug h1),cC (SI h2),cC (ug h3),cC (Mj h4),nL ag.enc x0.types,cC (Tj h5),cC (ug h6),nL af.enc x0.ah,cC (Ty h7),cC (ug h8),hH (.kX 1),oO (Eq.refl ([r1,r3,r6,r8].map kD.enc).length),cC (ux h9)]
theorem wJ{x0}{rv:Bool}(h:oU x0=some rv):dF prog 25 [.agg (ae.enc x0)] [] (one (.bool rv)) []:=by
 refine aU func25 fun Γ=>?_
 simp only[oU,az,an,aq]at h;obtain⟨r,h0,h⟩:=h;cases h;exact gr 4 [] [cC (Oj h0),nL aa.enc r]
theorem Hx{l}{rv:Bool}(h:yT l=some rv):dF prog 164 [.one (lL 2 l aB.enc)] [] (one (.bool rv)) []:=by
 refine aU func164 fun Γ=>?_
 simp only[yT,az,an,aq]at h;obtain⟨r,h0,h⟩:=h;cases h;exact gr 4 [] [cC (AD h0),nL aa.enc r]
theorem w5{p t}{rv:Int}(h:qy p t=some rv):dF prog 186 [.agg (aB.enc p),.one (lI t)] [] (one (lI rv)) []:=by
 refine aU func186 fun Γ=>?_
 simp only[qy,az,an,aq]at h;cases h;exact gr 4 [] []
def gx(Γ:bn)(rv:Int×Bool)(cf:Cf):Prop:=Go prog f185 [] Γ (.o5 [.one (lI rv.1),.one (.bool rv.2)]) [] cf
def lG(Γ:bn)(rv:Int×Bool)(x0:List aB)(target i j:Int):Prop:=gx Γ rv ⟨[.c 120,.l 120,.b 0,.c 31],⟨49,[vL 0 2 x0 aB.enc,vI 1 target,(2,one (.fn (.func 186) [])),vI 8 (aC x0),vI 9 i,vI 10 j],[]⟩⟩
def lA(Γ:bn)(rv:Int×Bool)(x0:List aB)(target i1:Int):Prop:=gx Γ rv ⟨[.c 31],⟨49,[vL 0 2 x0 aB.enc,vI 1 target,(2,one (.fn (.func 186) [])),vI 8 (aC x0),vI 9 i1],[]⟩⟩
theorem lB(Γ:bn)(rv:Int×Bool){x0 target}:∀⦃s:Int×Int⦄ ⦃e:Int⦄,aK (fun s=>cO x0 target s.1 s.2) s=some e→lA Γ rv x0 target e→lG Γ rv x0 target s.1 s.2:=by
 refine bk ?_
 rintro⟨i,j⟩ z_ h hI hE;simp only[cO,az,an,aq]at h;rcases h with⟨h0,x1,h1,r,h2,⟨h3,h⟩|⟨h3,h⟩⟩|⟨h0,h⟩
 ·exact gn 14 [0,1,2,8,9,10] [] [bT h0,oO (zL 1),cE aB.enc h1,cC (w5 h2),bT h3] (hI h)
 ·exact gn 14 [0,1,2,8,9,10] [] [bT h0,oO (zL 1),cE aB.enc h1,cC (w5 h2),bF h3] (hI h)
 ·exact gn 5 [0,1,2,8,9] [] [bF h0] (hE h)
theorem dp{x0 target}{rv:Int×Bool}(h:dv x0 target=some rv):dF prog 185 [.one (lL 2 x0 aB.enc),.one (lI target),.one (.fn (.func 186) [])] [] (.o5 [.one (lI rv.1),.one (.bool rv.2)]) []:=by
 refine aU func185 fun Γ=>?_
 simp only[dv,az,an,aq]at h;obtain⟨i1,h4,h⟩:=h;refine gn 9 [0,1,2,8,9,10] [] [nL aB.enc x0] (lB Γ rv h4 ?_);rcases h with⟨h5,x2,h6,r1,h7,h⟩|⟨h5,h⟩
 ·cases h;exact gr 2 [] [rp 4 (bT h5),cE aB.enc h6,rp 3 (bT h5),cC (w5 h7),bT h5,bT h5]
 ·cases h;exact gr 2 [] [rp 9 (bF h5)]
theorem QK{l t}{rv:Int}(h:wE l t=some rv):dF prog 165 [.one (lL 2 l aB.enc),.one (lI t)] [] (one (lI rv)) []:=by
 refine aU func165 fun Γ=>?_
 simp only[wE,az,an,aq]at h;rcases h with⟨r,h0,⟨h1,x0,h2,h⟩|⟨h1,⟨h3,x1,h4,h⟩|⟨h3,⟨h5,x2,h6,h⟩|⟨h5,x3,h7,x4,h8,h9,h⟩⟩⟩⟩
 ·cases h;exact gr 11 [] [cC (dp h0),bT h1,cE aB.enc h2]
 ·cases h;exact gr 14 [] [cC (dp h0),bF h1,bT h3,hH (.draw 12 []),rp 2 (cE aB.enc h4)]
 ·cases h;exact gr 17 [] [cC (dp h0),bF h1,bF h3,nL aB.enc l,bT h5,hH (.draw 16 []),rp 2 (cE aB.enc h6)]
 ·cases h;exact gr 23 [] [cC (dp h0),bF h1,bF h3,nL aB.enc l,bF h5,hH (.draw 13 [(0,11),(1,12)]),cE aB.enc h7,cE aB.enc h8,hH (.draw 19 []),oO (h9)]
theorem QJ{l t}{rv:Int}(h:wD l t=some rv):dF prog 123 [.one (lL 2 l aB.enc),.one (lI t)] [] (one (lI rv)) []:=by
 refine aU func123 fun Γ=>?_
 simp only[wD,az,an,aq]at h;rcases h with⟨r,h0,⟨h1,r1,h2,⟨h3,r2,h4,h⟩|⟨h3,h⟩⟩|⟨h1,h⟩⟩
 ·obtain rfl:=oK h;exact gr 9 [] [cC (sE h0),nF h1,nF h1,cC (Hx h2),nF h1,nF h1,nF h3,cC (QK h4)]
 ·obtain rfl:=oK h;exact gr 8 [] [cC (sE h0),nF h1,nF h1,cC (Hx h2),nF h1,nF h1,nT h3]
 ·obtain rfl:=oK h;exact gr 8 [] [cC (sE h0),rp 4 (nT h1),tT]
def DB(Γ:bn)(rv:Int)(cf:Cf):Prop:=Go prog f84 [] Γ (one (lI rv)) [] cf
def J2(Γ:bn)(rv:Int)(a:aw)(t out v:Int):Prop:=DB Γ rv ⟨[.c 116,.l 116,.b 0,.c 15],⟨29,[vI 1 t,vI 5 out,vL 13 2 a.eU aB.enc,vI 14 (aC a.eU),vI 15 v],[]⟩⟩
def Iy(Γ:bn)(rv:Int)(a:aw)(t Qeh:Int):Prop:=DB Γ rv ⟨[.c 15],⟨29,[vI 5 Qeh],[]⟩⟩
theorem Iz(Γ:bn)(rv:Int){a t}:∀⦃s:Int×Int⦄ ⦃e:Int⦄,aK (fun s=>wW a t s.1 s.2) s=some e→Iy Γ rv a t e→J2 Γ rv a t s.1 s.2:=by
 refine bk ?_
 rintro⟨out,v⟩ z_ h hI hE;simp only[wW,az,an,aq]at h;rcases h with⟨h1,x0,h2,⟨h3,h⟩|⟨h3,h⟩⟩|⟨h1,h⟩
 ·exact gn 16 [1,5,13,14,15] [] [bT h1,cE aB.enc h2,bT h3] (hI h)
 ·exact gn 16 [1,5,13,14,15] [] [bT h1,cE aB.enc h2,bF h3] (hI h)
 ·exact gn 5 [5] [] [bF h1] (hE h)
theorem s5{a t}{rv:Int}(h:qs a t=some rv):dF prog 84 [.agg (aw.enc a),.one (lI t)] [] (one (lI rv)) []:=by
 refine aU func84 fun Γ=>?_
 simp only[qs,az,an,aq]at h;obtain⟨r,h0,Qeh,h4,h⟩:=h;refine gn 9 [1,5,13,14,15] [] [cC (QJ h0),nL aB.enc a.eU] (Iz Γ rv h4 ?_);obtain rfl:=oK h;exact gr 2 [] []
def mX(Γ:bn)(rv:List Int)(cf:Cf):Prop:=Go prog f50 [] Γ (one (lL 1 rv ax)) [] cf
def Iv(Γ:bn)(rv:List Int)(n:ak)(aj aE t:Int)(l l1:List Int)(v:Int):Prop:=mX Γ rv ⟨[.c 116,.l 116,.b 0,.c 15],⟨100,[vI 1 aj,vI 2 aE,vI 3 t,vP 4 0 2,vO 9 1 1 l1 ax,vI 20 (aC l),vI 21 v],[oX 2 25 (ak.enc n),oS 1 3 l1 ax]⟩⟩
def GR(Γ:bn)(rv:List Int)(n:ak)(aj aE t:Int)(l l2:List Int):Prop:=mX Γ rv ⟨[.c 15],⟨100,[vI 1 aj,vI 2 aE,vI 3 t,vP 4 0 2,vO 9 1 1 l2 ax],[oX 2 25 (ak.enc n),oS 1 3 l2 ax]⟩⟩
def Ix(Γ:bn)(rv:List Int)(n:ak)(aj aE:Int)(l l4:List Int)(Bd:Bool)(v1:Int):Prop:=mX Γ rv ⟨[.c 64812,.l 64812,.b 4,.b 3,.l 1012,.b 2,.c 127],⟨100,[vI 1 aj,vP 4 0 2,vO 9 1 1 l4 ax,vB 11 Bd,vL 39 6 n.bj aw.enc,vI 40 (aC n.bj),vI 41 v1],[oX 2 25 (ak.enc n),oS 1 3 l4 ax]⟩⟩
def GW(Γ:bn)(rv:List Int)(n:ak)(aj aE:Int)(l l5:List Int)(RU:Bool):Prop:=mX Γ rv ⟨[.b 3,.l 1012,.b 2,.c 127],⟨100,[vI 1 aj,vP 4 0 2,vO 9 1 1 l5 ax,vB 11 RU],[oX 2 25 (ak.enc n),oS 1 3 l5 ax]⟩⟩
def Iw(Γ:bn)(rv:List Int)(n:ak)(aj aE:Int)(l l3:List Int)(better:Bool):Prop:=mX Γ rv ⟨[.c 1012,.l 1012,.b 2,.c 127],⟨100,[vI 1 aj,vP 4 0 2,vO 9 1 1 l3 ax,vB 11 better],[oX 2 25 (ak.enc n),oS 1 3 l3 ax]⟩⟩
def GU(Γ:bn)(rv:List Int)(n:ak)(aj aE:Int)(l l6:List Int):Prop:=mX Γ rv ⟨[.c 127],⟨100,[vO 9 0 1 l6 ax],[oS 1 3 l6 ax]⟩⟩
theorem GS(Γ:bn)(rv:List Int){n aj aE t l}:∀⦃s:List Int×Int⦄ ⦃e:List Int⦄,aK (fun s=>gK n aj aE t l s.1 s.2) s=some e→GR Γ rv n aj aE t l e→Iv Γ rv n aj aE t l s.1 s.2:=by
 refine bk ?_
 rintro⟨l1,v⟩ z_ h hI hE;simp only[gK,az,an,aq]at h;rcases h with⟨h1,x0,h2,h⟩|⟨h1,h⟩
 ·exact gn 13 [1,2,3,4,9,20,21] [0,1] [bT h1,oO (iA h2),oO (iz ax h2),rE ax h2,hH (.rows ((gZ l1 v (-1)).map ax)),hH (.xo 1 ((gZ l1 v (-1)).map ax).length),oO (L4 ax l1 v (-1)),rp 2 (oO (vV ax l1 v (-1)))] (hI h)
 ·exact gn 5 [1,2,3,4,9] [0,1] [bF h1] (hE h)
theorem GX(Γ:bn)(rv:List Int){n aj aE l}:∀⦃s:List Int×Bool×Int⦄ ⦃e:List Int×Bool⦄,aK (fun s=>gL n aj aE l s.1 s.2.1 s.2.2) s=some e→GW Γ rv n aj aE l e.1 e.2→Ix Γ rv n aj aE l s.1 s.2.1 s.2.2:=by
 refine bk ?_
 rintro⟨l4,Bd,v1⟩ z_ h hI hE;simp only[gL,az,an,aq]at h;rcases h with⟨h8,x2,h9,⟨dN,h⟩|⟨dN,r1,gq,⟨gu,r2,ij,⟨kH,x3,nk,⟨pc,h⟩|⟨pc,r3,sG,x4,ti,⟨vF,h⟩|⟨vF,⟨va,h⟩|⟨va,h⟩⟩⟩⟩|⟨kH,h⟩⟩|⟨gu,h⟩⟩⟩|⟨h8,h⟩
 ·exact gn 16 [1,4,9,11,39,40,41] [0,1] [bT h8,cE aw.enc h9,rp 6 (bT dN),rp 14 tT] (hI h)
 ·exact gn 16 [1,4,9,11,39,40,41] [0,1] [bT h8,cE aw.enc h9,rp 4 (bF dN),cC (cz gq),rp 2 (bF dN),rp 4 (nF gu),cC (cz ij),rp 2 (nF gu),rp 4 (nF kH),oO (iA nk),oO (iz ax nk),nF kH,rE ax nk,rp 2 (nF kH),bT pc] (hI h)
 ·exact gn 25 [1,4,9,11,39,40,41] [0,1] [bT h8,cE aw.enc h9,rp 4 (bF dN),cC (cz gq),rp 2 (bF dN),rp 4 (nF gu),cC (cz ij),rp 2 (nF gu),rp 4 (nF kH),oO (iA nk),oO (iz ax nk),nF kH,rE ax nk,rp 2 (nF kH),bF pc,hH (.draw 8 []),oO (iA nk),oO (iz ax nk),rE ax nk,cC (s5 sG),oO (iA ti),oO (iz ax ti),rE ax ti,rp 8 (bT vF),tT,oO (iA ti),oO (iz ax ti),rE ax ti,hH (.rows ((gZ l4 x2.dE r3).map ax)),hH (.xo 1 ((gZ l4 x2.dE r3).map ax).length),oO (L4 ax l4 x2.dE r3),rp 5 (oO (vV ax l4 x2.dE r3))] (hI h)
 ·exact gn 25 [1,4,9,11,39,40,41] [0,1] [bT h8,cE aw.enc h9,rp 4 (bF dN),cC (cz gq),rp 2 (bF dN),rp 4 (nF gu),cC (cz ij),rp 2 (nF gu),rp 4 (nF kH),oO (iA nk),oO (iz ax nk),nF kH,rE ax nk,rp 2 (nF kH),bF pc,hH (.draw 8 []),oO (iA nk),oO (iz ax nk),rE ax nk,cC (s5 sG),oO (iA ti),oO (iz ax ti),rE ax ti,rp 5 (bF vF),oO (iA ti),oO (iz ax ti),bF vF,rE ax ti,rp 2 (bF vF),bT va,oO (iA ti),oO (iz ax ti),rE ax ti,hH (.rows ((gZ l4 x2.dE r3).map ax)),hH (.xo 1 ((gZ l4 x2.dE r3).map ax).length),oO (L4 ax l4 x2.dE r3),rp 6 (oO (vV ax l4 x2.dE r3))] (hI h)
 ·exact gn 23 [1,4,9,11,39,40,41] [0,1] [bT h8,cE aw.enc h9,rp 4 (bF dN),cC (cz gq),rp 2 (bF dN),rp 4 (nF gu),cC (cz ij),rp 2 (nF gu),rp 4 (nF kH),oO (iA nk),oO (iz ax nk),nF kH,rE ax nk,rp 2 (nF kH),bF pc,hH (.draw 8 []),oO (iA nk),oO (iz ax nk),rE ax nk,cC (s5 sG),oO (iA ti),oO (iz ax ti),rE ax ti,rp 5 (bF vF),oO (iA ti),oO (iz ax ti),bF vF,rE ax ti,rp 2 (bF vF),bF va] (hI h)
 ·exact gn 16 [1,4,9,11,39,40,41] [0,1] [bT h8,cE aw.enc h9,rp 4 (bF dN),cC (cz gq),rp 2 (bF dN),rp 4 (nF gu),cC (cz ij),rp 2 (nF gu),rp 7 (nT kH),tT] (hI h)
 ·exact gn 16 [1,4,9,11,39,40,41] [0,1] [bT h8,cE aw.enc h9,rp 4 (bF dN),cC (cz gq),rp 2 (bF dN),rp 6 (nT gu),rp 8 tT] (hI h)
 ·exact gn 5 [1,4,9,11] [0,1] [bF h8] (hE h)
theorem GV(Γ:bn)(rv:List Int){n aj aE l}:∀⦃s:List Int×Bool⦄ ⦃e:List Int⦄,aK (fun s=>oh n aj aE l s.1 s.2) s=some e→GU Γ rv n aj aE l e→Iw Γ rv n aj aE l s.1 s.2:=by
 refine bk ?_
 rintro⟨l3,better⟩ z_ h hI hE;simp only[oh,az,an,aq]at h;rcases h with⟨h7,⟨l5,RU⟩,BQ,h⟩|⟨h7,h⟩
 ·refine gn 12 [1,4,9,11,39,40,41] [0,1] [bT h7,nL aw.enc n.bj] (GX Γ rv BQ ?_);exact gn 2 [1,4,9,11] [0,1] [] (hI h)
 ·exact gn 5 [9] [1] [bF h7] (hE h)
theorem A6{n aj aE t}{rv:List Int}(h:pt n aj aE t=some rv):dF prog 50 [.agg (ak.enc n),.one (lI aj),.one (lI aE),.one (lI t)] [] (one (lL 1 rv ax)) []:=by
 refine aU func50 fun Γ=>?_
 simp only[pt,az,an,aq]at h;obtain⟨l,h0,l2,h3,h⟩:=h;refine gn 9 [1,2,3,4,9,20,21] [0,1] [nL dC n.aD,hH (.cells [lI 0]),hH (.rows (l.map ax)),oO (mk1 h0),oO (mk2 h0),oO (mk3 h0),oO (mk4 h0),oO (mk5 ax h0),nL ax l] (GS Γ rv h3 ?_);rcases h with⟨r,h4,⟨h5,x1,h6,l6,Et,h⟩|⟨h5,h⟩⟩
 ·refine gn 12 [1,4,9,11] [0,1] [cC (cz h4),nF h5,oO (iA h6),oO (iz ax h6),rE ax h6,hH (.rows ((gZ l2 aE t).map ax)),hH (.xo 1 ((gZ l2 aE t).map ax).length),oO (L4 ax l2 aE t),rp 2 (oO (vV ax l2 aE t))] (GV Γ rv Et ?_);obtain rfl:=oK h;exact gr 2 [] [hW 4,hH (.kX 0),rp 3 (eL l6 ax)]
 ·obtain rfl:=oK h;exact gr 6 [] [cC (cz h4),nT h5,hW 4,hH (.kX 1),rp 3 (eL l2 ax)]
def Fu(Γ:bn)(rv:bs)(cf:Cf):Prop:=Go prog f26 [] Γ (one (.ip [lL 1 rv.x.bG.aD dC,lL 6 rv.x.bG.bj aw.enc,lL 14 rv.x.types ag.enc,lL 16 rv.x.ah af.enc,lL 2 rv.x.db aI.enc,lL 2 rv.x.before aI.enc,lL 1 rv.xD cg] 0)) [] cf
def LF(Γ:bn)(rv:bs)(x0:ae)(l:List (List Int))(v:Int):Prop:=Fu Γ rv ⟨[.c 116,.l 116,.b 0,.c 15],⟨36,[vP 1 0 6,vP 3 1 7,vL 10 14 x0.types ag.enc,vI 11 (aC x0.types),vI 12 v],[oX 6 30 (ae.enc x0),oX 7 89 [lL 1 x0.bG.aD dC,lL 6 x0.bG.bj aw.enc,lL 14 x0.types ag.enc,lL 16 x0.ah af.enc,lL 2 x0.db aI.enc,lL 2 x0.before aI.enc,lO 2 1 l cg],oS 1 52 l cg]⟩⟩
def J8(Γ:bn)(rv:bs)(x0:ae)(l1:List (List Int)):Prop:=Fu Γ rv ⟨[.c 15],⟨36,[vP 3 0 7],[oX 7 89 [lL 1 x0.bG.aD dC,lL 6 x0.bG.bj aw.enc,lL 14 x0.types ag.enc,lL 16 x0.ah af.enc,lL 2 x0.db aI.enc,lL 2 x0.before aI.enc,lO 1 1 l1 cg],oS 1 52 l1 cg]⟩⟩
theorem J9(Γ:bn)(rv:bs){x0}:∀⦃s:List (List Int)×Int⦄ ⦃e:List (List Int)⦄,aK (fun s=>iY x0 s.1 s.2) s=some e→J8 Γ rv x0 e→LF Γ rv x0 s.1 s.2:=by
 refine bk ?_
 rintro⟨l,v⟩ z_ h hI hE;simp only[iY,az,an,aq]at h;rcases h with⟨h0,x1,h1,r,h2,h3,h⟩|⟨h0,h⟩
 ·exact gn 13 [1,3,10,11,12] [0,1,5] [bT h0,cE ag.enc h1,hH (.draw 18 [(2,15)]),cC (A6 h2),oO (Eq.refl ([r].map cg).length),aO cg h3] (hI h)
 ·exact gn 5 [3] [1,2] [bF h0] (hE h)
theorem DK{x0}{rv:bs}(h:sq x0=some rv):dF prog 26 [.agg (ae.enc x0)] [] (one (.ip [lL 1 rv.x.bG.aD dC,lL 6 rv.x.bG.bj aw.enc,lL 14 rv.x.types ag.enc,lL 16 rv.x.ah af.enc,lL 2 rv.x.db aI.enc,lL 2 rv.x.before aI.enc,lL 1 rv.xD cg] 0)) []:=by
 refine aU func26 fun Γ=>?_
 simp only[sq,az,an,aq]at h;obtain⟨l1,h4,h⟩:=h;refine gn 9 [1,3,10,11,12] [0,1,2] [nL ag.enc x0.types,hW 3,hH (.nN 1 6 1 52)] (J9 Γ rv h4 ?_);cases h;exact gr 2 [] [hW 4,hH (.kX 1),hH (.Qk_ 0),eL l1 cg]
theorem tR{t bD}{rv:Bool}(h:rb t bD=some rv):dF prog 85 [.agg (ag.enc t),.one (lI bD)] [] (one (.bool rv)) []:=by
 refine aU func85 fun Γ=>?_
 simp only[rb,az,an,aq]at h;cases h;exact gr 4 [] [rp 9 hP,oI ((bZ t.bD 0)=true),oR True ((bZ t.bD 0)=true),rp 4 (oI (((bZ t.bD 0)&&(bZ bD 0))=true)),oR True (((bZ t.bD 0)&&(bZ bD 0))=true)]
def xm(Γ:bn)(rv:Int)(cf:Cf):Prop:=Go prog f51 [] Γ (one (lI rv)) [] cf
def Cs(Γ:bn)(rv:Int)(r:bs)(o:af)(place least v:Int):Prop:=xm Γ rv ⟨[.c 116,.l 116,.b 0,.c 15],⟨52,[(0,one (.ip (bs.enc r) 0)),vI 2 place,vP 4 0 16,vI 7 least,vL 15 14 r.x.types ag.enc,vI 16 (aC r.x.types),vI 17 v],[oX 16 56 (af.enc o)]⟩⟩
def Bo(Γ:bn)(rv:Int)(r:bs)(o:af)(place WY:Int):Prop:=xm Γ rv ⟨[.c 15],⟨52,[vI 7 WY],[]⟩⟩
theorem Bp(Γ:bn)(rv:Int){r o place}:∀⦃s:Int×Int⦄ ⦃e:Int⦄,aK (fun s=>eY r o place s.1 s.2) s=some e→Bo Γ rv r o place e→Cs Γ rv r o place s.1 s.2:=by
 refine bk ?_
 rintro⟨least,v⟩ z_ h hI hE;simp only[eY,az,an,aq]at h;rcases h with⟨h0,x0,h1,x1,h2,x2,h3,r1,h4,⟨h5,h⟩|⟨h5,h⟩⟩|⟨h0,h⟩
 ·exact gn 18 [0,2,4,7,15,16,17] [0] [bT h0,cE ag.enc h1,cE cg h2,cE ax h3,cC (tR h4),rp 12 hP,oI (r1=true),oR True (r1=true),rp 2 (oI ((r1&&(bZ x2 0))=true)),rp 2 (oI (((r1&&(bZ x2 0))=true)∧(aT least 0)=false)),oI ((r1&&(bZ x2 0))=true),oI (((r1&&(bZ x2 0))=true)∧(aT least 0)=false),oR True ((r1&&(bZ x2 0))=true),bT h5] (hI h)
 ·exact gn 18 [0,2,4,7,15,16,17] [0] [bT h0,cE ag.enc h1,cE cg h2,cE ax h3,cC (tR h4),rp 12 hP,oI (r1=true),oR True (r1=true),rp 2 (oI ((r1&&(bZ x2 0))=true)),rp 2 (oI (((r1&&(bZ x2 0))=true)∧(aT least 0)=false)),oI ((r1&&(bZ x2 0))=true),oI (((r1&&(bZ x2 0))=true)∧(aT least 0)=false),oR True ((r1&&(bZ x2 0))=true),bF h5] (hI h)
 ·exact gn 5 [7] [] [bF h0] (hE h)
theorem rk{r o place}{rv:Int}(h:mH r o place=some rv):dF prog 51 [.one (.ip (bs.enc r) 0),.agg (af.enc o),.one (lI place)] [] (one (lI rv)) []:=by
 refine aU func51 fun Γ=>?_
 simp only[mH,az,an,aq]at h;obtain⟨WY,h6,h⟩:=h;refine gn 9 [0,2,4,7,15,16,17] [0] [nL ag.enc r.x.types] (Bp Γ rv h6 ?_);obtain rfl:=oK h;exact gr 2 [] []
theorem vQ{t c c1 c2 c3}{rv:Bool}(h:mc t c c1 c2 c3=some rv):dF prog 87 [.agg (ag.enc t),.one (.ip (af.enc c) 0),.one (.ip [.ip (bs.enc c1) 0] 0),.one (.ip [lI c2] 0),.one (.ip [lI c3] 0)] [] (one (.bool rv)) []:=by
 refine aU func87 fun Γ=>?_
 simp only[mc,az,an,aq]at h;rcases h with⟨r,h0,⟨h1,r1,h2,x0,h3,h⟩|⟨h1,h⟩⟩
 ·cases h;exact gr 11 [] [cC (tR h0),nF h1,hH (.draw 15 []),cC (A6 h2),cE ax h3,rp 5 hP,rp 3 (oI ((bZ x0 0)=true)),oR True ((bZ x0 0)=true)]
 ·obtain rfl:=oK h;exact gr 8 [] [cC (tR h0),nT h1]
def jH(Γ:bn)(rv:Int)(cf:Cf):Prop:=Go prog f124 [] Γ (one (lI rv)) [] cf
def oY(Γ:bn)(rv:Int)(s0:List ag)(c:af)(c1:bs)(c2 c3 v:Int):Prop:=jH Γ rv ⟨[.c 52,.l 52,.b 0,.c 7],⟨19,[vL 0 14 s0 ag.enc,(1,one (.fn (.func 87) [.ip (af.enc c) 0,.ip [.ip (bs.enc c1) 0] 0,.ip [lI c2] 0,.ip [lI c3] 0])),vI 7 (aC s0),vI 8 v],[]⟩⟩
def ot(Γ:bn)(rv:Int)(s0:List ag)(c:af)(c1:bs)(c2 c3:Int):Prop:=jH Γ rv ⟨[.c 7],⟨19,[],[]⟩⟩
theorem ou(Γ:bn)(rv:Int){s0 c c1 c2 c3}:∀⦃s:Int⦄ ⦃e:(Unit)⊕(Int)⦄,aK (fun s=>ck s0 c c1 c2 c3 s) s=some e→jf e (fun e=>ot Γ rv s0 c c1 c2 c3) (fun e=>e=rv)→oY Γ rv s0 c c1 c2 c3 s:=by
 refine bk ?_
 intro v z_ h hI hE;simp only[ck,az,an,aq]at h;rcases h with⟨h0,x0,h1,r,h2,⟨h3,h⟩|⟨h3,h⟩⟩|⟨h0,h⟩
 ·obtain rfl:=(hE h:_=rv);exact gr 14 [] [bT h0,cE ag.enc h1,cC (vQ h2),bT h3]
 ·exact gn 16 [0,1,7,8] [] [bT h0,cE ag.enc h1,cC (vQ h2),bF h3] (hI h)
 ·exact gn 5 [] [] [bF h0] (hE h)
theorem p8{s0 c c1 c2 c3}{rv:Int}(h:eS s0 c c1 c2 c3=some rv):dF prog 124 [.one (lL 14 s0 ag.enc),.one (.fn (.func 87) [.ip (af.enc c) 0,.ip [.ip (bs.enc c1) 0] 0,.ip [lI c2] 0,.ip [lI c3] 0])] [] (one (lI rv)) []:=by
 refine aU func124 fun Γ=>?_
 simp only[eS,az,an,aq]at h;obtain⟨e0,h4,h⟩:=h;refine gn 7 [0,1,7,8] [] [nL ag.enc s0] (ou Γ rv h4 ?_);rcases e0 with e0|r1
 ·cases h;exact gr 2 [] []
 ·exact oK h
theorem oo{s0 c c1 c2 c3}{rv:Bool}(h:eu s0 c c1 c2 c3=some rv):dF prog 86 [.one (lL 14 s0 ag.enc),.one (.fn (.func 87) [.ip (af.enc c) 0,.ip [.ip (bs.enc c1) 0] 0,.ip [lI c2] 0,.ip [lI c3] 0])] [] (one (.bool rv)) []:=by
 refine aU func86 fun Γ=>?_
 simp only[eu,az,an,aq]at h;obtain⟨r,h0,h⟩:=h;cases h;exact gr 4 [] [cC (p8 h0)]
theorem Fv{r o place cF}{rv:Bool}(h:nz r o place cF=some rv):dF prog 54 [.one (.ip (bs.enc r) 0),.agg (af.enc o),.one (lI place),.one (lI cF)] [] (one (.bool rv)) []:=by
 refine aU func54 fun Γ=>?_
 simp only[nz,az,an,aq]at h;obtain⟨r1,h0,h⟩:=h;obtain rfl:=oK h;exact gr 4 [] [cC (oo h0)]
theorem xn{k c c1 c2 c3}{rv:Bool}(h:ln k c c1 c2 c3=some rv):dF prog 53 [.one (lI k),.one (.ip [.ip (bs.enc c) 0] 0),.one (.ip (af.enc c1) 0),.one (.ip (aM.enc c2) 0),.one (.ip [lI c3] 0)] [] (one (.bool rv)) []:=by
 refine aU func53 fun Γ=>?_
 simp only[ln,az,an,aq]at h;obtain⟨r,h0,h⟩:=h;cases h;exact gr 4 [] [cC (Fv h0)]
def zk(Γ:bn)(rv:Int)(cf:Cf):Prop:=Go prog f52 [] Γ (one (lI rv)) [] cf
def En(Γ:bn)(rv:Int)(c:bs)(c1:af)(c2:aM)(c3 i j:Int):Prop:=zk Γ rv ⟨[.c 56,.l 56,.b 0,.c 15],⟨26,[(1,one (.fn (.func 53) [.ip [.ip (bs.enc c) 0] 0,.ip (af.enc c1) 0,.ip (aM.enc c2) 0,.ip [lI c3] 0])),vI 5 i,vI 6 j],[]⟩⟩
def C7(Γ:bn)(rv:Int)(c:bs)(c1:af)(c2:aM)(c3 i1:Int):Prop:=zk Γ rv ⟨[.c 15],⟨26,[vI 5 i1],[]⟩⟩
theorem C8(Γ:bn)(rv:Int){c c1 c2 c3}:∀⦃s:Int×Int⦄ ⦃e:Int⦄,aK (fun s=>mg c c1 c2 c3 s.1 s.2) s=some e→C7 Γ rv c c1 c2 c3 e→En Γ rv c c1 c2 c3 s.1 s.2:=by
 refine bk ?_
 rintro⟨i,j⟩ z_ h hI hE;simp only[mg,az,an,aq]at h;rcases h with⟨h0,r,h1,⟨h2,h⟩|⟨h2,h⟩⟩|⟨h0,h⟩
 ·exact gn 14 [1,5,6] [] [bT h0,oO (zL 1),cC (xn h1),nF h2] (hI h)
 ·exact gn 14 [1,5,6] [] [bT h0,oO (zL 1),cC (xn h1),nT h2] (hI h)
 ·exact gn 5 [5] [] [bF h0] (hE h)
theorem yP{n c c1 c2 c3}{rv:Int}(h:oF n c c1 c2 c3=some rv):dF prog 52 [.one (lI n),.one (.fn (.func 53) [.ip [.ip (bs.enc c) 0] 0,.ip (af.enc c1) 0,.ip (aM.enc c2) 0,.ip [lI c3] 0])] [] (one (lI rv)) []:=by
 refine aU func52 fun Γ=>?_
 simp only[oF,az,an,aq]at h;obtain⟨i1,h3,h⟩:=h;refine gn 7 [1,5,6] [] [] (C8 Γ rv h3 ?_);obtain rfl:=oK h;exact gr 2 [] []
theorem zh{r o s0}{rv:aM}(h:jx r o s0=some rv):dF prog 28 [.one (.ip (bs.enc r) 0),.agg (af.enc o),.agg (aM.enc s0)] [] (gG [lI rv.place,lI rv.bm,lI rv.bp,lI rv.bz]) []:=by
 refine aU func28 fun Γ=>?_
 simp only[jx,az,an,aq]at h;rcases h with⟨h0,h⟩|⟨h0,r1,h1,⟨h2,h⟩|⟨h2,r2,h3,⟨h4,h⟩|⟨h4,h⟩⟩⟩
 ·obtain rfl:=oK h;exact gr 8 [] [bT h0]
 ·obtain rfl:=oK h;exact gr 15 [] [bF h0,cC (rk h1),rp 5 hP,rp 3 (oI ((aT r1 0)=false)),oR True ((aT r1 0)=false),bT h2]
 ·obtain rfl:=oK h;exact gr 24 [] [bF h0,cC (rk h1),rp 5 hP,rp 3 (oI ((aT r1 0)=false)),oR True ((aT r1 0)=false),bF h2,cC (yP h3),bT h4]
 ·cases h;exact gr 27 [] [bF h0,cC (rk h1),rp 5 hP,rp 3 (oI ((aT r1 0)=false)),oR True ((aT r1 0)=false),bF h2,cC (yP h3),bF h4,hH (.draw 8 [(2,6)])]
theorem s8{s0}{rv:List af}(h:eV s0=some rv):dF prog 27 [.one (lL 16 s0 af.enc)] [] (one (lO 0 16 rv af.enc)) [oS 16 56 rv af.enc]:=by
 refine aU func27 fun Γ=>?_
 simp only[eV,az,an,aq]at h;rcases h with⟨h0,h⟩|⟨h0,h2,h⟩
 ·obtain⟨hx,h⟩:=X8 h;refine gn 5 [0,4] [] [hH (.skip)] (cf':=⟨[.c 13,.c 7],⟨8,[vL 0 16 s0 af.enc,(4,.boo)],[]⟩⟩) (go_amb 4 rfl ?_ ?_)
  ·replace h:=hx;cases h;exact gr 3 [0] [tT,hW 3,hH (.lP 2 16 56)]
  ·simp only[az,an,aq]at h;obtain⟨h1,h⟩:=h;obtain rfl:=oK h;exact gr 4 [0] [fF,aZ af.enc h1]
 ·obtain rfl:=oK h;exact gr 9 [0] [oO (neE af.enc h0),fF,hH (.bit false),aZ af.enc h2]
def J7(Γ:bn)(rv:ae×Int)(cf:Cf):Prop:=Go prog f10 [] Γ (.o5 [.agg [lL 1 rv.1.bG.aD dC,lL 6 rv.1.bG.bj aw.enc,lL 14 rv.1.types ag.enc,lL 16 rv.1.ah af.enc,lL 2 rv.1.db aI.enc,lL 2 rv.1.before aI.enc],.one (lI rv.2)]) [] cf
def O1(Γ:bn)(rv:ae×Int)(x0:ae)(r1:bs)(r2 l:List af)(v:Int):Prop:=J7 Γ rv ⟨[.c 500,.l 500,.b 0,.c 63],⟨49,[vP 1 0 6,vP 2 1 6,(4,one (.ip (bs.enc r1) 0)),vO 18 2 16 l af.enc,vI 19 (aC r2),vI 20 v],[oX 6 30 [lL 1 x0.bG.aD dC,lL 6 x0.bG.bj aw.enc,lL 14 x0.types ag.enc,lO 2 16 l af.enc,lL 2 x0.db aI.enc,lL 2 x0.before aI.enc],oX 6 30 [.dO,.dO,.dO,.dO,.dO,.dO],oS 16 56 l af.enc]⟩⟩
def M4(Γ:bn)(rv:ae×Int)(x0:ae)(r1:bs)(r2 l1:List af):Prop:=J7 Γ rv ⟨[.c 63],⟨49,[vP 1 0 6,vP 2 1 6],[oX 6 30 [lL 1 x0.bG.aD dC,lL 6 x0.bG.bj aw.enc,lL 14 x0.types ag.enc,lO 2 16 l1 af.enc,lL 2 x0.db aI.enc,lL 2 x0.before aI.enc],oX 6 30 [.dO,.dO,.dO,.dO,.dO,.dO],oS 16 56 l1 af.enc]⟩⟩
theorem M5(Γ:bn)(rv:ae×Int){x0 r1 r2}:∀⦃s:List af×Int⦄ ⦃e:List af⦄,aK (fun s=>mv x0 r1 r2 s.1 s.2) s=some e→M4 Γ rv x0 r1 r2 e→O1 Γ rv x0 r1 r2 s.1 s.2:=by
 refine bk ?_
 rintro⟨l,v⟩ z_ h hI hE;simp only[mv,az,an,aq]at h;rcases h with⟨h4,x1,h5,⟨h6,h⟩|⟨h6,r3,h7,r4,h8,h⟩⟩|⟨h4,h⟩
 ·exact gn 16 [1,2,4,18,19,20] [0,1,2] [bT h4,oO (iA h5),oO (iz af.enc h5),rE af.enc h5,bT h6] (hI h)
 ·exact gn 20 [1,2,4,18,19,20] [0,1,2] [bT h4,oO (iA h5),oO (iz af.enc h5),rE af.enc h5,bF h6,hH (.draw 10 []),cC (zh h7),oO (iA h5),oO (iz af.enc h5),rE af.enc h5,hH (.rows ((gZ l v (af.mk x1.name x1.load r3 x1.drop x1.bD x1.dA x1.split x1.bI x1.now x1.off)).map af.enc)),hH (.xo 2 ((gZ l v (af.mk x1.name x1.load r3 x1.drop x1.bD x1.dA x1.split x1.bI x1.now x1.off)).map af.enc).length),hH (.draw 10 []),oO (L4 af.enc l v (af.mk x1.name x1.load r3 x1.drop x1.bD x1.dA x1.split x1.bI x1.now x1.off)),rp 3 (oO (vV af.enc l v (af.mk x1.name x1.load r3 x1.drop x1.bD x1.dA x1.split x1.bI x1.now x1.off))),cC (zh h8),oO (iA (getSet h5 (af.mk x1.name x1.load r3 x1.drop x1.bD x1.dA x1.split x1.bI x1.now x1.off))),oO (iz af.enc (getSet h5 (af.mk x1.name x1.load r3 x1.drop x1.bD x1.dA x1.split x1.bI x1.now x1.off))),rE af.enc (getSet h5 (af.mk x1.name x1.load r3 x1.drop x1.bD x1.dA x1.split x1.bI x1.now x1.off)),hH (.rows ((gZ (gZ l v (af.mk x1.name x1.load r3 x1.drop x1.bD x1.dA x1.split x1.bI x1.now x1.off)) v (af.mk x1.name x1.load r3 r4 x1.bD x1.dA x1.split x1.bI x1.now x1.off)).map af.enc)),hH (.xo 2 ((gZ (gZ l v (af.mk x1.name x1.load r3 x1.drop x1.bD x1.dA x1.split x1.bI x1.now x1.off)) v (af.mk x1.name x1.load r3 r4 x1.bD x1.dA x1.split x1.bI x1.now x1.off)).map af.enc).length),oO (L4 af.enc (gZ l v (af.mk x1.name x1.load r3 x1.drop x1.bD x1.dA x1.split x1.bI x1.now x1.off)) v (af.mk x1.name x1.load r3 r4 x1.bD x1.dA x1.split x1.bI x1.now x1.off)),rp 4 (oO (vV af.enc (gZ l v (af.mk x1.name x1.load r3 x1.drop x1.bD x1.dA x1.split x1.bI x1.now x1.off)) v (af.mk x1.name x1.load r3 r4 x1.bD x1.dA x1.split x1.bI x1.now x1.off)))] (hI h)
 ·exact gn 5 [1,2] [0,1,2] [bF h4] (hE h)
theorem Ht{x0}{rv:ae×Int}(h:yI x0=some rv):dF prog 10 [.agg (ae.enc x0)] [] (.o5 [.agg [lL 1 rv.1.bG.aD dC,lL 6 rv.1.bG.bj aw.enc,lL 14 rv.1.types ag.enc,lL 16 rv.1.ah af.enc,lL 2 rv.1.db aI.enc,lL 2 rv.1.before aI.enc],.one (lI rv.2)]) []:=by
 refine aU func10 fun Γ=>?_
 simp only[yI,az,an,aq]at h;rcases h with⟨r,h0,⟨h1,r1,h2,r2,h3,l1,h9,h⟩|⟨h1,h⟩⟩
 ·refine gn 16 [1,2,4,18,19,20] [0,1,2] [cC (wJ h0),nF h1,cC (DK h2),cC (s8 h3),nL af.enc r2] (M5 Γ rv h9 ?_);cases h;exact gr 2 [] [hW 5,hH (.kX 2),rp 3 (eL l1 af.enc)]
 ·cases h;exact gr 8 [] [cC (wJ h0),nT h1,hW 5,hH (.fW 1 0 1),hH (.fW 1 1 6),hH (.fW 1 2 14),hH (.fW 1 3 16),hH (.fW 1 4 2),hH (.fW 1 5 2)]
def J1(Γ:bn)(rv:aw×Bool)(cf:Cf):Prop:=Go prog f89 [] Γ (.o5 [.agg [lI rv.1.aE,lI rv.1.dE,lI rv.1.aj,lI rv.1.cT,lL 2 rv.1.dM aB.enc,lL 2 rv.1.eU aB.enc],.one (.bool rv.2)]) [] cf
def OF(Γ:bn)(rv:aw×Bool)(n:ak)(aj aE dE v:Int):Prop:=J1 Γ rv ⟨[.c 116,.l 116,.b 0,.c 15],⟨31,[vP 8 0 6,vP 10 1 3,vL 18 6 n.bj aw.enc,vI 19 (aC n.bj),vI 20 v],[oX 6 59 [lI 0,lI 0,lI 0,lI 0,.dO,.dO],oX 3 154 [lI aE,lI dE,lI aj]]⟩⟩
def MQ(Γ:bn)(rv:aw×Bool)(n:ak)(aj aE dE:Int):Prop:=J1 Γ rv ⟨[.c 15],⟨31,[vP 8 0 6],[oX 6 59 [lI 0,lI 0,lI 0,lI 0,.dO,.dO]]⟩⟩
theorem MS(Γ:bn)(rv:aw×Bool){n aj aE dE}:∀⦃s:Int⦄ ⦃e:(Unit)⊕(aw×Bool)⦄,aK (fun s=>tD n aj aE dE s) s=some e→jf e (fun e=>MQ Γ rv n aj aE dE) (fun e=>e=rv)→OF Γ rv n aj aE dE s:=by
 refine bk ?_
 intro v z_ h hI hE;simp only[tD,az,an,aq]at h;rcases h with⟨h0,x0,h1,r,h2,⟨h3,h⟩|⟨h3,h⟩⟩|⟨h0,h⟩
 ·obtain rfl:=(hE h:_=rv);exact gr 14 [] [bT h0,cE aw.enc h1,hH (.draw 4 []),cC (mY h2),bT h3]
 ·exact gn 16 [8,10,18,19,20] [0,1] [bT h0,cE aw.enc h1,hH (.draw 4 []),cC (mY h2),bF h3] (hI h)
 ·exact gn 5 [8] [0] [bF h0] (hE h)
theorem Hp{n aj aE dE}{rv:aw×Bool}(h:yw n aj aE dE=some rv):dF prog 89 [.agg (ak.enc n),.one (lI aj),.one (lI aE),.one (lI dE)] [] (.o5 [.agg [lI rv.1.aE,lI rv.1.dE,lI rv.1.aj,lI rv.1.cT,lL 2 rv.1.dM aB.enc,lL 2 rv.1.eU aB.enc],.one (.bool rv.2)]) []:=by
 refine aU func89 fun Γ=>?_
 simp only[yw,az,an,aq]at h;obtain⟨e0,h4,h⟩:=h;refine gn 9 [8,10,18,19,20] [1,2] [nL aw.enc n.bj] (MS Γ rv h4 ?_);rcases e0 with e0|r1
 ·cases h;exact gr 2 [] [hW 5,hH (.fW 0 4 2),hH (.fW 0 5 2)]
 ·exact oK h
theorem lN{n aj aE dE t}{rv:Int×Int×Int}(h:uQ n aj aE dE t=some rv):dF prog 60 [.agg (ak.enc n),.one (lI aj),.one (lI aE),.one (lI dE),.one (lI t)] [] (.o5 [.one (lI rv.1),.one (lI rv.2.1),.one (lI rv.2.2)]) []:=by
 refine aU func60 fun Γ=>?_
 simp only[uQ,az,an,aq]at h;rcases h with⟨r,h0,⟨h1,r1,h2,⟨h3,⟨h4,h⟩|⟨h4,r2,h5,⟨h6,r3,h7,h⟩|⟨h6,h⟩⟩⟩|⟨h3,h⟩⟩|⟨h1,h⟩⟩
 ·cases h;exact gr 13 [] [cC (cz h0),rp 3 (nF h1),cC (cz h2),nF h1,nF h1,nF h3,bT h4]
 ·cases h;exact gr 21 [] [cC (cz h0),rp 3 (nF h1),cC (cz h2),nF h1,nF h1,nF h3,bF h4,cC (Hp h5),nF h6,hH (.draw 8 []),cC (s5 h7)]
 ·cases h;exact gr 20 [] [cC (cz h0),rp 3 (nF h1),cC (cz h2),nF h1,nF h1,nF h3,bF h4,cC (Hp h5),nT h6]
 ·cases h;exact gr 8 [] [cC (cz h0),rp 3 (nF h1),cC (cz h2),nF h1,nF h1,nT h3]
 ·cases h;exact gr 8 [] [cC (cz h0),rp 5 (nT h1),tT]
def A7(Γ:bn)(rv:Bool)(cf:Cf):Prop:=Go prog f35 [] Γ (one (.bool rv)) [] cf
def G1(Γ:bn)(rv:Bool)(r:bs)(a:aw)(v:Int):Prop:=A7 Γ rv ⟨[.c 52,.l 52,.b 0,.c 7],⟨68,[(0,one (.ip (bs.enc r) 0)),vP 3 0 6,vL 15 14 r.x.types ag.enc,vI 16 (aC r.x.types),vI 17 v],[oX 6 59 (aw.enc a)]⟩⟩
def Fw(Γ:bn)(rv:Bool)(r:bs)(a:aw):Prop:=A7 Γ rv ⟨[.c 7],⟨68,[],[]⟩⟩
theorem Fx(Γ:bn)(rv:Bool){r a}:∀⦃s:Int⦄ ⦃e:(Unit)⊕(Bool)⦄,aK (fun s=>gX r a s) s=some e→jf e (fun e=>Fw Γ rv r a) (fun e=>e=rv)→G1 Γ rv r a s:=by
 refine bk ?_
 intro v z_ h hI hE;simp only[gX,az,an,aq]at h;rcases h with⟨h0,x0,h1,x1,h2,x2,h3,⟨h4,h⟩|⟨h4,r1,h5,⟨h6,h⟩|⟨h6,h⟩⟩⟩|⟨h0,h⟩
 ·exact gn 18 [0,3,15,16,17] [0] [bT h0,cE ag.enc h1,hH (.draw 12 []),cE cg h2,cE ax h3,hP,hP,hP,oI ((cA x0.aj a.aj)=false),oR True ((cA x0.aj a.aj)=false),bT h4] (hI h)
 ·obtain rfl:=(hE h:_=rv);exact gr 23 [] [bT h0,cE ag.enc h1,hH (.draw 12 []),cE cg h2,cE ax h3,hP,hP,hP,oI ((cA x0.aj a.aj)=false),oR True ((cA x0.aj a.aj)=false),bF h4,hH (.draw 20 []),cC (lN h5),rp 5 hP,rp 3 (oI ((bP r1.2.2 0)=true)),oR True ((bP r1.2.2 0)=true),bT h6]
 ·exact gn 25 [0,3,15,16,17] [0] [bT h0,cE ag.enc h1,hH (.draw 12 []),cE cg h2,cE ax h3,hP,hP,hP,oI ((cA x0.aj a.aj)=false),oR True ((cA x0.aj a.aj)=false),bF h4,hH (.draw 20 []),cC (lN h5),rp 5 hP,rp 3 (oI ((bP r1.2.2 0)=true)),oR True ((bP r1.2.2 0)=true),bF h6] (hI h)
 ·exact gn 5 [] [] [bF h0] (hE h)
theorem Ak{r a}{rv:Bool}(h:qX r a=some rv):dF prog 35 [.one (.ip (bs.enc r) 0),.agg (aw.enc a)] [] (one (.bool rv)) []:=by
 refine aU func35 fun Γ=>?_
 simp only[qX,az,an,aq]at h;obtain⟨e0,h7,h⟩:=h;refine gn 7 [0,3,15,16,17] [0] [nL ag.enc r.x.types] (Fx Γ rv h7 ?_);rcases e0 with e0|r2
 ·obtain rfl:=oK h;exact gr 2 [] []
 ·exact oK h
def Mo(Γ:bn)(rv:ae×Int)(cf:Cf):Prop:=Go prog f13 [] Γ (.o5 [.agg [lL 1 rv.1.bG.aD dC,lL 6 rv.1.bG.bj aw.enc,lL 14 rv.1.types ag.enc,lL 16 rv.1.ah af.enc,lL 2 rv.1.db aI.enc,lL 2 rv.1.before aI.enc],.one (lI rv.2)]) [] cf
def Qt(Γ:bn)(rv:ae×Int)(x0:ae)(r1:bs)(l:List aw)(v:Int):Prop:=Mo Γ rv ⟨[.c 500,.l 500,.b 0,.c 63],⟨34,[vP 1 0 6,vP 2 1 6,(4,one (.ip (bs.enc r1) 0)),vO 5 2 6 l aw.enc,vL 16 6 x0.bG.bj aw.enc,vI 17 (aC x0.bG.bj),vI 18 v],[oX 6 30 (ae.enc x0),oX 6 30 [.dO,.dO,.dO,.dO,.dO,.dO],oS 6 59 l aw.enc]⟩⟩
def OZ(Γ:bn)(rv:ae×Int)(x0:ae)(r1:bs)(l1:List aw):Prop:=Mo Γ rv ⟨[.c 63],⟨34,[vP 1 0 6,vP 2 1 6,vO 5 2 6 l1 aw.enc],[oX 6 30 (ae.enc x0),oX 6 30 [.dO,.dO,.dO,.dO,.dO,.dO],oS 6 59 l1 aw.enc]⟩⟩
theorem O0(Γ:bn)(rv:ae×Int){x0 r1}:∀⦃s:List aw×Int⦄ ⦃e:List aw⦄,aK (fun s=>ny x0 r1 s.1 s.2) s=some e→OZ Γ rv x0 r1 e→Qt Γ rv x0 r1 s.1 s.2:=by
 refine bk ?_
 rintro⟨l,v⟩ z_ h hI hE;simp only[ny,az,an,aq]at h;rcases h with⟨h3,x1,h4,r2,h5,⟨h6,h7,h⟩|⟨h6,h⟩⟩|⟨h3,h⟩
 ·exact gn 16 [1,2,4,5,16,17,18] [0,1,5] [bT h3,cE aw.enc h4,cC (Ak h5),bT h6,oO (Eq.refl ([x1].map aw.enc).length),aO aw.enc h7] (hI h)
 ·exact gn 16 [1,2,4,5,16,17,18] [0,1,2] [bT h3,cE aw.enc h4,cC (Ak h5),bF h6] (hI h)
 ·exact gn 5 [1,2,5] [0,1,2] [bF h3] (hE h)
theorem Tv{x0}{rv:ae×Int}(h:Aj x0=some rv):dF prog 13 [.agg (ae.enc x0)] [] (.o5 [.agg [lL 1 rv.1.bG.aD dC,lL 6 rv.1.bG.bj aw.enc,lL 14 rv.1.types ag.enc,lL 16 rv.1.ah af.enc,lL 2 rv.1.db aI.enc,lL 2 rv.1.before aI.enc],.one (lI rv.2)]) []:=by
 refine aU func13 fun Γ=>?_
 simp only[Aj,az,an,aq]at h;rcases h with⟨r,h0,⟨h1,r1,h2,l1,h8,h⟩|⟨h1,h⟩⟩
 ·refine gn 16 [1,2,4,5,16,17,18] [0,1,2] [cC (wJ h0),nF h1,cC (DK h2),nL aw.enc x0.bG.bj,hW 3,hH (.lP 5 6 59)] (O0 Γ rv h8 ?_);cases h;exact gr 4 [] [hW 11,hH (.kX 2),rp 5 (eL l1 aw.enc)]
 ·cases h;exact gr 8 [] [cC (wJ h0),nT h1,hW 5,hH (.fW 1 0 1),hH (.fW 1 1 6),hH (.fW 1 2 14),hH (.fW 1 3 16),hH (.fW 1 4 2),hH (.fW 1 5 2)]
theorem ll{x0}{rv:ae×Int}(h:rj x0=some rv):dF prog 17 [.agg (ae.enc x0)] [] (.o5 [.agg [lL 1 rv.1.bG.aD dC,lL 6 rv.1.bG.bj aw.enc,lL 14 rv.1.types ag.enc,lL 16 rv.1.ah af.enc,lL 2 rv.1.db aI.enc,lL 2 rv.1.before aI.enc],.one (lI rv.2)]) []:=by
 refine aU func17 fun Γ=>?_
 simp only[rj,az,an,aq]at h;rcases h with⟨r,h0,⟨h1,h⟩|⟨h1,r1,h2,h⟩⟩
 ·cases h;exact gr 10 [] [cC (Ht h0),bT h1,hW 6,hH (.fW 1 0 1),hH (.fW 1 1 6),hH (.fW 1 2 14),hH (.fW 1 3 16),hH (.fW 1 4 2),hH (.fW 1 5 2)]
 ·cases h;exact gr 11 [] [cC (Ht h0),bF h1,cC (Tv h2)]
def J_(Γ:bn)(rv:Int)(cf:Cf):Prop:=Go prog f37 [] Γ (one (lI rv)) [] cf
def O2(Γ:bn)(rv:Int)(l:List af)(sum v:Int):Prop:=J_ Γ rv ⟨[.c 116,.l 116,.b 0,.c 15],⟨31,[vI 3 sum,vL 6 16 l af.enc,vI 7 (aC l),vI 8 v],[]⟩⟩
def M6(Γ:bn)(rv:Int)(l:List af)(XA:Int):Prop:=J_ Γ rv ⟨[.c 15],⟨31,[vI 3 XA],[]⟩⟩
theorem M7(Γ:bn)(rv:Int){l}:∀⦃s:Int×Int⦄ ⦃e:Int⦄,aK (fun s=>Az l s.1 s.2) s=some e→M6 Γ rv l e→O2 Γ rv l s.1 s.2:=by
 refine bk ?_
 rintro⟨sum,v⟩ z_ h hI hE;simp only[Az,az,an,aq]at h;rcases h with⟨h0,x0,h1,h⟩|⟨h0,h⟩
 ·exact gn 13 [3,6,7,8] [] [bT h0,cE af.enc h1] (hI h)
 ·exact gn 5 [3] [] [bF h0] (hE h)
theorem Hu{l}{rv:Int}(h:Bq l=some rv):dF prog 37 [.one (lL 16 l af.enc)] [] (one (lI rv)) []:=by
 refine aU func37 fun Γ=>?_
 simp only[Bq,az,an,aq]at h;obtain⟨XA,h2,h⟩:=h;refine gn 9 [3,6,7,8] [] [nL af.enc l] (M7 Γ rv h2 ?_);obtain rfl:=oK h;exact gr 2 [] []
theorem Ay{x0}{rv:Int×Int×Int}(h:G0 x0=some rv):dF prog 15 [.agg (ae.enc x0)] [] (.o5 [.one (lI rv.1),.one (lI rv.2.1),.one (lI rv.2.2)]) []:=by
 refine aU func15 fun Γ=>?_
 simp only[G0,az,an,aq]at h;rcases h with⟨r,h0,⟨h1,h⟩|⟨h1,r1,h2,r2,h3,h⟩⟩
 ·cases h;exact gr 10 [] [cC (ll h0),bT h1]
 ·cases h;exact gr 11 [] [cC (ll h0),bF h1,hH (.draw 19 []),cC (Hu h2),cC (Hu h3),nL aw.enc x0.bG.bj,nL aw.enc r.1.bG.bj]
theorem kz{ba i}{rv:Bool}(h:su ba i=some rv):dF prog 135 [.one (lI ba),.one (lI i)] [] (one (.bool rv)) []:=by
 refine aU func135 fun Γ=>?_
 simp only[su,az,an,aq]at h;rcases h with⟨h0,h1,h⟩|⟨h0,h⟩
 ·cases h;exact gr 4 [] [hP,hP,hP,oI ((bZ i 0)=true),oR True ((bZ i 0)=true),rp 3 (bT h0),oO (h1),rp 3 (bT h0)]
 ·obtain rfl:=oK h;exact gr 4 [] [hP,hP,hP,oI ((bZ i 0)=true),oR True ((bZ i 0)=true),rp 6 (bF h0)]
def KB(Γ:bn)(rv:List Int)(cf:Cf):Prop:=Go prog f108 [] Γ (one (lL 1 rv ax)) [] cf
def Pf(Γ:bn)(rv:List Int)(ba:Int)(l:List Int)(v:Int):Prop:=KB Γ rv ⟨[.c 116,.l 116,.b 0,.c 15],⟨17,[vI 0 ba,vO 3 0 1 l ax,vI 5 v],[oS 1 3 l ax]⟩⟩
def Nm(Γ:bn)(rv:List Int)(ba:Int)(l1:List Int):Prop:=KB Γ rv ⟨[.c 15],⟨17,[vO 3 0 1 l1 ax],[oS 1 3 l1 ax]⟩⟩
theorem Nn(Γ:bn)(rv:List Int){ba}:∀⦃s:List Int×Int⦄ ⦃e:List Int⦄,aK (fun s=>kO ba s.1 s.2) s=some e→Nm Γ rv ba e→Pf Γ rv ba s.1 s.2:=by
 refine bk ?_
 rintro⟨l,v⟩ z_ h hI hE;simp only[kO,az,an,aq]at h;rcases h with⟨h0,r,h1,⟨h2,h3,h⟩|⟨h2,h⟩⟩|⟨h0,h⟩
 ·exact gn 16 [0,3,5] [2] [bT h0,cC (kz h1),bT h2,oO (Eq.refl ([v].map ax).length),aO ax h3] (hI h)
 ·exact gn 16 [0,3,5] [0] [bT h0,cC (kz h1),bF h2] (hI h)
 ·exact gn 5 [3] [0] [bF h0] (hE h)
theorem AB{ba}{rv:List Int}(h:s6 ba=some rv):dF prog 108 [.one (lI ba)] [] (one (lL 1 rv ax)) []:=by
 refine aU func108 fun Γ=>?_
 simp only[s6,az,an,aq]at h;obtain⟨l1,h4,h⟩:=h;refine gn 9 [0,3,5] [0] [hW 12,hH (.lP 3 1 3)] (Nn Γ rv h4 ?_);obtain rfl:=oK h;exact gr 2 [] [hW 4,hH (.kX 0),rp 3 (eL l1 ax)]
def yK(Γ:bn)(rv:List Int)(cf:Cf):Prop:=Go prog f136 [] Γ (one (lL 1 rv ax)) [] cf
def O_(Γ:bn)(rv:List Int)(before:List aI)(l l2:List Int)(VF:Bool)(v:Int):Prop:=yK Γ rv ⟨[.c 7468,.l 7468,.b 2,.b 1,.l 116,.b 0,.c 15],⟨68,[vL 1 2 before aI.enc,vO 5 0 1 l2 ax,vB 6 VF,vL 16 2 before aI.enc,vI 17 (aC before),vI 18 v],[oS 1 3 l2 ax]⟩⟩
def Nh(Γ:bn)(rv:List Int)(before:List aI)(l l3:List Int)(QcF:Bool):Prop:=yK Γ rv ⟨[.b 1,.l 116,.b 0,.c 15],⟨68,[vL 1 2 before aI.enc,vO 5 0 1 l3 ax,vB 6 QcF],[oS 1 3 l3 ax]⟩⟩
def O9(Γ:bn)(rv:List Int)(before:List aI)(l l1:List Int)(more:Bool):Prop:=yK Γ rv ⟨[.c 116,.l 116,.b 0,.c 15],⟨68,[vL 1 2 before aI.enc,vO 5 0 1 l1 ax,vB 6 more],[oS 1 3 l1 ax]⟩⟩
def Nf(Γ:bn)(rv:List Int)(before:List aI)(l l4:List Int):Prop:=yK Γ rv ⟨[.c 15],⟨68,[vO 5 0 1 l4 ax],[oS 1 3 l4 ax]⟩⟩
theorem Ni(Γ:bn)(rv:List Int){before l}:∀⦃s:List Int×Bool×Int⦄ ⦃e:List Int×Bool⦄,aK (fun s=>tF before l s.1 s.2.1 s.2.2) s=some e→Nh Γ rv before l e.1 e.2→O_ Γ rv before l s.1 s.2.1 s.2.2:=by
 refine bk ?_
 rintro⟨l2,VF,v⟩ z_ h hI hE;simp only[tF,az,an,aq]at h;rcases h with⟨h2,x0,h3,⟨h4,h⟩|⟨h4,x1,h5,x2,h6,h7,⟨h8,h⟩|⟨h8,h⟩⟩⟩|⟨h2,h⟩
 ·exact gn 18 [1,5,6,16,17,18] [0] [bT h2,cE aI.enc h3,hH (.draw 6 []),rp 6 hP,oO (zL 0),oO (lT 0 2),oO (zL 1),oO (lT 1 2),oI ((aT x0.x0 0)=false),oR True ((aT x0.x0 0)=false),oI (((aT x0.x0 0)||(aT x0.x1 0))=false),nL ax l2,rp 5 hP,rp 2 (oI (((aT x0.x0 0)||(aT x0.x1 0))=false)),oR True (((aT x0.x0 0)||(aT x0.x1 0))=false),oI ((((aT x0.x0 0)||(aT x0.x1 0))||(bZ x0.x0 (aC l2)))=false),nL ax l2,hP,hP,rp 2 (oI ((((aT x0.x0 0)||(aT x0.x1 0))||(bZ x0.x0 (aC l2)))=false)),oR True ((((aT x0.x0 0)||(aT x0.x1 0))||(bZ x0.x0 (aC l2)))=false),bT h4] (hI h)
 ·exact gn 27 [1,5,6,16,17,18] [0] [bT h2,cE aI.enc h3,hH (.draw 6 []),rp 6 hP,oO (zL 0),oO (lT 0 2),oO (zL 1),oO (lT 1 2),oI ((aT x0.x0 0)=false),oR True ((aT x0.x0 0)=false),oI (((aT x0.x0 0)||(aT x0.x1 0))=false),nL ax l2,rp 5 hP,rp 2 (oI (((aT x0.x0 0)||(aT x0.x1 0))=false)),oR True (((aT x0.x0 0)||(aT x0.x1 0))=false),oI ((((aT x0.x0 0)||(aT x0.x1 0))||(bZ x0.x0 (aC l2)))=false),nL ax l2,hP,hP,rp 2 (oI ((((aT x0.x0 0)||(aT x0.x1 0))||(bZ x0.x0 (aC l2)))=false)),oR True ((((aT x0.x0 0)||(aT x0.x1 0))||(bZ x0.x0 (aC l2)))=false),bF h4,hH (.draw 13 []),oO (iA h5),oO (iz ax h5),rE ax h5,oO (iA h6),oO (iz ax h6),rE ax h6,oO (h7),oO (iA h5),oO (iz ax h5),rE ax h5,bT h8,oO (iA h5),oO (iz ax h5),rE ax h5,hH (.rows ((gZ l2 x0.x1 (XW .i64 (XW .i64 x1 x2) (Pg .i64 1 x0.x0))).map ax)),hH (.xo 0 ((gZ l2 x0.x1 (XW .i64 (XW .i64 x1 x2) (Pg .i64 1 x0.x0))).map ax).length),oO (L4 ax l2 x0.x1 (XW .i64 (XW .i64 x1 x2) (Pg .i64 1 x0.x0))),rp 5 (oO (vV ax l2 x0.x1 (XW .i64 (XW .i64 x1 x2) (Pg .i64 1 x0.x0))))] (hI h)
 ·exact gn 25 [1,5,6,16,17,18] [0] [bT h2,cE aI.enc h3,hH (.draw 6 []),rp 6 hP,oO (zL 0),oO (lT 0 2),oO (zL 1),oO (lT 1 2),oI ((aT x0.x0 0)=false),oR True ((aT x0.x0 0)=false),oI (((aT x0.x0 0)||(aT x0.x1 0))=false),nL ax l2,rp 5 hP,rp 2 (oI (((aT x0.x0 0)||(aT x0.x1 0))=false)),oR True (((aT x0.x0 0)||(aT x0.x1 0))=false),oI ((((aT x0.x0 0)||(aT x0.x1 0))||(bZ x0.x0 (aC l2)))=false),nL ax l2,hP,hP,rp 2 (oI ((((aT x0.x0 0)||(aT x0.x1 0))||(bZ x0.x0 (aC l2)))=false)),oR True ((((aT x0.x0 0)||(aT x0.x1 0))||(bZ x0.x0 (aC l2)))=false),bF h4,hH (.draw 13 []),oO (iA h5),oO (iz ax h5),rE ax h5,oO (iA h6),oO (iz ax h6),rE ax h6,oO (h7),oO (iA h5),oO (iz ax h5),rE ax h5,bF h8] (hI h)
 ·exact gn 5 [1,5,6] [0] [bF h2] (hE h)
theorem Ng(Γ:bn)(rv:List Int){before l}:∀⦃s:List Int×Bool⦄ ⦃e:List Int⦄,aK (fun s=>tE before l s.1 s.2) s=some e→Nf Γ rv before l e→O9 Γ rv before l s.1 s.2:=by
 refine bk ?_
 rintro⟨l1,more⟩ z_ h hI hE;simp only[tE,az,an,aq]at h;rcases h with⟨h1,⟨l3,QcF⟩,h9,h⟩|⟨h1,h⟩
 ·refine gn 12 [1,5,6,16,17,18] [0] [bT h1,nL aI.enc before] (Ni Γ rv h9 ?_);exact gn 2 [1,5,6] [0] [] (hI h)
 ·exact gn 5 [5] [0] [bF h1] (hE h)
theorem RH{ah before}{rv:List Int}(h:yJ ah before=some rv):dF prog 136 [.one (lI ah),.one (lL 2 before aI.enc)] [] (one (lL 1 rv ax)) []:=by
 refine aU func136 fun Γ=>?_
 simp only[yJ,az,an,aq]at h;obtain⟨l,h0,l4,dN,h⟩:=h;refine gn 9 [1,5,6] [0] [hH (.cells [lI 0]),hH (.rows (l.map ax)),oO (mk1 h0),oO (mk2 h0),oO (mk3 h0),oO (mk4 h0),oO (mk5 ax h0)] (Ng Γ rv dN ?_);obtain rfl:=oK h;exact gr 2 [] [hW 4,hH (.kX 0),rp 3 (eL l4 ax)]
def jF(Γ:bn)(rv:Int)(cf:Cf):Prop:=Go prog f107 [] Γ (one (lI rv)) [] cf
def M_(Γ:bn)(rv:Int)(x0:ae)(ba:Int)(r:List Int)(v:Int):Prop:=jF Γ rv ⟨[.c 244,.l 244,.b 0,.c 31],⟨102,[vI 1 ba,vP 2 0 6,vL 5 1 r ax,vL 21 1 r ax,vI 22 (aC r),vI 23 v],[oX 6 30 (ae.enc x0)]⟩⟩
def LG(Γ:bn)(rv:Int)(x0:ae)(ba:Int)(r:List Int):Prop:=jF Γ rv ⟨[.c 31],⟨102,[vI 1 ba,vP 2 0 6,vL 5 1 r ax],[oX 6 30 (ae.enc x0)]⟩⟩
def Na(Γ:bn)(rv:Int)(x0:ae)(ba:Int)(r:List Int)(v1:Int):Prop:=jF Γ rv ⟨[.c 500,.l 500,.b 2,.c 63],⟨102,[vI 1 ba,vP 2 0 6,vL 5 1 r ax,vL 33 1 r ax,vI 34 (aC r),vI 35 v1],[oX 6 30 (ae.enc x0)]⟩⟩
def LI(Γ:bn)(rv:Int)(x0:ae)(ba:Int)(r:List Int):Prop:=jF Γ rv ⟨[.c 63],⟨102,[vI 1 ba,vP 2 0 6,vL 5 1 r ax],[oX 6 30 (ae.enc x0)]⟩⟩
def Nb(Γ:bn)(rv:Int)(x0:ae)(ba:Int)(r:List Int)(v2:Int):Prop:=jF Γ rv ⟨[.c 1012,.l 1012,.b 4,.c 127],⟨102,[vI 1 ba,vP 2 0 6,vL 5 1 r ax,vL 47 2 x0.db aI.enc,vI 48 (aC x0.db),vI 49 v2],[oX 6 30 (ae.enc x0)]⟩⟩
def LK(Γ:bn)(rv:Int)(x0:ae)(ba:Int)(r:List Int):Prop:=jF Γ rv ⟨[.c 127],⟨102,[vI 1 ba,vP 2 0 6,vL 5 1 r ax],[oX 6 30 (ae.enc x0)]⟩⟩
def Nc(Γ:bn)(rv:Int)(x0:ae)(ba:Int)(r:List Int)(v3:Int):Prop:=jF Γ rv ⟨[.c 2036,.l 2036,.b 6,.c 255],⟨102,[vI 1 ba,vP 2 0 6,vL 5 1 r ax,vL 65 2 x0.before aI.enc,vI 66 (aC x0.before),vI 67 v3],[oX 6 30 (ae.enc x0)]⟩⟩
def LM(Γ:bn)(rv:Int)(x0:ae)(ba:Int)(r:List Int):Prop:=jF Γ rv ⟨[.c 255],⟨102,[vP 2 0 6,vL 5 1 r ax],[oX 6 30 (ae.enc x0)]⟩⟩
def Nd(Γ:bn)(rv:Int)(r r5:List Int)(v4:Int):Prop:=jF Γ rv ⟨[.c 8180,.l 8180,.b 8,.c 1023],⟨102,[vL 14 1 r5 ax,vL 89 1 r ax,vI 90 (aC r),vI 91 v4],[]⟩⟩
def LO(Γ:bn)(rv:Int)(r r5:List Int):Prop:=jF Γ rv ⟨[.c 1023],⟨102,[],[]⟩⟩
theorem LH(Γ:bn)(rv:Int){x0 ba r}:∀⦃s:Int⦄ ⦃e:(Unit)⊕(Int)⦄,aK (fun s=>fk x0 ba r s) s=some e→jf e (fun e=>LG Γ rv x0 ba r) (fun e=>e=rv)→M_ Γ rv x0 ba r s:=by
 refine bk ?_
 intro v z_ h hI hE;simp only[fk,az,an,aq]at h;rcases h with⟨h2,x1,h3,⟨h4,h⟩|⟨h4,h⟩⟩|⟨h2,h⟩
 ·obtain rfl:=(hE h:_=rv);exact gr 14 [] [bT h2,cE ax h3,nL af.enc x0.ah,bT h4]
 ·exact gn 16 [1,2,5,21,22,23] [0] [bT h2,cE ax h3,nL af.enc x0.ah,bF h4] (hI h)
 ·exact gn 5 [1,2,5] [0] [bF h2] (hE h)
theorem LJ(Γ:bn)(rv:Int){x0 ba r}:∀⦃s:Int⦄ ⦃e:(Unit)⊕(Int)⦄,aK (fun s=>fl x0 ba r s) s=some e→jf e (fun e=>LI Γ rv x0 ba r) (fun e=>e=rv)→Na Γ rv x0 ba r s:=by
 refine bk ?_
 intro v1 z_ h hI hE;simp only[fl,az,an,aq]at h;rcases h with⟨h6,x2,h7,x3,h8,⟨h9,h⟩|⟨h9,h⟩⟩|⟨h6,h⟩
 ·obtain rfl:=(hE h:_=rv);exact gr 14 [] [bT h6,cE ax h7,cE af.enc h8,bT h9]
 ·exact gn 16 [1,2,5,33,34,35] [0] [bT h6,cE ax h7,cE af.enc h8,bF h9] (hI h)
 ·exact gn 5 [1,2,5] [0] [bF h6] (hE h)
theorem LL(Γ:bn)(rv:Int){x0 ba r}:∀⦃s:Int⦄ ⦃e:(Unit)⊕(Int)⦄,aK (fun s=>fm x0 ba r s) s=some e→jf e (fun e=>LK Γ rv x0 ba r) (fun e=>e=rv)→Nb Γ rv x0 ba r s:=by
 refine bk ?_
 intro v2 z_ h hI hE;simp only[fm,az,an,aq]at h;rcases h with⟨gq,x4,gu,r1,ij,⟨kH,r2,nk,⟨pc,h⟩|⟨pc,h⟩⟩|⟨kH,h⟩⟩|⟨gq,h⟩
 ·obtain rfl:=(hE h:_=rv);exact gr 14 [] [bT gq,cE aI.enc gu,oO (zL 0),oO (lT 0 2),cC (kz ij),rp 2 (bT kH),oO (zL 1),oO (lT 1 2),rp 2 (bT kH),cC (kz nk),bT kH,bT pc]
 ·exact gn 16 [1,2,5,47,48,49] [0] [bT gq,cE aI.enc gu,oO (zL 0),oO (lT 0 2),cC (kz ij),rp 2 (bT kH),oO (zL 1),oO (lT 1 2),rp 2 (bT kH),cC (kz nk),bT kH,bF pc] (hI h)
 ·exact gn 16 [1,2,5,47,48,49] [0] [bT gq,cE aI.enc gu,oO (zL 0),oO (lT 0 2),cC (kz ij),rp 5 (bF kH),fF] (hI h)
 ·exact gn 5 [1,2,5] [0] [bF gq] (hE h)
theorem LN(Γ:bn)(rv:Int){x0 ba r}:∀⦃s:Int⦄ ⦃e:(Unit)⊕(Int)⦄,aK (fun s=>fp x0 ba r s) s=some e→jf e (fun e=>LM Γ rv x0 ba r) (fun e=>e=rv)→Nc Γ rv x0 ba r s:=by
 refine bk ?_
 intro v3 z_ h hI hE;simp only[fp,az,an,aq]at h;rcases h with⟨ti,x5,vF,r3,va,⟨BQ,r4,Et,⟨PU,h⟩|⟨PU,h⟩⟩|⟨BQ,h⟩⟩|⟨ti,h⟩
 ·exact gn 16 [1,2,5,65,66,67] [0] [bT ti,cE aI.enc vF,oO (zL 1),oO (lT 1 2),cC (kz va),rp 2 (bT BQ),oO (zL 0),oO (lT 0 2),rp 2 (bT BQ),cC (kz Et),rp 2 (bT BQ),nF PU] (hI h)
 ·obtain rfl:=(hE h:_=rv);exact gr 14 [] [bT ti,cE aI.enc vF,oO (zL 1),oO (lT 1 2),cC (kz va),rp 2 (bT BQ),oO (zL 0),oO (lT 0 2),rp 2 (bT BQ),cC (kz Et),rp 2 (bT BQ),nT PU]
 ·exact gn 16 [1,2,5,65,66,67] [0] [bT ti,cE aI.enc vF,oO (zL 1),oO (lT 1 2),cC (kz va),rp 6 (bF BQ),fF] (hI h)
 ·exact gn 5 [2,5] [0] [bF ti] (hE h)
theorem LP(Γ:bn)(rv:Int){r r5}:∀⦃s:Int⦄ ⦃e:(Unit)⊕(Int)⦄,aK (fun s=>fq r r5 s) s=some e→jf e (fun e=>LO Γ rv r r5) (fun e=>e=rv)→Nd Γ rv r r5 s:=by
 refine bk ?_
 intro v4 z_ h hI hE;simp only[fq,az,an,aq]at h;rcases h with⟨HG,x6,Ve,x7,T2,r6,YP,⟨YQ,h⟩|⟨YQ,h⟩⟩|⟨HG,h⟩
 ·obtain rfl:=(hE h:_=rv);exact gr 14 [] [bT HG,cE ax Ve,cE ax T2,cC (kz YP),bT YQ]
 ·exact gn 16 [14,89,90,91] [] [bT HG,cE ax Ve,cE ax T2,cC (kz YP),bF YQ] (hI h)
 ·exact gn 5 [] [] [bF HG] (hE h)
theorem Fy{x0 ba}{rv:Int}(h:o8 x0 ba=some rv):dF prog 107 [.agg (ae.enc x0),.one (lI ba)] [] (one (lI rv)) []:=by
 refine aU func107 fun Γ=>?_
 simp only[o8,az,an,aq]at h;rcases h with⟨h0,h⟩|⟨h0,r,h1,e0,h5,h⟩
 ·obtain rfl:=oK h;exact gr 8 [] [bT h0]
 ·refine gn 14 [1,2,5,21,22,23] [0] [bF h0,cC (AB h1),nL ax r] (LH Γ rv h5 ?_);rcases e0 with e0|Ft
  ·simp only[en,az,an,aq]at h;obtain⟨e1,dN,h⟩:=h;refine gn 5 [1,2,5,33,34,35] [0] [nL ax r] (LJ Γ rv dN ?_);rcases e1 with e1|Xf
   ·simp only[en,az,an,aq]at h;obtain⟨e2,sG,h⟩:=h;refine gn 5 [1,2,5,47,48,49] [0] [nL aI.enc x0.db] (LL Γ rv sG ?_);rcases e2 with e2|r9
    ·simp only[en,az,an,aq]at h;obtain⟨e3,Jh,h⟩:=h;refine gn 5 [1,2,5,65,66,67] [0] [nL aI.enc x0.before] (LN Γ rv Jh ?_);rcases e3 with e3|r8
     ·simp only[en,az,an,aq]at h;obtain⟨r5,MG,e4,Ul,h⟩:=h;refine gn 7 [14,89,90,91] [] [nL af.enc x0.ah,cC (RH MG),nL ax r] (LP Γ rv Ul ?_);rcases e4 with e4|r7
      ·obtain rfl:=oK h;exact gr 2 [] []
      ·exact oK h
     ·exact oK h
    ·exact oK h
   ·exact oK h
  ·exact oK h
theorem sk{l di}{rv:Bool}(h:xl l di=some rv):dF prog 137 [.one (lL 16 l af.enc),.one (lI di)] [] (one (.bool rv)) []:=by
 refine aU func137 fun Γ=>?_
 simp only[xl,az,an,aq]at h;cases h;exact gr 4 [] [hP,hP,hP,oI ((bZ di 0)=true),nL af.enc l,hP,hP,rp 2 (oI ((bZ di 0)=true)),oR True ((bZ di 0)=true)]
def Tk(Γ:bn)(rv:List ab)(cf:Cf):Prop:=Go prog f109 [] Γ (one (lL 2 rv ab.enc)) [] cf
theorem Cp(Γ:bn)(rv:List ab){l di l1}(h:qu l di l1=some rv):Tk Γ rv ⟨[.c 31],⟨35,[vL 0 16 l af.enc,vI 1 di,vO 5 0 2 l1 ab.enc],[oS 2 138 l1 ab.enc]⟩⟩:=by
 simp only[qu,az,an,aq]at h;rcases h with⟨x1,h5,⟨h6,h7,h⟩|⟨h6,h⟩⟩
 ·cases h;exact gr 7 [] [cE af.enc h5,bT h6,oO (Eq.refl ([(ab.mk di true)].map ab.enc).length),aO ab.enc h7,hW 5,hH (.kX 2),rp 4 (oO (Eq.refl ((l1++[(ab.mk di true)]).map ab.enc).length))]
 ·obtain rfl:=oK h;exact gr 7 [] [cE af.enc h5,bF h6,hW 5,hH (.kX 0),rp 3 (eL l1 ab.enc)]
theorem qv{l di}{rv:List ab}(h:oT l di=some rv):dF prog 109 [.one (lL 16 l af.enc),.one (lI di)] [] (one (lL 2 rv ab.enc)) []:=by
 refine aU func109 fun Γ=>?_
 simp only[oT,az,an,aq]at h;rcases h with⟨r,h0,⟨h1,x0,h2,⟨h3,h4,h⟩|⟨h3,h⟩⟩|⟨h1,h⟩⟩
 ·exact gn 14 [0,1,5] [1] [cC (sk h0),nF h1,cE af.enc h2,bT h3,oO (Eq.refl ([(ab.mk di false)].map ab.enc).length),aN (l:=([(ab.mk di false)]:List ab)) ab.enc h4] (Cp Γ rv h)
 ·exact gn 14 [0,1,5] [0] [cC (sk h0),nF h1,cE af.enc h2,bF h3,hW 1,hH (.lP 5 2 138)] (Cp Γ rv h)
 ·cases h;exact gr 10 [] [cC (sk h0),nT h1,hW 3,hH (.rh 4 0 2)]
def nM(Γ:bn)(rv:Int)(cf:Cf):Prop:=Go prog f231 [] Γ (one (lI rv)) [] cf
def ua(Γ:bn)(rv:Int)(s0:List ab)(v:ab)(v1:Int):Prop:=nM Γ rv ⟨[.c 52,.l 52,.b 0,.c 7],⟨19,[vL 0 2 s0 ab.enc,vP 3 0 2,vI 7 (aC s0),vI 8 v1],[oX 2 138 (ab.enc v)]⟩⟩
def tP(Γ:bn)(rv:Int)(s0:List ab)(v:ab):Prop:=nM Γ rv ⟨[.c 7],⟨19,[],[]⟩⟩
theorem tQ(Γ:bn)(rv:Int){s0 v}:∀⦃s:Int⦄ ⦃e:(Unit)⊕(Int)⦄,aK (fun s=>df s0 v s) s=some e→jf e (fun e=>tP Γ rv s0 v) (fun e=>e=rv)→ua Γ rv s0 v s:=by
 refine bk ?_
 intro v1 z_ h hI hE;simp only[df,az,an,aq]at h;rcases h with⟨h0,x0,h1,⟨h2,h⟩|⟨h2,h⟩⟩|⟨h0,h⟩
 ·obtain rfl:=(hE h:_=rv);exact gr 14 [] [bT h0,hH (.draw 6 []),cE ab.enc h1,bT h2]
 ·exact gn 16 [0,3,7,8] [0] [bT h0,hH (.draw 6 []),cE ab.enc h1,bF h2] (hI h)
 ·exact gn 5 [] [] [bF h0] (hE h)
theorem nC{s0 v}{rv:Int}(h:eJ s0 v=some rv):dF prog 231 [.one (lL 2 s0 ab.enc),.agg (ab.enc v)] [] (one (lI rv)) []:=by
 refine aU func231 fun Γ=>?_
 simp only[eJ,az,an,aq]at h;obtain⟨e0,h3,h⟩:=h;refine gn 7 [0,3,7,8] [0] [nL ab.enc s0] (tQ Γ rv h3 ?_);rcases e0 with e0|r
 ·cases h;exact gr 2 [] []
 ·exact oK h
theorem gO{l v}{rv:Int}(h:kG l v=some rv):dF prog 204 [.one (lL 2 l ab.enc),.agg (ab.enc v)] [] (one (lI rv)) []:=by
 refine aU func204 fun Γ=>?_
 simp only[kG,az,an,aq]at h;obtain⟨r,h0,h⟩:=h;obtain rfl:=oK h;exact gr 4 [] [cC (nC h0)]
def FD(Γ:bn)(rv:Bool)(cf:Cf):Prop:=Go prog f215 [] Γ (one (.bool rv)) [] cf
def L3(Γ:bn)(rv:Bool)(l:List ab)(v:Int):Prop:=FD Γ rv ⟨[.c 52,.l 52,.b 0,.c 7],⟨19,[vL 0 2 l ab.enc,vL 5 2 l ab.enc,vI 6 (aC l),vI 7 v],[]⟩⟩
def Kz(Γ:bn)(rv:Bool)(l:List ab):Prop:=FD Γ rv ⟨[.c 7],⟨19,[],[]⟩⟩
theorem KA(Γ:bn)(rv:Bool){l}:∀⦃s:Int⦄ ⦃e:(Unit)⊕(Bool)⦄,aK (fun s=>ky l s) s=some e→jf e (fun e=>Kz Γ rv l) (fun e=>e=rv)→L3 Γ rv l s:=by
 refine bk ?_
 intro v z_ h hI hE;simp only[ky,az,an,aq]at h;rcases h with⟨h0,x0,h1,l1,h2,r,h3,⟨h4,h⟩|⟨h4,h⟩⟩|⟨h0,h⟩
 ·obtain rfl:=(hE h:_=rv);exact gr 14 [] [bT h0,cE ab.enc h1,hH (.draw 6 []),hH (.rows (l1.map ab.enc)),oO (Px h2),oO (Py h2),oO (Ap ab.enc h2),oO (Int.le_refl v),oO (Ap ab.enc h2),oO (Pz ab.enc h2),cC (gO h3),bT h4]
 ·exact gn 16 [0,5,6,7] [] [bT h0,cE ab.enc h1,hH (.draw 6 []),hH (.rows (l1.map ab.enc)),oO (Px h2),oO (Py h2),oO (Ap ab.enc h2),oO (Int.le_refl v),oO (Ap ab.enc h2),oO (Pz ab.enc h2),cC (gO h3),bF h4] (hI h)
 ·exact gn 5 [] [] [bF h0] (hE h)
theorem yO{l}{rv:Bool}(h:uW l=some rv):dF prog 215 [.one (lL 2 l ab.enc)] [] (one (.bool rv)) []:=by
 refine aU func215 fun Γ=>?_
 simp only[uW,az,an,aq]at h;obtain⟨e0,h5,h⟩:=h;refine gn 7 [0,5,6,7] [] [nL ab.enc l] (KA Γ rv h5 ?_);rcases e0 with e0|r1
 ·obtain rfl:=oK h;exact gr 2 [] []
 ·exact oK h
theorem my{s0 v}{rv:Bool}(h:ff s0 v=some rv):dF prog 241 [.one (lL 2 s0 ab.enc),.agg (ab.enc v)] [] (one (.bool rv)) []:=by
 refine aU func241 fun Γ=>?_
 simp only[ff,az,an,aq]at h;obtain⟨r,h0,h⟩:=h;cases h;exact gr 4 [] [cC (nC h0)]
def uv(Γ:bn)(rv:Bool)(cf:Cf):Prop:=Go prog f216 [] Γ (one (.bool rv)) [] cf
def Kr(Γ:bn)(rv:Bool)(x0:ae)(l:List ab)(v:Int)(r:List ab)(bI v1:Int):Prop:=uv Γ rv ⟨[.c 108156,.l 108156,.b 2,.b 1,.c 423,.l 52,.b 0,.c 7],⟨42,[vL 1 2 l ab.enc,vP 2 0 6,vI 8 bI,vL 12 2 l ab.enc,vI 13 (aC l),vI 14 v,vL 27 2 r ab.enc,vI 28 (aC r),vI 29 v1],[oX 6 30 (ae.enc x0)]⟩⟩
def IH(Γ:bn)(rv:Bool)(x0:ae)(l:List ab)(v:Int)(r:List ab):Prop:=uv Γ rv ⟨[.b 1,.c 423,.l 52,.b 0,.c 7],⟨42,[vL 1 2 l ab.enc,vP 2 0 6,vL 12 2 l ab.enc,vI 13 (aC l),vI 14 v],[oX 6 30 (ae.enc x0)]⟩⟩
def Kq(Γ:bn)(rv:Bool)(x0:ae)(l:List ab)(v:Int):Prop:=uv Γ rv ⟨[.c 52,.l 52,.b 0,.c 7],⟨42,[vL 1 2 l ab.enc,vP 2 0 6,vL 12 2 l ab.enc,vI 13 (aC l),vI 14 v],[oX 6 30 (ae.enc x0)]⟩⟩
def IF(Γ:bn)(rv:Bool)(x0:ae)(l:List ab):Prop:=uv Γ rv ⟨[.c 7],⟨42,[],[]⟩⟩
theorem II(Γ:bn)(rv:Bool){x0 l v r}:∀⦃s:Int×Int⦄ ⦃e:(Unit)⊕(Bool)⦄,aK (fun s=>ep x0 l v r s.1 s.2) s=some e→jf e (fun e=>IH Γ rv x0 l v r) (fun e=>e=rv)→Kr Γ rv x0 l v r s.1 s.2:=by
 refine bk ?_
 rintro⟨bI,v1⟩ z_ h hI hE;simp only[ep,az,an,aq]at h;rcases h with⟨h5,x2,h6,r2,h7,⟨h8,h⟩|⟨h8,h⟩⟩|⟨h5,h⟩
 ·obtain rfl:=(hE h:_=rv);exact gr 17 [] [bT h5,cE ab.enc h6,cC (gO h7),bT h8]
 ·exact gn 20 [1,2,8,12,13,14,27,28,29] [0] [bT h5,cE ab.enc h6,cC (gO h7),bF h8] (hI h)
 ·exact gn 5 [1,2,12,13,14] [0] [bF h5] (hE h)
theorem IG(Γ:bn)(rv:Bool){x0 l}:∀⦃s:Int⦄ ⦃e:(Unit)⊕(Bool)⦄,aK (fun s=>jy x0 l s) s=some e→jf e (fun e=>IF Γ rv x0 l) (fun e=>e=rv)→Kq Γ rv x0 l s:=by
 refine bk ?_
 intro v z_ h hI hE;simp only[jy,az,an,aq]at h;rcases h with⟨h0,x1,h1,r,h2,r1,h3,⟨h4,e0,h9,h⟩|⟨h4,h⟩⟩|⟨h0,h⟩
 ·refine gn 22 [1,2,8,12,13,14,27,28,29] [0] [bT h0,cE ab.enc h1,cC (qv h2),cC (my h3),nF h4,nL ab.enc r] (II Γ rv h9 ?_);rcases e0 with e0|r3
  ·exact gn 3 [1,2,12,13,14] [0] [] (hI h)
  ·exact(hE h:_=rv)
 ·obtain rfl:=(hE h:_=rv);exact gr 17 [] [bT h0,cE ab.enc h1,cC (qv h2),cC (my h3),nT h4]
 ·exact gn 5 [] [] [bF h0] (hE h)
theorem Cy{x0 l}{rv:Bool}(h:tJ x0 l=some rv):dF prog 216 [.agg (ae.enc x0),.one (lL 2 l ab.enc)] [] (one (.bool rv)) []:=by
 refine aU func216 fun Γ=>?_
 simp only[tJ,az,an,aq]at h;obtain⟨e1,dN,h⟩:=h;refine gn 7 [1,2,12,13,14] [0] [nL ab.enc l] (IG Γ rv dN ?_);rcases e1 with e1|r4
 ·obtain rfl:=oK h;exact gr 2 [] []
 ·exact oK h
theorem DQ{v c}{rv:Bool}(h:yN v c=some rv):dF prog 242 [.agg (ab.enc v),.one (.ip [lI c] 0)] [] (one (.bool rv)) []:=by
 refine aU func242 fun Γ=>?_
 simp only[yN,az,an,aq]at h;cases h;exact gr 4 [] []
def kA(Γ:bn)(rv:Int)(cf:Cf):Prop:=Go prog f240 [] Γ (one (lI rv)) [] cf
def qa(Γ:bn)(rv:Int)(s0:List ab)(c v:Int):Prop:=kA Γ rv ⟨[.c 52,.l 52,.b 0,.c 7],⟨19,[vL 0 2 s0 ab.enc,(1,one (.fn (.func 242) [.ip [lI c] 0])),vI 7 (aC s0),vI 8 v],[]⟩⟩
def pz(Γ:bn)(rv:Int)(s0:List ab)(c:Int):Prop:=kA Γ rv ⟨[.c 7],⟨19,[],[]⟩⟩
theorem pC(Γ:bn)(rv:Int){s0 c}:∀⦃s:Int⦄ ⦃e:(Unit)⊕(Int)⦄,aK (fun s=>cw s0 c s) s=some e→jf e (fun e=>pz Γ rv s0 c) (fun e=>e=rv)→qa Γ rv s0 c s:=by
 refine bk ?_
 intro v z_ h hI hE;simp only[cw,az,an,aq]at h;rcases h with⟨h0,x0,h1,r,h2,⟨h3,h⟩|⟨h3,h⟩⟩|⟨h0,h⟩
 ·obtain rfl:=(hE h:_=rv);exact gr 14 [] [bT h0,cE ab.enc h1,cC (DQ h2),bT h3]
 ·exact gn 16 [0,1,7,8] [] [bT h0,cE ab.enc h1,cC (DQ h2),bF h3] (hI h)
 ·exact gn 5 [] [] [bF h0] (hE h)
theorem qn{s0 c}{rv:Int}(h:dQ s0 c=some rv):dF prog 240 [.one (lL 2 s0 ab.enc),.one (.fn (.func 242) [.ip [lI c] 0])] [] (one (lI rv)) []:=by
 refine aU func240 fun Γ=>?_
 simp only[dQ,az,an,aq]at h;obtain⟨e0,h4,h⟩:=h;refine gn 7 [0,1,7,8] [] [nL ab.enc s0] (pC Γ rv h4 ?_);rcases e0 with e0|r1
 ·cases h;exact gr 2 [] []
 ·exact oK h
theorem pw{s0 c}{rv:Bool}(h:eK s0 c=some rv):dF prog 212 [.one (lL 2 s0 ab.enc),.one (.fn (.func 242) [.ip [lI c] 0])] [] (one (.bool rv)) []:=by
 refine aU func212 fun Γ=>?_
 simp only[eK,az,an,aq]at h;obtain⟨r,h0,h⟩:=h;cases h;exact gr 4 [] [cC (qn h0)]
theorem mw{l o}{rv:Bool}(h:q8 l o=some rv):dF prog 217 [.one (lL 2 l ab.enc),.one (lI o)] [] (one (.bool rv)) []:=by
 refine aU func217 fun Γ=>?_
 simp only[q8,az,an,aq]at h;obtain⟨r,h0,h⟩:=h;obtain rfl:=oK h;exact gr 4 [] [cC (pw h0)]
theorem Ao{v c}{rv:Bool}(h:uu v c=some rv):dF prog 243 [.agg (ab.enc v),.one (.ip [lI c] 0)] [] (one (.bool rv)) []:=by
 refine aU func243 fun Γ=>?_
 simp only[uu,az,an,aq]at h;cases h;exact gr 4 [] []
def jB(Γ:bn)(rv:Int)(cf:Cf):Prop:=Go prog f240 [] Γ (one (lI rv)) [] cf
def oD(Γ:bn)(rv:Int)(s0:List ab)(c v:Int):Prop:=jB Γ rv ⟨[.c 52,.l 52,.b 0,.c 7],⟨19,[vL 0 2 s0 ab.enc,(1,one (.fn (.func 243) [.ip [lI c] 0])),vI 7 (aC s0),vI 8 v],[]⟩⟩
def nY(Γ:bn)(rv:Int)(s0:List ab)(c:Int):Prop:=jB Γ rv ⟨[.c 7],⟨19,[],[]⟩⟩
theorem nZ(Γ:bn)(rv:Int){s0 c}:∀⦃s:Int⦄ ⦃e:(Unit)⊕(Int)⦄,aK (fun s=>cb s0 c s) s=some e→jf e (fun e=>nY Γ rv s0 c) (fun e=>e=rv)→oD Γ rv s0 c s:=by
 refine bk ?_
 intro v z_ h hI hE;simp only[cb,az,an,aq]at h;rcases h with⟨h0,x0,h1,r,h2,⟨h3,h⟩|⟨h3,h⟩⟩|⟨h0,h⟩
 ·obtain rfl:=(hE h:_=rv);exact gr 14 [] [bT h0,cE ab.enc h1,cC (Ao h2),bT h3]
 ·exact gn 16 [0,1,7,8] [] [bT h0,cE ab.enc h1,cC (Ao h2),bF h3] (hI h)
 ·exact gn 5 [] [] [bF h0] (hE h)
theorem fK{s0 c}{rv:Int}(h:dG s0 c=some rv):dF prog 240 [.one (lL 2 s0 ab.enc),.one (.fn (.func 243) [.ip [lI c] 0])] [] (one (lI rv)) []:=by
 refine aU func240 fun Γ=>?_
 simp only[dG,az,an,aq]at h;obtain⟨e0,h4,h⟩:=h;refine gn 7 [0,1,7,8] [] [nL ab.enc s0] (nZ Γ rv h4 ?_);rcases e0 with e0|r1
 ·cases h;exact gr 2 [] []
 ·exact oK h
theorem Cx{l a b}{rv:Bool}(h:tI l a b=some rv):dF prog 218 [.one (lL 2 l ab.enc),.one (lI a),.one (lI b)] [] (one (.bool rv)) []:=by
 refine aU func218 fun Γ=>?_
 simp only[tI,az,an,aq]at h;rcases h with⟨r,h0,⟨h1,h⟩|⟨h1,r1,h2,⟨h3,l1,h4,r2,h5,h⟩|⟨h3,h⟩⟩⟩
 ·obtain rfl:=oK h;exact gr 10 [] [cC (fK h0),bT h1]
 ·cases h;exact gr 11 [] [cC (fK h0),bF h1,cC (mw h2),rp 3 (bT h3),hH (.rows (l1.map ab.enc)),oO (Px h4),oO (Qov ab.enc h4),rp 3 (oO (Int.le_refl ((l.map ab.enc).length:Int))),oO (Qow ab.enc h4),bT h3,bT h3,cC (mw h5),bT h3,bT h3]
 ·obtain rfl:=oK h;exact gr 11 [] [cC (fK h0),bF h1,cC (mw h2),rp 7 (bF h3)]
theorem Ba{v c}{rv:Bool}(h:vq v c=some rv):dF prog 213 [.agg (ab.enc v),.one (.ip (ae.enc c) 0)] [] (one (.bool rv)) []:=by
 refine aU func213 fun Γ=>?_
 simp only[vq,az,an,aq]at h;cases h;exact gr 4 [] [rp 5 hP,rp 3 (oI ((aT v.aL 0)=false)),nL af.enc c.ah,hP,hP,rp 2 (oI ((aT v.aL 0)=false)),oR True ((aT v.aL 0)=false)]
def jI(Γ:bn)(rv:Int)(cf:Cf):Prop:=Go prog f240 [] Γ (one (lI rv)) [] cf
def oZ(Γ:bn)(rv:Int)(s0:List ab)(c:ae)(v:Int):Prop:=jI Γ rv ⟨[.c 52,.l 52,.b 0,.c 7],⟨19,[vL 0 2 s0 ab.enc,(1,one (.fn (.func 213) [.ip (ae.enc c) 0])),vI 7 (aC s0),vI 8 v],[]⟩⟩
def ow(Γ:bn)(rv:Int)(s0:List ab)(c:ae):Prop:=jI Γ rv ⟨[.c 7],⟨19,[],[]⟩⟩
theorem oz(Γ:bn)(rv:Int){s0 c}:∀⦃s:Int⦄ ⦃e:(Unit)⊕(Int)⦄,aK (fun s=>cp s0 c s) s=some e→jf e (fun e=>ow Γ rv s0 c) (fun e=>e=rv)→oZ Γ rv s0 c s:=by
 refine bk ?_
 intro v z_ h hI hE;simp only[cp,az,an,aq]at h;rcases h with⟨h0,x0,h1,r,h2,⟨h3,h⟩|⟨h3,h⟩⟩|⟨h0,h⟩
 ·obtain rfl:=(hE h:_=rv);exact gr 14 [] [bT h0,cE ab.enc h1,cC (Ba h2),bT h3]
 ·exact gn 16 [0,1,7,8] [] [bT h0,cE ab.enc h1,cC (Ba h2),bF h3] (hI h)
 ·exact gn 5 [] [] [bF h0] (hE h)
theorem p9{s0 c}{rv:Int}(h:dJ s0 c=some rv):dF prog 240 [.one (lL 2 s0 ab.enc),.one (.fn (.func 213) [.ip (ae.enc c) 0])] [] (one (lI rv)) []:=by
 refine aU func240 fun Γ=>?_
 simp only[dJ,az,an,aq]at h;obtain⟨e0,h4,h⟩:=h;refine gn 7 [0,1,7,8] [] [nL ab.enc s0] (oz Γ rv h4 ?_);rcases e0 with e0|r1
 ·cases h;exact gr 2 [] []
 ·exact oK h
theorem dm{s0 c}{rv:Bool}(h:dt s0 c=some rv):dF prog 212 [.one (lL 2 s0 ab.enc),.one (.fn (.func 213) [.ip (ae.enc c) 0])] [] (one (.bool rv)) []:=by
 refine aU func212 fun Γ=>?_
 simp only[dt,az,an,aq]at h;obtain⟨r,h0,h⟩:=h;cases h;exact gr 4 [] [cC (p9 h0)]
theorem Bb{v c}{rv:Bool}(h:vr v c=some rv):dF prog 214 [.agg (ab.enc v),.one (.ip (ae.enc c) 0)] [] (one (.bool rv)) []:=by
 refine aU func214 fun Γ=>?_
 simp only[vr,az,an,aq]at h;obtain⟨x0,h0,h⟩:=h;cases h;exact gr 4 [] [cE af.enc h0]
def jJ(Γ:bn)(rv:Int)(cf:Cf):Prop:=Go prog f240 [] Γ (one (lI rv)) [] cf
def o4(Γ:bn)(rv:Int)(s0:List ab)(c:ae)(v:Int):Prop:=jJ Γ rv ⟨[.c 52,.l 52,.b 0,.c 7],⟨19,[vL 0 2 s0 ab.enc,(1,one (.fn (.func 214) [.ip (ae.enc c) 0])),vI 7 (aC s0),vI 8 v],[]⟩⟩
def oB(Γ:bn)(rv:Int)(s0:List ab)(c:ae):Prop:=jJ Γ rv ⟨[.c 7],⟨19,[],[]⟩⟩
theorem oC(Γ:bn)(rv:Int){s0 c}:∀⦃s:Int⦄ ⦃e:(Unit)⊕(Int)⦄,aK (fun s=>cq s0 c s) s=some e→jf e (fun e=>oB Γ rv s0 c) (fun e=>e=rv)→o4 Γ rv s0 c s:=by
 refine bk ?_
 intro v z_ h hI hE;simp only[cq,az,an,aq]at h;rcases h with⟨h0,x0,h1,r,h2,⟨h3,h⟩|⟨h3,h⟩⟩|⟨h0,h⟩
 ·obtain rfl:=(hE h:_=rv);exact gr 14 [] [bT h0,cE ab.enc h1,cC (Bb h2),bT h3]
 ·exact gn 16 [0,1,7,8] [] [bT h0,cE ab.enc h1,cC (Bb h2),bF h3] (hI h)
 ·exact gn 5 [] [] [bF h0] (hE h)
theorem p_{s0 c}{rv:Int}(h:dK s0 c=some rv):dF prog 240 [.one (lL 2 s0 ab.enc),.one (.fn (.func 214) [.ip (ae.enc c) 0])] [] (one (lI rv)) []:=by
 refine aU func240 fun Γ=>?_
 simp only[dK,az,an,aq]at h;obtain⟨e0,h4,h⟩:=h;refine gn 7 [0,1,7,8] [] [nL ab.enc s0] (oC Γ rv h4 ?_);rcases e0 with e0|r1
 ·cases h;exact gr 2 [] []
 ·exact oK h
theorem dV{s0 c}{rv:Bool}(h:du s0 c=some rv):dF prog 212 [.one (lL 2 s0 ab.enc),.one (.fn (.func 214) [.ip (ae.enc c) 0])] [] (one (.bool rv)) []:=by
 refine aU func212 fun Γ=>?_
 simp only[du,az,an,aq]at h;obtain⟨r,h0,h⟩:=h;cases h;exact gr 4 [] [cC (p_ h0)]
def vu(Γ:bn)(rv:Int)(cf:Cf):Prop:=Go prog f196 [] Γ (one (lI rv)) [] cf
def LS(Γ:bn)(rv:Int)(x0:ae)(r:ay)(v:Int):Prop:=vu Γ rv ⟨[.c 500,.l 500,.b 1,.c 63],⟨65,[vP 2 0 6,vL 5 2 r.ar ab.enc,vL 33 2 x0.db aI.enc,vI 34 (aC x0.db),vI 35 v],[oX 6 30 (ae.enc x0)]⟩⟩
def Kl(Γ:bn)(rv:Int)(x0:ae)(r:ay):Prop:=vu Γ rv ⟨[.c 63],⟨65,[vP 2 0 6,vL 5 2 r.ar ab.enc],[oX 6 30 (ae.enc x0)]⟩⟩
def LU(Γ:bn)(rv:Int)(x0:ae)(r:ay)(v1:Int):Prop:=vu Γ rv ⟨[.c 1012,.l 1012,.b 3,.c 127],⟨65,[vL 5 2 r.ar ab.enc,vL 51 2 x0.before aI.enc,vI 52 (aC x0.before),vI 53 v1],[]⟩⟩
def Kn(Γ:bn)(rv:Int)(x0:ae)(r:ay):Prop:=vu Γ rv ⟨[.c 127],⟨65,[],[]⟩⟩
theorem Km(Γ:bn)(rv:Int){x0 r}:∀⦃s:Int⦄ ⦃e:(Unit)⊕(Int)⦄,aK (fun s=>kk x0 r s) s=some e→jf e (fun e=>Kl Γ rv x0 r) (fun e=>e=rv)→LS Γ rv x0 r s:=by
 refine bk ?_
 intro v z_ h hI hE;simp only[kk,az,an,aq]at h;rcases h with⟨h9,x1,dN,r5,gq,⟨gu,r6,ij,⟨kH,h⟩|⟨kH,h⟩⟩|⟨gu,h⟩⟩|⟨h9,h⟩
 ·obtain rfl:=(hE h:_=rv);exact gr 14 [] [bT h9,cE aI.enc dN,oO (zL 0),oO (lT 0 2),cC (mw gq),rp 2 (bT gu),oO (zL 1),oO (lT 1 2),rp 2 (bT gu),cC (mw ij),bT gu,bT kH]
 ·exact gn 16 [2,5,33,34,35] [0] [bT h9,cE aI.enc dN,oO (zL 0),oO (lT 0 2),cC (mw gq),rp 2 (bT gu),oO (zL 1),oO (lT 1 2),rp 2 (bT gu),cC (mw ij),bT gu,bF kH] (hI h)
 ·exact gn 16 [2,5,33,34,35] [0] [bT h9,cE aI.enc dN,oO (zL 0),oO (lT 0 2),cC (mw gq),rp 5 (bF gu),fF] (hI h)
 ·exact gn 5 [2,5] [0] [bF h9] (hE h)
theorem Ko(Γ:bn)(rv:Int){x0 r}:∀⦃s:Int⦄ ⦃e:(Unit)⊕(Int)⦄,aK (fun s=>ko x0 r s) s=some e→jf e (fun e=>Kn Γ rv x0 r) (fun e=>e=rv)→LU Γ rv x0 r s:=by
 refine bk ?_
 intro v1 z_ h hI hE;simp only[ko,az,an,aq]at h;rcases h with⟨pc,x2,sG,r7,ti,⟨vF,h⟩|⟨vF,h⟩⟩|⟨pc,h⟩
 ·exact gn 16 [5,51,52,53] [] [bT pc,cE aI.enc sG,oO (zL 0),oO (lT 0 2),oO (zL 1),oO (lT 1 2),cC (Cx ti),nF vF] (hI h)
 ·obtain rfl:=(hE h:_=rv);exact gr 14 [] [bT pc,cE aI.enc sG,oO (zL 0),oO (lT 0 2),oO (zL 1),oO (lT 1 2),cC (Cx ti),nT vF]
 ·exact gn 5 [] [] [bF pc] (hE h)
theorem kp{x0 r}{rv:Int}(h:sr x0 r=some rv):dF prog 196 [.agg (ae.enc x0),.agg (ay.enc r)] [] (one (lI rv)) []:=by
 refine aU func196 fun Γ=>?_
 simp only[sr,az,an,aq]at h;rcases h with⟨h0,h⟩|⟨h0,r1,h1,⟨h2,h⟩|⟨h2,r2,h3,⟨h4,h⟩|⟨h4,r3,h5,⟨h6,h⟩|⟨h6,r4,h7,⟨h8,e0,nk,h⟩|⟨h8,h⟩⟩⟩⟩⟩
 ·obtain rfl:=oK h;exact gr 10 [] [nL ab.enc r.ar,rp 4 (bT h0),tT]
 ·obtain rfl:=oK h;exact gr 10 [] [nL ab.enc r.ar,rp 3 (bF h0),cC (dm h1),bF h0,bT h2]
 ·obtain rfl:=oK h;exact gr 16 [] [nL ab.enc r.ar,rp 3 (bF h0),cC (dm h1),bF h0,bF h2,cC (dV h3),bT h4]
 ·obtain rfl:=oK h;exact gr 19 [] [nL ab.enc r.ar,rp 3 (bF h0),cC (dm h1),bF h0,bF h2,cC (dV h3),bF h4,cC (yO h5),bT h6]
 ·refine gn 27 [2,5,33,34,35] [0] [nL ab.enc r.ar,rp 3 (bF h0),cC (dm h1),bF h0,bF h2,cC (dV h3),bF h4,cC (yO h5),bF h6,cC (Cy h7),nF h8,nL aI.enc x0.db] (Km Γ rv nk ?_);rcases e0 with e0|r9
  ·simp only[en,az,an,aq]at h;obtain⟨e1,va,h⟩:=h;refine gn 5 [5,51,52,53] [] [nL aI.enc x0.before] (Ko Γ rv va ?_);rcases e1 with e1|r8
   ·obtain rfl:=oK h;exact gr 2 [] []
   ·exact oK h
  ·exact oK h
 ·obtain rfl:=oK h;exact gr 22 [] [nL ab.enc r.ar,rp 3 (bF h0),cC (dm h1),bF h0,bF h2,cC (dV h3),bF h4,cC (yO h5),bF h6,cC (Cy h7),nT h8]
def O8(Γ:bn)(rv:Int)(cf:Cf):Prop:=Go prog f197 [] Γ (one (lI rv)) [] cf
def RG(Γ:bn)(rv:Int)(x0:ae)(r:ay)(v:Int):Prop:=O8 Γ rv ⟨[.c 52,.l 52,.b 0,.c 7],⟨30,[vP 2 0 6,vP 3 1 4,vL 8 2 r.ar ab.enc,vI 9 (aC r.ar),vI 10 v],[oX 6 30 (ae.enc x0),oX 4 48 (ay.enc r)]⟩⟩
def Qv(Γ:bn)(rv:Int)(x0:ae)(r:ay):Prop:=O8 Γ rv ⟨[.c 7],⟨30,[],[]⟩⟩
theorem Qw(Γ:bn)(rv:Int){x0 r}:∀⦃s:Int⦄ ⦃e:(Unit)⊕(Int)⦄,aK (fun s=>iu x0 r s) s=some e→jf e (fun e=>Qv Γ rv x0 r) (fun e=>e=rv)→RG Γ rv x0 r s:=by
 refine bk ?_
 intro v z_ h hI hE;simp only[iu,az,an,aq]at h;rcases h with⟨h0,x1,h1,x2,h2,x3,h3,r1,h4,⟨h5,h⟩|⟨h5,h⟩⟩|⟨h0,h⟩
 ·exact gn 16 [2,3,8,9,10] [0,1] [bT h0,cE ab.enc h1,hH (.draw 15 []),cE ag.enc h2,cE af.enc h3,cC (tR h4),nF h5] (hI h)
 ·obtain rfl:=(hE h:_=rv);exact gr 14 [] [bT h0,cE ab.enc h1,hH (.draw 15 []),cE ag.enc h2,cE af.enc h3,cC (tR h4),nT h5]
 ·exact gn 5 [] [] [bF h0] (hE h)
theorem zI{x0 r}{rv:Int}(h:wY x0 r=some rv):dF prog 197 [.agg (ae.enc x0),.agg (ay.enc r)] [] (one (lI rv)) []:=by
 refine aU func197 fun Γ=>?_
 simp only[wY,az,an,aq]at h;obtain⟨e0,h6,h⟩:=h;refine gn 7 [2,3,8,9,10] [0,1] [nL ab.enc r.ar] (Qw Γ rv h6 ?_);rcases e0 with e0|r2
 ·obtain rfl:=oK h;exact gr 2 [] []
 ·exact oK h
def DP(Γ:bn)(rv:Int×Int)(cf:Cf):Prop:=Go prog f244 [] Γ (.o5 [.one (lI rv.1),.one (lI rv.2)]) [] cf
def Kp(Γ:bn)(rv:Int×Int)(r:ay)(ba v:Int):Prop:=DP Γ rv ⟨[.c 116,.l 116,.b 0,.c 15],⟨29,[vI 4 ba,vL 8 2 r.ar ab.enc,vI 9 (aC r.ar),vI 10 v],[]⟩⟩
def ID(Γ:bn)(rv:Int×Int)(r:ay)(tK:Int):Prop:=DP Γ rv ⟨[.c 15],⟨29,[vI 4 tK],[]⟩⟩
theorem IE(Γ:bn)(rv:Int×Int){r}:∀⦃s:Int×Int⦄ ⦃e:(Int)⊕(Int×Int)⦄,aK (fun s=>p6 r s.1 s.2) s=some e→jf e (fun e=>ID Γ rv r e) (fun e=>e=rv)→Kp Γ rv r s.1 s.2:=by
 refine bk ?_
 rintro⟨ba,v⟩ z_ h hI hE;simp only[p6,az,an,aq]at h;rcases h with⟨h0,x0,h1,⟨h2,h⟩|⟨h2,h3,h⟩⟩|⟨h0,h⟩
 ·obtain rfl:=(hE h:_=rv);exact gr 15 [] [bT h0,cE ab.enc h1,rp 4 hP,rp 2 (oI ((aT x0.aL 0)=false)),oR True ((aT x0.aL 0)=false),bT h2]
 ·exact gn 18 [4,8,9,10] [] [bT h0,cE ab.enc h1,rp 4 hP,rp 2 (oI ((aT x0.aL 0)=false)),oR True ((aT x0.aL 0)=false),bF h2,oO (h3)] (hI h)
 ·exact gn 5 [4] [] [bF h0] (hE h)
theorem Cw{r}{rv:Int×Int}(h:qw r=some rv):dF prog 244 [.agg (ay.enc r)] [] (.o5 [.one (lI rv.1),.one (lI rv.2)]) []:=by
 refine aU func244 fun Γ=>?_
 simp only[qw,az,an,aq]at h;obtain⟨e0,h4,h⟩:=h;refine gn 9 [4,8,9,10] [] [nL ab.enc r.ar] (IE Γ rv h4 ?_);rcases e0 with tK|r1
 ·cases h;exact gr 2 [] []
 ·exact oK h
theorem Ut{a b}{rv:Int}(h:FZ a b=some rv):dF prog 262 [.one (lI a),.one (lI b)] [] (one (lI rv)) []:=by
 refine aU func262 fun Γ=>?_
 simp only[FZ,az,an,aq]at h;cases h;exact gr 4 [] []
def z5(Γ:bn)(rv:List Int×Int)(cf:Cf):Prop:=Go prog f261 [] Γ (.o5 [.one (lL 1 rv.1 ax),.one (lI rv.2)]) [] cf
def EO(Γ:bn)(rv:List Int×Int)(a b l l1:List Int)(v:Int):Prop:=z5 Γ rv ⟨[.c 244,.l 244,.b 0,.c 31],⟨38,[vL 0 1 a ax,vL 1 1 b ax,(2,one (.fn (.func 262) [])),vO 8 0 1 l1 ax,vI 19 (aC a),vI 20 v],[oS 1 3 l1 ax]⟩⟩
def D4(Γ:bn)(rv:List Int×Int)(a b l l2:List Int):Prop:=z5 Γ rv ⟨[.c 31],⟨38,[vO 8 0 1 l2 ax],[oS 1 3 l2 ax]⟩⟩
theorem D5(Γ:bn)(rv:List Int×Int){a b l}:∀⦃s:List Int×Int⦄ ⦃e:List Int⦄,aK (fun s=>gA a b l s.1 s.2) s=some e→D4 Γ rv a b l e→EO Γ rv a b l s.1 s.2:=by
 refine bk ?_
 rintro⟨l1,v⟩ z_ h hI hE;simp only[gA,az,an,aq]at h;rcases h with⟨h2,x0,h3,x1,h4,r,h5,x2,h6,h⟩|⟨h2,h⟩
 ·exact gn 13 [0,1,2,8,19,20] [0] [bT h2,hH (.draw 13 []),cE ax h3,cE ax h4,cC (Ut h5),oO (iA h6),oO (iz ax h6),rE ax h6,hH (.rows ((gZ l1 v r).map ax)),hH (.xo 0 ((gZ l1 v r).map ax).length),oO (L4 ax l1 v r),rp 2 (oO (vV ax l1 v r))] (hI h)
 ·exact gn 5 [8] [0] [bF h2] (hE h)
theorem HJ{a b}{rv:List Int×Int}(h:sT a b=some rv):dF prog 261 [.one (lL 1 a ax),.one (lL 1 b ax),.one (.fn (.func 262) [])] [] (.o5 [.one (lL 1 rv.1 ax),.one (lI rv.2)]) []:=by
 refine aU func261 fun Γ=>?_
 simp only[sT,az,an,aq]at h;rcases h with⟨h0,h⟩|⟨h0,l,h1,l2,h7,h⟩
 ·cases h;exact gr 8 [] [nL ax a,nL ax b,bT h0,hW 4,hH (.rh 6 0 1)]
 ·refine gn 14 [0,1,2,8,19,20] [0] [nL ax a,nL ax b,bF h0,nL ax a,hH (.cells [lI 0]),hH (.rows (l.map ax)),oO (mk1 h1),oO (mk2 h1),oO (mk3 h1),oO (mk4 h1),oO (mk5 ax h1),nL ax a] (D5 Γ rv h7 ?_);cases h;exact gr 2 [] [hW 5,hH (.kX 0),rp 3 (eL l2 ax)]
theorem FX{a b}{rv:List Int×Int}(h:BC a b=some rv):dF prog 246 [.one (lL 1 a ax),.one (lL 1 b ax)] [] (.o5 [.one (lL 1 rv.1 ax),.one (lI rv.2)]) []:=by
 refine aU func246 fun Γ=>?_
 simp only[BC,az,an,aq]at h;obtain⟨r,h0,h⟩:=h;cases h;exact gr 4 [] [cC (HJ h0)]
def Mb(Γ:bn)(rv:List Int)(cf:Cf):Prop:=Go prog f245 [] Γ (one (lL 1 rv ax)) [] cf
def PE(Γ:bn)(rv:List Int)(x0:ae)(l r sum:List Int)(v:Int):Prop:=Mb Γ rv ⟨[.c 116,.l 116,.b 0,.c 15],⟨40,[vP 3 0 6,vL 7 1 sum ax,vL 13 1 r ax,vI 14 (aC r),vI 15 v],[oX 6 30 (ae.enc x0)]⟩⟩
def NN(Γ:bn)(rv:List Int)(x0:ae)(l r XA:List Int):Prop:=Mb Γ rv ⟨[.c 15],⟨40,[vL 7 1 XA ax],[]⟩⟩
theorem NO(Γ:bn)(rv:List Int){x0 l r}:∀⦃s:List Int×Int⦄ ⦃e:List Int⦄,aK (fun s=>lR x0 l r s.1 s.2) s=some e→NN Γ rv x0 l r e→PE Γ rv x0 l r s.1 s.2:=by
 refine bk ?_
 rintro⟨sum,v⟩ z_ h hI hE;simp only[lR,az,an,aq]at h;rcases h with⟨h2,x1,h3,x2,h4,⟨h5,r1,h6,h⟩|⟨h5,h⟩⟩|⟨h2,h⟩
 ·exact gn 16 [3,7,13,14,15] [0] [bT h2,cE ax h3,cE af.enc h4,bT h5,cE af.enc h4,cC (FX h6)] (hI h)
 ·exact gn 16 [3,7,13,14,15] [0] [bT h2,cE ax h3,cE af.enc h4,bF h5] (hI h)
 ·exact gn 5 [7] [] [bF h2] (hE h)
theorem Sv{x0 ba bL}{rv:List Int}(h:zT x0 ba bL=some rv):dF prog 245 [.agg (ae.enc x0),.one (lI ba),.one (lI bL)] [] (one (lL 1 rv ax)) []:=by
 refine aU func245 fun Γ=>?_
 simp only[zT,az,an,aq]at h;obtain⟨l,h0,r,h1,XA,h7,h⟩:=h;refine gn 9 [3,7,13,14,15] [0] [hH (.cells [lI 0]),hH (.rows (l.map ax)),oO (mk1 h0),oO (mk2 h0),oO (mk3 h0),oO (mk4 h0),oO (mk5 ax h0),cC (AB h1),nL ax r,hW 3,hH (.kX 1),rp 2 (eL l ax)] (NO Γ rv h7 ?_);obtain rfl:=oK h;exact gr 2 [] []
theorem S9{a b}{rv:Int}(h:Di a b=some rv):dF prog 263 [.one (lI a),.one (lI b)] [] (one (lI rv)) []:=by
 refine aU func263 fun Γ=>?_
 simp only[Di,az,an,aq]at h;cases h;exact gr 4 [] []
def y6(Γ:bn)(rv:List Int×Int)(cf:Cf):Prop:=Go prog f261 [] Γ (.o5 [.one (lL 1 rv.1 ax),.one (lI rv.2)]) [] cf
def D3(Γ:bn)(rv:List Int×Int)(a b l l1:List Int)(v:Int):Prop:=y6 Γ rv ⟨[.c 244,.l 244,.b 0,.c 31],⟨38,[vL 0 1 a ax,vL 1 1 b ax,(2,one (.fn (.func 263) [])),vO 8 0 1 l1 ax,vI 19 (aC a),vI 20 v],[oS 1 3 l1 ax]⟩⟩
def CN(Γ:bn)(rv:List Int×Int)(a b l l2:List Int):Prop:=y6 Γ rv ⟨[.c 31],⟨38,[vO 8 0 1 l2 ax],[oS 1 3 l2 ax]⟩⟩
theorem CO(Γ:bn)(rv:List Int×Int){a b l}:∀⦃s:List Int×Int⦄ ⦃e:List Int⦄,aK (fun s=>ga a b l s.1 s.2) s=some e→CN Γ rv a b l e→D3 Γ rv a b l s.1 s.2:=by
 refine bk ?_
 rintro⟨l1,v⟩ z_ h hI hE;simp only[ga,az,an,aq]at h;rcases h with⟨h2,x0,h3,x1,h4,r,h5,x2,h6,h⟩|⟨h2,h⟩
 ·exact gn 13 [0,1,2,8,19,20] [0] [bT h2,hH (.draw 13 []),cE ax h3,cE ax h4,cC (S9 h5),oO (iA h6),oO (iz ax h6),rE ax h6,hH (.rows ((gZ l1 v r).map ax)),hH (.xo 0 ((gZ l1 v r).map ax).length),oO (L4 ax l1 v r),rp 2 (oO (vV ax l1 v r))] (hI h)
 ·exact gn 5 [8] [0] [bF h2] (hE h)
theorem FY{a b}{rv:List Int×Int}(h:rB a b=some rv):dF prog 261 [.one (lL 1 a ax),.one (lL 1 b ax),.one (.fn (.func 263) [])] [] (.o5 [.one (lL 1 rv.1 ax),.one (lI rv.2)]) []:=by
 refine aU func261 fun Γ=>?_
 simp only[rB,az,an,aq]at h;rcases h with⟨h0,h⟩|⟨h0,l,h1,l2,h7,h⟩
 ·cases h;exact gr 8 [] [nL ax a,nL ax b,bT h0,hW 4,hH (.rh 6 0 1)]
 ·refine gn 14 [0,1,2,8,19,20] [0] [nL ax a,nL ax b,bF h0,nL ax a,hH (.cells [lI 0]),hH (.rows (l.map ax)),oO (mk1 h1),oO (mk2 h1),oO (mk3 h1),oO (mk4 h1),oO (mk5 ax h1),nL ax a] (CO Γ rv h7 ?_);cases h;exact gr 2 [] [hW 5,hH (.kX 0),rp 3 (eL l2 ax)]
theorem Ox{a b}{rv:List Int×Int}(h:EN a b=some rv):dF prog 247 [.one (lL 1 a ax),.one (lL 1 b ax)] [] (.o5 [.one (lL 1 rv.1 ax),.one (lI rv.2)]) []:=by
 refine aU func247 fun Γ=>?_
 simp only[EN,az,an,aq]at h;obtain⟨r,h0,h⟩:=h;cases h;exact gr 4 [] [cC (FY h0)]
def Ma(Γ:bn)(rv:List (List Int)×Int)(cf:Cf):Prop:=Go prog f219 [] Γ (.o5 [.one (lL 1 rv.1 cg),.one (lI rv.2)]) [] cf
def PD(Γ:bn)(rv:List (List Int)×Int)(x0:ae)(r:ay)(l:List (List Int))(now:List Int)(v:Int):Prop:=Ma Γ rv ⟨[.c 2036,.l 2036,.b 0,.c 255],⟨67,[vP 2 0 6,vL 9 1 now ax,vO 10 1 1 l cg,vL 37 2 r.ar ab.enc,vI 38 (aC r.ar),vI 39 v],[oX 6 30 (ae.enc x0),oS 1 52 l cg]⟩⟩
def NL(Γ:bn)(rv:List (List Int)×Int)(x0:ae)(r:ay)(l1:List (List Int)):Prop:=Ma Γ rv ⟨[.c 255],⟨67,[vO 10 0 1 l1 cg],[oS 1 52 l1 cg]⟩⟩
theorem NM(Γ:bn)(rv:List (List Int)×Int){x0 r}:∀⦃s:List (List Int)×List Int×Int⦄ ⦃e:(List (List Int))⊕(List (List Int)×Int)⦄,aK (fun s=>lQ x0 r s.1 s.2.1 s.2.2) s=some e→jf e (fun e=>NL Γ rv x0 r e) (fun e=>e=rv)→PD Γ rv x0 r s.1 s.2.1 s.2.2:=by
 refine bk ?_
 rintro⟨l,now,v⟩ z_ h hI hE;simp only[lQ,az,an,aq]at h;rcases h with⟨h6,x1,h7,⟨h8,x2,h9,r5,dN,⟨gq,h⟩|⟨gq,gu,h⟩⟩|⟨h8,x3,ij,r6,kH,⟨nk,h⟩|⟨nk,pc,h⟩⟩⟩|⟨h6,h⟩
 ·obtain rfl:=(hE h:_=rv);exact gr 24 [] [bT h6,cE ab.enc h7,bT h8,cE af.enc h9,cC (Ox dN),bT gq,hW 5,hH (.rh 4 0 1)]
 ·exact gn 27 [2,9,10,37,38,39] [0,4] [bT h6,cE ab.enc h7,bT h8,cE af.enc h9,cC (Ox dN),bF gq,oO (Eq.refl ([r5.1].map cg).length),aO cg gu] (hI h)
 ·obtain rfl:=(hE h:_=rv);exact gr 24 [] [bT h6,cE ab.enc h7,bF h8,cE af.enc ij,cC (FX kH),bT nk,hW 5,hH (.rh 4 0 1)]
 ·exact gn 27 [2,9,10,37,38,39] [0,4] [bT h6,cE ab.enc h7,bF h8,cE af.enc ij,cC (FX kH),bF nk,oO (Eq.refl ([r6.1].map cg).length),aO cg pc] (hI h)
 ·exact gn 5 [10] [1] [bF h6] (hE h)
theorem BO{x0 r}{rv:List (List Int)×Int}(h:zS x0 r=some rv):dF prog 219 [.agg (ae.enc x0),.agg (ay.enc r)] [] (.o5 [.one (lL 1 rv.1 cg),.one (lI rv.2)]) []:=by
 refine aU func219 fun Γ=>?_
 simp only[zS,az,an,aq]at h;rcases h with⟨r1,h0,⟨h1,h⟩|⟨h1,r2,h2,⟨h3,h⟩|⟨h3,r3,h4,r4,h5,e0,sG,h⟩⟩⟩
 ·cases h;exact gr 10 [] [cC (kp h0),bT h1,hW 5,hH (.rh 4 0 1)]
 ·cases h;exact gr 17 [] [cC (kp h0),bF h1,cC (Cw h2),bT h3,hW 5,hH (.rh 4 0 1)]
 ·refine gn 25 [2,9,10,37,38,39] [0,2] [cC (kp h0),bF h1,cC (Cw h2),bF h3,hH (.draw 7 []),cC (Mj h4),cC (Sv h5),nL ab.enc r.ar] (NM Γ rv sG ?_);rcases e0 with l1|r7
  ·cases h;exact gr 2 [] [hW 5,hH (.kX 0),rp 3 (eL l1 cg)]
  ·exact oK h
end
end Go.Proofs.YtbilkblifgaflaaGreatDoor
