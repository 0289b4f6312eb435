/- Part MU. -/
import Derived.Test.YtbilkblifgaflaaGreatDoorMT
import Derived.Test.YtbilkblifgaflaaGreatDoorMC
import Derived.Test.YtbilkblifgaflaaGreatDoorProg
set_option linter.unusedSimpArgs false
set_option linter.unusedVariables false
set_option linter.unusedSectionVars false
namespace Go.Proofs.YtbilkblifgaflaaGreatDoor
open _root_.Go.Proofs.Tryz
section
set_option maxHeartbeats 4000000
set_option maxRecDepth 100000
def y5(Γ:a5)(rv:Bool)(cf:Cf):Prop:=Go prog f8 [] Γ (one (.bool rv)) [] cf
def DH(Γ:a5)(rv:Bool)(x0:ae)(i:Int):Prop:=y5 Γ rv ⟨[.c 116,.l 116,.b 0,.c 15],⟨56,[vP 1 0 6,vI 3 i],[oX 6 30 (ae.enc x0)]⟩⟩
def Cn(Γ:a5)(rv:Bool)(x0:ae):Prop:=y5 Γ rv ⟨[.c 15],⟨56,[],[]⟩⟩
theorem Co(Γ:a5)(rv:Bool){x0}:∀⦃s:Int⦄ ⦃e:(Unit)⊕(Bool)⦄,aF (fun s=>gM x0 s) s=some e→jB e (fun e=>Cn Γ rv x0) (fun e=>e=rv)→DH Γ rv x0 s:=by
 refine aY ?_
 intro i z_ h hI hE;simp only[gM,ay,an,ao]at h;rcases h with⟨h1,x1,h2,⟨h3,h⟩|⟨h3,⟨h4,h⟩|⟨h4,h⟩⟩⟩|⟨h1,h⟩
 ·obtain rfl:=(hE h:_=rv);exact gr 12 [] [nL al.enc x0.b8.aI,bT h1,cE al.enc h2,nL au.enc x1.cz,rp 10 (bT h3),tT]
 ·obtain rfl:=(hE h:_=rv);exact gr 12 [] [nL al.enc x0.b8.aI,bT h1,cE al.enc h2,nL au.enc x1.cz,rp 5 (bF h3),cE al.enc h2,rp 3 (bF h3),nL au.enc x1.dp,bF h3,bF h3,bT h4]
 ·exact gn 14 [1,3] [0] [nL al.enc x0.b8.aI,bT h1,cE al.enc h2,nL au.enc x1.cz,rp 5 (bF h3),cE al.enc h2,rp 3 (bF h3),nL au.enc x1.dp,bF h3,bF h3,bF h4] (hI h)
 ·exact gn 5 [] [] [nL al.enc x0.b8.aI,bF h1] (hE h)
theorem rK{x0}{rv:Bool}(h:oY x0=some rv):dd prog 8 [.agg (ae.enc x0)] [] (one (.bool rv)) []:=by
 refine aP func8 fun Γ=>?_
 simp only[oY,ay,an,ao]at h;rcases h with⟨h0,h⟩|⟨h0,e0,h5,h⟩
 ·obtain rfl:=oK h;exact gr 8 [] [nL ab.enc x0.aj,hP,hP,hP,rp 2 (oI ((bU (aB x0.aj) 3)=false)),nL ag.enc x0.types,rp 6 hP,oI ((bU (aB x0.aj) 3)=false),oR True ((bU (aB x0.aj) 3)=false),rp 3 (oI (((bU (aB x0.aj) 3)||(bU (aB x0.types) 3))=false)),nL bR x0.b8.av,rp 6 hP,oI (((bU (aB x0.aj) 3)||(bU (aB x0.types) 3))=false),oR True (((bU (aB x0.aj) 3)||(bU (aB x0.types) 3))=false),rp 3 (oI ((((bU (aB x0.aj) 3)||(bU (aB x0.types) 3))||(bU (aB x0.b8.av) 6))=false)),nL al.enc x0.b8.aI,hP,hP,oI ((((bU (aB x0.aj) 3)||(bU (aB x0.types) 3))||(bU (aB x0.b8.av) 6))=false),oR True ((((bU (aB x0.aj) 3)||(bU (aB x0.types) 3))||(bU (aB x0.b8.av) 6))=false),bT h0]
 ·refine gn 12 [1,3] [0] [nL ab.enc x0.aj,hP,hP,hP,rp 2 (oI ((bU (aB x0.aj) 3)=false)),nL ag.enc x0.types,rp 6 hP,oI ((bU (aB x0.aj) 3)=false),oR True ((bU (aB x0.aj) 3)=false),rp 3 (oI (((bU (aB x0.aj) 3)||(bU (aB x0.types) 3))=false)),nL bR x0.b8.av,rp 6 hP,oI (((bU (aB x0.aj) 3)||(bU (aB x0.types) 3))=false),oR True (((bU (aB x0.aj) 3)||(bU (aB x0.types) 3))=false),rp 3 (oI ((((bU (aB x0.aj) 3)||(bU (aB x0.types) 3))||(bU (aB x0.b8.av) 6))=false)),nL al.enc x0.b8.aI,hP,hP,oI ((((bU (aB x0.aj) 3)||(bU (aB x0.types) 3))||(bU (aB x0.b8.av) 6))=false),oR True ((((bU (aB x0.aj) 3)||(bU (aB x0.types) 3))||(bU (aB x0.b8.av) 6))=false),bF h0] (Co Γ rv h5 ?_);rcases e0 with e0|r
  ·obtain rfl:=oK h;exact gr 2 [] []
  ·exact oK h
theorem mz{n}{rv:List aa}(h:cU n=some rv):dd prog 112 [.one (.cM),.one (lI n)] [] (one (lO 0 2 rv aa.enc)) [oS 2 104 rv aa.enc]:=by
 refine aP func112 fun Γ=>?_
 simp only[cU,ay,an,ao]at h;rcases h with⟨h0,h⟩|⟨h0,⟨h1,l,h2,l1,h3,h⟩|⟨h1,h⟩⟩
 ·cases h
 ·obtain rfl:=oK h;exact gr 16 [0] [bF h0,bT h1,hH (.cells [lI 0,.str ByteArray.empty]),rp 3 (oO (Int.le_refl 0)),hH (.rows (l.map aa.enc)),oO (Xa h2),oO (Xb h2),oO (Xc h2),oO (Xd aa.enc h2),eL l aa.enc,hH (.rows (l1.map aa.enc)),oO (Hb h3),oO (uN aa.enc h3),oO (QcF aa.enc h3)]
 ·cases h;exact gr 16 [0] [bF h0,bF h1,hW 5,hH (.kN 4 2 104)]
def eD(Γ:a5)(rv:List aa)(cf:Cf):Prop:=Go prog f76 [] Γ (one (lL 2 rv aa.enc)) [] cf
def nZ(Γ:a5)(rv:List aa)(hG:List (List aa))(size v:Int):Prop:=eD Γ rv ⟨[.c 116,.l 116,.b 0,.c 15],⟨36,[vL 0 1 hG gV.enc,vI 3 size,vL 9 1 hG gV.enc,vI 10 (aB hG),vI 11 v],[]⟩⟩
def nC(Γ:a5)(rv:List aa)(hG:List (List aa))(RH:Int):Prop:=eD Γ rv ⟨[.c 15],⟨36,[vL 0 1 hG gV.enc,vI 3 RH],[]⟩⟩
def n0(Γ:a5)(rv:List aa)(hG:List (List aa))(l:List aa)(v1:Int):Prop:=eD Γ rv ⟨[.c 500,.l 500,.b 2,.c 63],⟨36,[vO 6 0 2 l aa.enc,vL 25 1 hG gV.enc,vI 26 (aB hG),vI 27 v1],[oS 2 104 l aa.enc]⟩⟩
def nE(Γ:a5)(rv:List aa)(hG:List (List aa))(l1:List aa):Prop:=eD Γ rv ⟨[.c 63],⟨36,[vO 6 0 2 l1 aa.enc],[oS 2 104 l1 aa.enc]⟩⟩
theorem nD(Γ:a5)(rv:List aa){hG}:∀⦃s:Int×Int⦄ ⦃e:Int⦄,aF (fun s=>bC hG s.1 s.2) s=some e→nC Γ rv hG e→nZ Γ rv hG s.1 s.2:=by
 refine aY ?_
 rintro⟨size,v⟩ z_ h hI hE;simp only[bC,ay,an,ao]at h;rcases h with⟨h0,x0,h1,⟨h2,h⟩|⟨h2,h⟩⟩|⟨h0,h⟩
 ·cases h
 ·exact gn 18 [0,3,9,10,11] [] [bT h0,cE gV.enc h1,nL aa.enc x0,bF h2] (hI h)
 ·exact gn 5 [0,3] [] [bF h0] (hE h)
theorem nG(Γ:a5)(rv:List aa){hG}:∀⦃s:List aa×Int⦄ ⦃e:List aa⦄,aF (fun s=>bD hG s.1 s.2) s=some e→nE Γ rv hG e→n0 Γ rv hG s.1 s.2:=by
 refine aY ?_
 rintro⟨l,v1⟩ z_ h hI hE;simp only[bD,ay,an,ao]at h;rcases h with⟨h5,x1,h6,h7,h⟩|⟨h5,h⟩
 ·exact gn 13 [6,25,26,27] [1] [bT h5,cE gV.enc h6,aO aa.enc h7] (hI h)
 ·exact gn 5 [6] [0] [bF h5] (hE h)
theorem oL{hG}{rv:List aa}(h:dF hG=some rv):dd prog 76 [.one (lL 1 hG gV.enc)] [] (one (lL 2 rv aa.enc)) []:=by
 refine aP func76 fun Γ=>?_
 simp only[dF,ay,an,ao]at h;obtain⟨RH,h3,h⟩:=h;refine gn 9 [0,3,9,10,11] [] [nL gV.enc hG] (nD Γ rv h3 ?_);obtain⟨r,h4,l1,h8,h⟩:=h;refine gn 7 [6,25,26,27] [0] [cC (mz h4),nL gV.enc hG] (nG Γ rv h8 ?_);obtain rfl:=oK h;exact gr 2 [] [hW 4,hH (.iY 0),rp 3 (eL l1 aa.enc)]
def tK(Γ:a5)(rv:List aa)(cf:Cf):Prop:=Go prog f77 [] Γ (one (lL 2 rv aa.enc)) [] cf
def vk(Γ:a5)(rv:List aa)(word:ByteArray)(l l2:List aa)(v:Int):Prop:=tK Γ rv ⟨[.c 116,.l 116,.b 0,.c 15],⟨36,[vS 0 word,vO 5 0 2 l2 aa.enc,vL 12 2 l aa.enc,vI 13 (aB l),vI 14 v],[oS 2 104 l2 aa.enc]⟩⟩
def uz(Γ:a5)(rv:List aa)(word:ByteArray)(l l3:List aa):Prop:=tK Γ rv ⟨[.c 15],⟨36,[vO 5 0 2 l3 aa.enc],[oS 2 104 l3 aa.enc]⟩⟩
theorem uy(Γ:a5)(rv:List aa){word l l2 v x0 ct RS}{x:(List aa×Int)⊕(List aa)}(h:ma word l l2 v x0 ct RS=some x)(hI:∀⦃s:List aa×Int⦄,some (.inl s)=some x→vk Γ rv word l s.1 s.2)(hE:∀⦃e:List aa⦄,some (.inr e)=some x→uz Γ rv word l e):tK Γ rv ⟨[.c 14951,.b 1,.c 935,.l 116,.b 0,.c 15],⟨36,[vS 0 word,vO 5 0 2 l2 aa.enc,vP 7 1 2,vS 8 RS,vL 12 2 l aa.enc,vI 13 (aB l),vI 14 v],[oS 2 104 l2 aa.enc,oX 2 104 [lI x0.EL,.str ct]]⟩⟩:=by
 simp only[ma,ay,an,ao]at h;obtain⟨h6,h⟩:=h;exact gn 4 [0,5,12,13,14] [3] [oO (Eq.refl ([(aa.mk x0.EL RS)].map aa.enc).length),aO aa.enc h6] (hI h)
theorem Cb(Γ:a5)(rv:List aa){word l}:∀⦃s:List aa×Int⦄ ⦃e:List aa⦄,aF (fun s=>mb word l s.1 s.2) s=some e→uz Γ rv word l e→vk Γ rv word l s.1 s.2:=by
 refine aY ?_
 rintro⟨l2,v⟩ z_ h hI hE;simp only[mb,ay,an,ao]at h;rcases h with⟨h1,x0,h2,⟨h3,h⟩|⟨h3,h4,h5,h⟩⟩|⟨h1,h⟩
 ·exact gn 16 [0,5,7,8,12,13,14] [0,1] [bT h1,cE aa.enc h2,nF h3] (uy Γ rv h hI hE)
 ·exact gn 16 [0,5,7,8,12,13,14] [0,1] [bT h1,cE aa.enc h2,nT h3,oO (h4),oO (h5)] (uy Γ rv h hI hE)
 ·exact gn 5 [5] [0] [bF h1] (hE h)
theorem ow{word l}{rv:List aa}(h:jE word l=some rv):dd prog 77 [.one (.str word),.one (lL 2 l aa.enc)] [] (one (lL 2 rv aa.enc)) []:=by
 refine aP func77 fun Γ=>?_
 simp only[jE,ay,an,ao]at h;obtain⟨l1,h0,l3,h7,h⟩:=h;refine gn 9 [0,5,12,13,14] [0] [nL aa.enc l,hH (.cells [lI 0,.str ByteArray.empty]),hH (.rows (l1.map aa.enc)),oO (Xa h0),oO (Yk h0),oO (Xb h0),oO (Xc h0),oO (Xd aa.enc h0),nL aa.enc l] (Cb Γ rv h7 ?_);obtain rfl:=oK h;exact gr 2 [] [hW 4,hH (.iY 0),rp 3 (eL l3 aa.enc)]
theorem H8{i}{rv:ByteArray}(h:yP i=some rv):dd prog 232 [.one (lI i)] [] (one (.str rv)) []:=by
 refine aP func232 fun Γ=>?_
 simp only[yP,ay,an,ao]at h;rcases h with⟨h0,s0,h1,h⟩|⟨h0,s1,h2,h⟩
 ·cases h;exact gr 8 [] [bT h0,oO (ss1 h1),oO (ss2 h1),oO (ss3 h1)]
 ·cases h;exact gr 9 [] [bF h0,oO (ss1 h2),oO (ss2 h2),oO (ss3 h2)]
def Eg(Γ:a5)(rv:ByteArray)(cf:Cf):Prop:=Go prog f207 [] Γ (one (.str rv)) [] cf
theorem ri(Γ:a5)(rv:ByteArray){i u}(h:mm i u=some rv):Eg Γ rv ⟨[.c 431,.c 7],⟨54,[vI 0 i,vP 5 0 24,(6,one (.int .u64 u))],[oX 24 245 [.int .u8 0,.int .u8 0,.int .u8 0,.int .u8 0,.int .u8 0,.int .u8 0,.int .u8 0,.int .u8 0,.int .u8 0,.int .u8 0,.int .u8 0,.int .u8 0,.int .u8 0,.int .u8 0,.int .u8 0,.int .u8 0,.int .u8 0,.int .u8 0,.int .u8 0,.int .u8 0,.int .u8 0,.int .u8 0,.int .u8 0,.int .u8 0]]⟩⟩:=by
 simp only[mm,ay,an,ao]at h;obtain⟨r1,h4,h⟩:=h;cases h
theorem C_{i base}{rv:ByteArray}(h:s4 i base=some rv):dd prog 207 [.one (lI i),.one (lI base)] [] (one (.str rv)) []:=by
 refine aP func207 fun Γ=>?_
 simp only[s4,ay,an,ao]at h;rcases h with⟨h0,⟨h1,r,h2,h⟩|⟨h1,⟨h3,h⟩|⟨h3,h⟩⟩⟩|⟨h0,h⟩
 ·obtain rfl:=oK h;exact gr 12 [] [bT h0,hP,hP,hP,oI ((kP 0 i)=true),oR True ((kP 0 i)=true),bT h1,cC (H8 h2)]
 ·exact gn 20 [0,5,6] [0] [bT h0,hP,hP,hP,oI ((kP 0 i)=true),oR True ((kP 0 i)=true),bF h1,bT h3] (ri Γ rv h)
 ·exact gn 20 [0,5,6] [0] [bT h0,hP,hP,hP,oI ((kP 0 i)=true),oR True ((kP 0 i)=true),bF h1,bF h3] (ri Γ rv h)
 ·cases h
theorem IY{i}{rv:ByteArray}(h:AF i=some rv):dd prog 179 [.one (lI i)] [] (one (.str rv)) []:=by
 refine aP func179 fun Γ=>?_
 simp only[AF,ay,an,ao]at h;obtain⟨r,h0,h⟩:=h;obtain rfl:=oK h;exact gr 4 [] [cC (C_ h0)]
theorem s5{i}{rv:ByteArray}(h:jL i=some rv):dd prog 146 [.one (lI i)] [] (one (.str rv)) []:=by
 refine aP func146 fun Γ=>?_
 simp only[jL,ay,an,ao]at h;obtain⟨r,h0,h⟩:=h;obtain rfl:=oK h;exact gr 4 [] [cC (IY h0)]
theorem lW{n}{rv:ByteArray}(h:jy n=some rv):dd prog 113 [.one (lI n)] [] (one (.str rv)) []:=by
 refine aP func113 fun Γ=>?_
 simp only[jy,ay,an,ao]at h;obtain⟨r,h0,h⟩:=h;obtain rfl:=oK h;exact gr 4 [] [cC (s5 h0)]
theorem uk{c}{rv:Bool}(h:AH c=some rv):dd prog 147 [.one (.int .u8 c)] [] (one (.bool rv)) []:=by
 refine aP func147 fun Γ=>?_
 simp only[AH,ay,an,ao]at h;cases h;exact gr 4 [] [hP,hP,hP,oI ((bP c 48)=true),oR True ((bP c 48)=true)]
theorem xd{c}{rv:Bool}(h:Db c=some rv):dd prog 148 [.one (.int .u8 c)] [] (one (.bool rv)) []:=by
 refine aP func148 fun Γ=>?_
 simp only[Db,ay,an,ao]at h;cases h;exact gr 4 [] [rp 14 hP,oI ((bP c 97)=true),oR True ((bP c 97)=true),rp 2 (oI (((bP c 97)&&(kP c 122))=false)),oI ((((bP c 97)&&(kP c 122))=false)∧(bP c 65)=true),oI (((bP c 97)&&(kP c 122))=false),oI ((((bP c 97)&&(kP c 122))=false)∧(bP c 65)=true),oR True (((bP c 97)&&(kP c 122))=false),oI ((((bP c 97)&&(kP c 122))||((bP c 65)&&(kP c 90)))=false),oR True ((((bP c 97)&&(kP c 122))||((bP c 65)&&(kP c 90)))=false)]
def Iw(Γ:a5)(rv:Bool)(cf:Cf):Prop:=Go prog f114 [] Γ (one (.bool rv)) [] cf
def Kx(Γ:a5)(rv:Bool)(s0:ByteArray)(b:UInt8)(v:Int):Prop:=Iw Γ rv ⟨[.c 116,.l 116,.b 0,.c 15],⟨34,[vS 0 s0,vI 17 (rh s0),vI 18 v],[]⟩⟩
def IZ(Γ:a5)(rv:Bool)(s0:ByteArray)(b:UInt8):Prop:=Iw Γ rv ⟨[.c 15],⟨34,[],[]⟩⟩
theorem I0(Γ:a5)(rv:Bool){s0 b}:∀⦃s:Int⦄ ⦃e:(Unit)⊕(Bool)⦄,aF (fun s=>AG s0 b s) s=some e→jB e (fun e=>IZ Γ rv s0 b) (fun e=>e=rv)→Kx Γ rv s0 b s:=by
 refine aY ?_
 intro v z_ h hI hE;simp only[AG,ay,an,ao]at h;rcases h with⟨h4,b1,h5,r1,h6,⟨h7,h⟩|⟨h7,r2,h8,⟨h9,h⟩|⟨h9,h⟩⟩⟩|⟨h4,h⟩
 ·exact gn 16 [0,17,18] [] [bT h4,yE h5,cC (xd h6),rp 6 (nF h7),fF] (hI h)
 ·exact gn 16 [0,17,18] [] [bT h4,yE h5,cC (xd h6),rp 3 (nT h7),yE h5,nT h7,cC (uk h8),nT h7,nT h7,nF h9] (hI h)
 ·obtain rfl:=(hE h:_=rv);exact gr 14 [] [bT h4,yE h5,cC (xd h6),rp 3 (nT h7),yE h5,nT h7,cC (uk h8),nT h7,nT h7,nT h9]
 ·exact gn 5 [] [] [bF h4] (hE h)
theorem cV{s0}{rv:Bool}(h:ue s0=some rv):dd prog 114 [.one (.str s0)] [] (one (.bool rv)) []:=by
 refine aP func114 fun Γ=>?_
 simp only[ue,ay,an,ao]at h;rcases h with⟨h0,h⟩|⟨h0,b,h1,r,h2,⟨h3,h⟩|⟨h3,e0,dq,h⟩⟩
 ·obtain rfl:=oK h;exact gr 8 [] [rp 4 hP,rp 2 (oI ((qn s0 ByteArray.empty)=false)),oR True ((qn s0 ByteArray.empty)=false),rp 4 (bT h0),tT]
 ·obtain rfl:=oK h;exact gr 8 [] [rp 4 hP,rp 2 (oI ((qn s0 ByteArray.empty)=false)),oR True ((qn s0 ByteArray.empty)=false),bF h0,bF h0,yE h1,bF h0,cC (uk h2),bF h0,bT h3]
 ·refine gn 12 [0,17,18] [] [rp 4 hP,rp 2 (oI ((qn s0 ByteArray.empty)=false)),oR True ((qn s0 ByteArray.empty)=false),bF h0,bF h0,yE h1,bF h0,cC (uk h2),bF h0,bF h3] (I0 Γ rv dq ?_);rcases e0 with e0|r3
  ·obtain rfl:=oK h;exact gr 2 [] []
  ·exact oK h
theorem bw{n i}{rv:Bool}(h:gW n i=some rv):dd prog 83 [.agg (ah.enc n),.one (lI i)] [] (one (.bool rv)) []:=by
 refine aP func83 fun Γ=>?_
 simp only[gW,ay,an,ao]at h;cases h;exact gr 4 [] [rp 4 hP,rp 2 (oI ((bP i 0)=true)),nL bR n.av,hP,hP,rp 2 (oI ((bP i 0)=true)),oR True ((bP i 0)=true)]
theorem jl{a}{rv:aE}(h:ju a=some rv):dd prog 116 [.agg (al.enc a)] [] (gG [lI rv.az,lI rv.cw,lI rv.ai]) []:=by
 refine aP func116 fun Γ=>?_
 simp only[ju,ay,an,ao]at h;cases h;exact gr 4 [] []
theorem m8{n least xz}{rv:Bool}(h:jz n least xz=some rv):dd prog 163 [.one (lI n),.one (lI least),.one (lI xz)] [] (one (.bool rv)) []:=by
 refine aP func163 fun Γ=>?_
 simp only[jz,ay,an,ao]at h;cases h;exact gr 4 [] [rp 4 hP,rp 2 (oI ((bP n least)=true)),oR True ((bP n least)=true)]
def s8(Γ:a5)(rv:List aa)(cf:Cf):Prop:=Go prog f149 [] Γ (one (lL 2 rv aa.enc)) [] cf
def yi(Γ:a5)(rv:List aa)(l:List au)(l2:List aa)(v:Int):Prop:=s8 Γ rv ⟨[.c 244,.l 244,.b 0,.c 31],⟨83,[vL 0 2 l au.enc,vO 3 0 2 l2 aa.enc,vL 19 2 l au.enc,vI 20 (aB l),vI 21 v],[oS 2 104 l2 aa.enc]⟩⟩
def xg(Γ:a5)(rv:List aa)(l:List au)(l4:List aa):Prop:=s8 Γ rv ⟨[.c 31],⟨83,[vO 3 0 2 l4 aa.enc],[oS 2 104 l4 aa.enc]⟩⟩
theorem xf(Γ:a5)(rv:List aa){l v x0 r l3}{x:(List aa×Int)⊕(List aa)}(h:j0 l v x0 r l3=some x)(hI:∀⦃s:List aa×Int⦄,some (.inl s)=some x→yi Γ rv l s.1 s.2)(hE:∀⦃e:List aa⦄,some (.inr e)=some x→xg Γ rv l e):s8 Γ rv ⟨[.c 31335,.b 1,.c 1959,.l 244,.b 0,.c 31],⟨83,[vL 0 2 l au.enc,vO 3 0 2 l3 aa.enc,vI 4 v,vP 5 1 2,vS 6 r,vL 19 2 l au.enc,vI 20 (aB l),vI 21 v],[oS 2 104 l3 aa.enc,oX 2 86 (au.enc x0)]⟩⟩:=by
 simp only[j0,ay,an,ao]at h;rcases h with⟨h8,x1,h9,⟨dq,fM,h⟩|⟨dq,⟨fN,gC,h⟩|⟨fN,h⟩⟩⟩|⟨h8,h⟩
 ·exact gn 7 [0,3,19,20,21] [3] [hH (.draw 24 []),rp 6 (bT h8),cE au.enc h9,rp 4 (bT h8),rp 9 (bT dq),bT h8,bT dq,bT h8,tT,oO (Eq.refl ([(aa.mk 13 r)].map aa.enc).length),aO aa.enc fM] (hI h)
 ·exact gn 7 [0,3,19,20,21] [3] [hH (.draw 24 []),rp 6 (bT h8),cE au.enc h9,rp 4 (bT h8),rp 6 (bF dq),cE au.enc h9,rp 3 (bF dq),bT h8,bF dq,bT h8,bT fN,oO (Eq.refl ([(aa.mk 13 r)].map aa.enc).length),aO aa.enc gC] (hI h)
 ·exact gn 7 [0,3,19,20,21] [0] [hH (.draw 24 []),rp 6 (bT h8),cE au.enc h9,rp 4 (bT h8),rp 6 (bF dq),cE au.enc h9,rp 3 (bF dq),bT h8,bF dq,bT h8,bF fN] (hI h)
 ·exact gn 7 [0,3,19,20,21] [0] [hH (.draw 24 []),rp 10 (bF h8),rp 9 kF,bF h8,bF h8,fF] (hI h)
theorem FC(Γ:a5)(rv:List aa){l}:∀⦃s:List aa×Int⦄ ⦃e:List aa⦄,aF (fun s=>fl l s.1 s.2) s=some e→xg Γ rv l e→yi Γ rv l s.1 s.2:=by
 refine aY ?_
 rintro⟨l2,v⟩ z_ h hI hE;simp only[fl,ay,an,ao]at h;rcases h with⟨h2,x0,h3,r,h4,r1,h5,⟨h6,h7,h⟩|⟨h6,h⟩⟩|⟨h2,h⟩
 ·exact gn 16 [0,3,4,5,6,19,20,21] [3,1] [bT h2,cE au.enc h3,cC (s5 h4),cC (m8 h5),rp 13 hP,rp 4 (oI ((!r1)=false)),oR True ((!r1)=false),rp 5 (oI (((!r1)||(aS x0.a x0.t))=false)),oR True (((!r1)||(aS x0.a x0.t))=false),bT h6,oO (Eq.refl ([(aa.mk 2 r)].map aa.enc).length),aO aa.enc h7] (xf Γ rv h hI hE)
 ·exact gn 16 [0,3,4,5,6,19,20,21] [0,1] [bT h2,cE au.enc h3,cC (s5 h4),cC (m8 h5),rp 13 hP,rp 4 (oI ((!r1)=false)),oR True ((!r1)=false),rp 5 (oI (((!r1)||(aS x0.a x0.t))=false)),oR True (((!r1)||(aS x0.a x0.t))=false),bF h6] (xf Γ rv h hI hE)
 ·exact gn 5 [3] [0] [bF h2] (hE h)
theorem xe(Γ:a5)(rv:List aa){l l1}(h:jZ l l1=some rv):s8 Γ rv ⟨[.c 15],⟨83,[vL 0 2 l au.enc,vO 3 0 2 l1 aa.enc],[oS 2 104 l1 aa.enc]⟩⟩:=by
 simp only[jZ,ay,an,ao]at h;obtain⟨l4,iH,h⟩:=h;refine gn 5 [0,3,19,20,21] [0] [nL au.enc l] (FC Γ rv iH ?_);obtain rfl:=oK h;exact gr 2 [] [hW 4,hH (.iY 0),rp 3 (eL l4 aa.enc)]
theorem vc{l}{rv:List aa}(h:gB l=some rv):dd prog 149 [.one (lL 2 l au.enc)] [] (one (lL 2 rv aa.enc)) []:=by
 refine aP func149 fun Γ=>?_
 simp only[gB,ay,an,ao]at h;rcases h with⟨h0,h1,h⟩|⟨h0,h⟩
 ·exact gn 9 [0,3] [1] [nL au.enc l,hP,hP,oI ((aW (aB l) 0)=false),nL au.enc l,hP,hP,oI ((aW (aB l) 0)=false),oR True ((aW (aB l) 0)=false),bT h0,oO (Eq.refl ([(aa.mk 4 ByteArray.empty)].map aa.enc).length),aN (l:=([(aa.mk 4 ByteArray.empty)]:List aa)) aa.enc h1] (xe Γ rv h)
 ·exact gn 9 [0,3] [0] [nL au.enc l,hP,hP,oI ((aW (aB l) 0)=false),nL au.enc l,hP,hP,oI ((aW (aB l) 0)=false),oR True ((aW (aB l) 0)=false),bF h0,hW 1,hH (.kN 3 2 104)] (xe Γ rv h)
theorem gi{t}{rv:Bool}(h:pq t=some rv):dd prog 180 [.one (lI t)] [] (one (.bool rv)) []:=by
 refine aP func180 fun Γ=>?_
 simp only[pq,ay,an,ao]at h;cases h;exact gr 4 [] [hP,hP,hP,oI ((bP t 0)=true),oR True ((bP t 0)=true)]
def wR(Γ:a5)(rv:List Int)(cf:Cf):Prop:=Go prog f150 [] Γ (one (lL 1 rv aq)) [] cf
def GA(Γ:a5)(rv:List Int)(l:List au)(l2:List Int)(v:Int):Prop:=wR Γ rv ⟨[.c 244,.l 244,.b 0,.c 31],⟨49,[vL 0 2 l au.enc,vO 3 0 1 l2 aq,vL 12 2 l au.enc,vI 13 (aB l),vI 14 v],[oS 1 33 l2 aq]⟩⟩
def E0(Γ:a5)(rv:List Int)(l:List au)(l3:List Int):Prop:=wR Γ rv ⟨[.c 31],⟨49,[vO 3 0 1 l3 aq],[oS 1 33 l3 aq]⟩⟩
theorem E1(Γ:a5)(rv:List Int){l}:∀⦃s:List Int×Int⦄ ⦃e:List Int⦄,aF (fun s=>gZ l s.1 s.2) s=some e→E0 Γ rv l e→GA Γ rv l s.1 s.2:=by
 refine aY ?_
 rintro⟨l2,v⟩ z_ h hI hE;simp only[gZ,ay,an,ao]at h;rcases h with⟨h2,x0,h3,r,h4,⟨h5,⟨h6,x1,h7,⟨h8,h9,h⟩|⟨h8,r1,dq,⟨fM,h⟩|⟨fM,fN,h⟩⟩⟩|⟨h6,r2,gC,⟨iH,h⟩|⟨iH,kT,h⟩⟩⟩|⟨h5,mo,h⟩⟩|⟨h2,h⟩
 ·exact gn 16 [0,3,12,13,14] [3] [bT h2,cE au.enc h3,hH (.draw 25 []),cC (gi h4),rp 3 (nF h5),rp 6 (bT h6),cE au.enc h7,rp 3 (bT h6),nF h5,bT h6,nF h5,rp 5 (bT h8),tT,oO (Eq.refl ([2].map aq).length),aO aq h9] (hI h)
 ·exact gn 16 [0,3,12,13,14] [0] [bT h2,cE au.enc h3,hH (.draw 25 []),cC (gi h4),rp 3 (nF h5),rp 6 (bT h6),cE au.enc h7,rp 3 (bT h6),nF h5,bT h6,nF h5,rp 3 (bF h8),cC (gi dq),bF h8,bF h8,nF fM] (hI h)
 ·exact gn 16 [0,3,12,13,14] [3] [bT h2,cE au.enc h3,hH (.draw 25 []),cC (gi h4),rp 3 (nF h5),rp 6 (bT h6),cE au.enc h7,rp 3 (bT h6),nF h5,bT h6,nF h5,rp 3 (bF h8),cC (gi dq),bF h8,bF h8,nT fM,oO (Eq.refl ([2].map aq).length),aO aq fN] (hI h)
 ·exact gn 16 [0,3,12,13,14] [0] [bT h2,cE au.enc h3,hH (.draw 25 []),cC (gi h4),rp 3 (nF h5),rp 9 (bF h6),nF h5,bF h6,nF h5,fF,fF,fF,cC (gi gC),fF,fF,nF iH] (hI h)
 ·exact gn 16 [0,3,12,13,14] [3] [bT h2,cE au.enc h3,hH (.draw 25 []),cC (gi h4),rp 3 (nF h5),rp 9 (bF h6),nF h5,bF h6,nF h5,fF,fF,fF,cC (gi gC),fF,fF,nT iH,oO (Eq.refl ([2].map aq).length),aO aq kT] (hI h)
 ·exact gn 16 [0,3,12,13,14] [3] [bT h2,cE au.enc h3,hH (.draw 25 []),cC (gi h4),rp 3 (nT h5),rp 9 kF,nT h5,nT h5,rp 6 tT,oO (Eq.refl ([2].map aq).length),aO aq mo] (hI h)
 ·exact gn 5 [3] [0] [bF h2] (hE h)
theorem wS(Γ:a5)(rv:List Int){l l1}(h:lS l l1=some rv):wR Γ rv ⟨[.c 15],⟨49,[vL 0 2 l au.enc,vO 3 0 1 l1 aq],[oS 1 33 l1 aq]⟩⟩:=by
 simp only[lS,ay,an,ao]at h;obtain⟨l3,oN,h⟩:=h;refine gn 5 [0,3,12,13,14] [0] [nL au.enc l] (E1 Γ rv oN ?_);obtain rfl:=oK h;exact gr 2 [] [hW 4,hH (.iY 0),rp 3 (eL l3 aq)]
theorem AS{l}{rv:List Int}(h:po l=some rv):dd prog 150 [.one (lL 2 l au.enc)] [] (one (lL 1 rv aq)) []:=by
 refine aP func150 fun Γ=>?_
 simp only[po,ay,an,ao]at h;rcases h with⟨h0,h1,h⟩|⟨h0,h⟩
 ·exact gn 9 [0,3] [1] [nL au.enc l,bT h0,oO (Eq.refl ([4].map aq).length),aN (l:=([4]:List Int)) aq h1] (wS Γ rv h)
 ·exact gn 9 [0,3] [0] [nL au.enc l,bF h0,hW 1,hH (.kN 3 1 33)] (wS Γ rv h)
def jt(Γ:a5)(rv:List Int)(known:List (aE×Bool))(cf:Cf):Prop:=Go prog f115 [0] Γ (one (lL 1 rv aq)) [oM 151 known (mE aE.enc Lf.bool)] cf
def HJ(Γ:a5)(rv:List Int)(a:al)(known:List (aE×Bool))(l:List Int)(r3:List aa)(l3:List Int)(v:Int):Prop:=jt Γ rv known ⟨[.c 1012,.l 1012,.b 0,.c 127],⟨79,[vP 4 1 6,vO 7 2 1 l3 aq,vL 62 2 r3 aa.enc,vI 63 (aB r3),vI 64 v],[oM 151 known (mE aE.enc Lf.bool),oX 6 59 (al.enc a),oS 1 33 l3 aq]⟩⟩
def Gw(Γ:a5)(rv:List Int)(a:al)(known:List (aE×Bool))(l:List Int)(r3:List aa)(l4:List Int):Prop:=jt Γ rv known ⟨[.c 127],⟨79,[vP 4 1 6,vO 7 2 1 l4 aq],[oM 151 known (mE aE.enc Lf.bool),oX 6 59 (al.enc a),oS 1 33 l4 aq]⟩⟩
def HK(Γ:a5)(rv:List Int)(a:al)(known:List (aE×Bool))(r6:List aa)(l7:List Int)(v1:Int):Prop:=jt Γ rv known ⟨[.c 1012,.l 1012,.b 0,.c 127],⟨79,[vP 4 1 6,vO 7 2 1 l7 aq,vL 62 2 r6 aa.enc,vI 63 (aB r6),vI 64 v1],[oM 151 known (mE aE.enc Lf.bool),oX 6 59 (al.enc a),oS 1 33 l7 aq]⟩⟩
def Gy(Γ:a5)(rv:List Int)(a:al)(known:List (aE×Bool))(r6:List aa)(l8:List Int):Prop:=jt Γ rv known ⟨[.c 127],⟨79,[vP 4 1 6,vO 7 2 1 l8 aq],[oM 151 known (mE aE.enc Lf.bool),oX 6 59 (al.enc a),oS 1 33 l8 aq]⟩⟩
theorem Gx(Γ:a5)(rv:List Int){a known l r3}:∀⦃s:List Int×Int⦄ ⦃e:List Int⦄,aF (fun s=>iL a known l r3 s.1 s.2) s=some e→Gw Γ rv a known l r3 e→HJ Γ rv a known l r3 s.1 s.2:=by
 refine aY ?_
 rintro⟨l3,v⟩ z_ h hI hE;simp only[iL,ay,an,ao]at h;rcases h with⟨fM,x0,fN,gC,h⟩|⟨fM,h⟩
 ·exact gn 13 [4,7,62,63,64] [0,1,5] [bT fM,cE aa.enc fN,oO (Eq.refl ([x0.EL].map aq).length),aO aq gC] (hI h)
 ·exact gn 5 [4,7] [0,1,2] [bF fM] (hE h)
theorem xS(Γ:a5)(rv:List Int){a known l l2}(h:mS a known l l2=some rv):jt Γ rv known ⟨[.c 63],⟨79,[vP 4 1 6,vO 7 2 1 l2 aq],[oM 151 known (mE aE.enc Lf.bool),oX 6 59 (al.enc a),oS 1 33 l2 aq]⟩⟩:=by
 simp only[mS,ay,an,ao]at h;obtain⟨r3,dq,l4,iH,h⟩:=h;refine gn 5 [4,7,62,63,64] [0,1,2] [cC (vc dq),nL aa.enc r3] (Gx Γ rv iH ?_);obtain⟨r4,kT,mo,h⟩:=h;cases h;exact gr 2 [0] [cC (AS kT),aO aq mo,hW 1,hH (.iY 3),rp 2 (oO (Eq.refl ((l4++r4).map aq).length))]
theorem xR(Γ:a5)(rv:List Int){a known l l1}(h:lA a known l l1=some rv):jt Γ rv known ⟨[.c 31],⟨79,[(2,one (.mp 0)),vP 4 1 6,vO 7 2 1 l1 aq],[oM 151 known (mE aE.enc Lf.bool),oX 6 59 (al.enc a),oS 1 33 l1 aq]⟩⟩:=by
 simp only[lA,ay,an,ao]at h;rcases h with⟨r2,h7,⟨h8,h9,h⟩|⟨h8,h⟩⟩
 ·exact gn 5 [4,7] [0,1,4] [cC (jl h7),mG aE.kq Lf.bool known r2 false,bT h8,oO (Eq.refl ([6].map aq).length),aO aq h9] (xS Γ rv h)
 ·exact gn 5 [4,7] [0,1,2] [cC (jl h7),mG aE.kq Lf.bool known r2 false,bF h8] (xS Γ rv h)
theorem xQ(Γ:a5)(rv:List Int){a known l}(h:mR a known l=some rv):jt Γ rv known ⟨[.c 15],⟨79,[(2,one (.mp 0)),vP 4 1 6,vO 7 2 1 l aq],[oM 151 known (mE aE.enc Lf.bool),oX 6 59 (al.enc a),oS 1 33 l aq]⟩⟩:=by
 simp only[mR,ay,an,ao]at h;rcases h with⟨h5,h6,h⟩|⟨h5,h⟩
 ·exact gn 5 [2,4,7] [0,1,4] [rp 18 hP,rp 2 (oI ((aS a.ai 0)=false)),oR True ((aS a.ai 0)=false),rp 2 (oI (((aS a.ai 0)||(bU a.ai 7))=false)),oR True (((aS a.ai 0)||(bU a.ai 7))=false),rp 2 (oI ((((aS a.ai 0)||(bU a.ai 7))||(aS a.dc 0))=false)),oR True ((((aS a.ai 0)||(bU a.ai 7))||(aS a.dc 0))=false),rp 4 (oI (((((aS a.ai 0)||(bU a.ai 7))||(aS a.dc 0))||(bU a.dc 10000))=false)),oR True (((((aS a.ai 0)||(bU a.ai 7))||(aS a.dc 0))||(bU a.dc 10000))=false),bT h5,oO (Eq.refl ([2].map aq).length),aO aq h6] (xR Γ rv h)
 ·exact gn 5 [2,4,7] [0,1,2] [rp 18 hP,rp 2 (oI ((aS a.ai 0)=false)),oR True ((aS a.ai 0)=false),rp 2 (oI (((aS a.ai 0)||(bU a.ai 7))=false)),oR True (((aS a.ai 0)||(bU a.ai 7))=false),rp 2 (oI ((((aS a.ai 0)||(bU a.ai 7))||(aS a.dc 0))=false)),oR True ((((aS a.ai 0)||(bU a.ai 7))||(aS a.dc 0))=false),rp 4 (oI (((((aS a.ai 0)||(bU a.ai 7))||(aS a.dc 0))||(bU a.dc 10000))=false)),oR True (((((aS a.ai 0)||(bU a.ai 7))||(aS a.dc 0))||(bU a.dc 10000))=false),bF h5] (xR Γ rv h)
theorem Gz(Γ:a5)(rv:List Int){a known r6}:∀⦃s:List Int×Int⦄ ⦃e:List Int⦄,aF (fun s=>wQ a known r6 s.1 s.2) s=some e→Gy Γ rv a known r6 e→HK Γ rv a known r6 s.1 s.2:=by
 refine aY ?_
 rintro⟨l7,v1⟩ z_ h hI hE;simp only[wQ,ay,an,ao]at h;rcases h with⟨B7,x1,EN,A5,h⟩|⟨B7,h⟩
 ·exact gn 13 [4,7,62,63,64] [0,1,5] [bT B7,cE aa.enc EN,oO (Eq.refl ([x1.EL].map aq).length),aO aq A5] (hI h)
 ·exact gn 5 [4,7] [0,1,2] [bF B7] (hE h)
theorem xU(Γ:a5)(rv:List Int){a known l6}(h:sB a known l6=some rv):jt Γ rv known ⟨[.c 63],⟨79,[vP 4 1 6,vO 7 2 1 l6 aq],[oM 151 known (mE aE.enc Lf.bool),oX 6 59 (al.enc a),oS 1 33 l6 aq]⟩⟩:=by
 simp only[sB,ay,an,ao]at h;obtain⟨r6,Hu,l8,Lq,h⟩:=h;refine gn 5 [4,7,62,63,64] [0,1,2] [cC (vc Hu),nL aa.enc r6] (Gz Γ rv Lq ?_);obtain⟨r7,KE,N_,h⟩:=h;cases h;exact gr 2 [0] [cC (AS KE),aO aq N_,hW 1,hH (.iY 3),rp 2 (oO (Eq.refl ((l8++r7).map aq).length))]
theorem xT(Γ:a5)(rv:List Int){a known l5}(h:o8 a known l5=some rv):jt Γ rv known ⟨[.c 31],⟨79,[(2,one (.mp 0)),vP 4 1 6,vO 7 2 1 l5 aq],[oM 151 known (mE aE.enc Lf.bool),oX 6 59 (al.enc a),oS 1 33 l5 aq]⟩⟩:=by
 simp only[o8,ay,an,ao]at h;rcases h with⟨r5,rl,⟨xI,AL,h⟩|⟨xI,h⟩⟩
 ·exact gn 5 [4,7] [0,1,4] [cC (jl rl),mG aE.kq Lf.bool known r5 false,bT xI,oO (Eq.refl ([6].map aq).length),aO aq AL] (xU Γ rv h)
 ·exact gn 5 [4,7] [0,1,2] [cC (jl rl),mG aE.kq Lf.bool known r5 false,bF xI] (xU Γ rv h)
theorem J7{n a known}{rv:List Int}(h:uE n a known=some rv):dd prog 115 [.agg (ah.enc n),.agg (al.enc a),.one (.mp 0)] [bM 151 known (mE aE.enc Lf.bool)] (one (lL 1 rv aq)) [oM 151 known (mE aE.enc Lf.bool)]:=by
 refine aP func115 fun Γ=>?_
 simp only[uE,ay,an,ao]at h;rcases h with⟨r,h0,⟨h1,r1,h2,⟨h3,h⟩|⟨h3,h4,h⟩⟩|⟨h1,oN,⟨p8,rk,h⟩|⟨p8,h⟩⟩⟩
 ·exact gn 9 [2,4,7] [0,2,3] [cC (bw h0),rp 4 (nF h1),cC (bw h2),nF h1,nF h1,nF h3,hW 1,hH (.kN 7 1 33)] (xQ Γ rv h)
 ·exact gn 9 [2,4,7] [0,2,4] [cC (bw h0),rp 4 (nF h1),cC (bw h2),nF h1,nF h1,nT h3,oO (Eq.refl ([11].map aq).length),aN (l:=([11]:List Int)) aq h4] (xQ Γ rv h)
 ·exact gn 14 [2,4,7] [0,2,6] [cC (bw h0),rp 6 (nT h1),tT,oO (Eq.refl ([11].map aq).length),aN (l:=([11]:List Int)) aq oN,rp 18 hP,rp 2 (oI ((aS a.ai 0)=false)),oR True ((aS a.ai 0)=false),rp 2 (oI (((aS a.ai 0)||(bU a.ai 7))=false)),oR True (((aS a.ai 0)||(bU a.ai 7))=false),rp 2 (oI ((((aS a.ai 0)||(bU a.ai 7))||(aS a.dc 0))=false)),oR True ((((aS a.ai 0)||(bU a.ai 7))||(aS a.dc 0))=false),rp 4 (oI (((((aS a.ai 0)||(bU a.ai 7))||(aS a.dc 0))||(bU a.dc 10000))=false)),oR True (((((aS a.ai 0)||(bU a.ai 7))||(aS a.dc 0))||(bU a.dc 10000))=false),bT p8,oO (Eq.refl ([2].map aq).length),aO aq rk] (xT Γ rv h)
 ·exact gn 14 [2,4,7] [0,2,4] [cC (bw h0),rp 6 (nT h1),tT,oO (Eq.refl ([11].map aq).length),aN (l:=([11]:List Int)) aq oN,rp 18 hP,rp 2 (oI ((aS a.ai 0)=false)),oR True ((aS a.ai 0)=false),rp 2 (oI (((aS a.ai 0)||(bU a.ai 7))=false)),oR True (((aS a.ai 0)||(bU a.ai 7))=false),rp 2 (oI ((((aS a.ai 0)||(bU a.ai 7))||(aS a.dc 0))=false)),oR True ((((aS a.ai 0)||(bU a.ai 7))||(aS a.dc 0))=false),rp 4 (oI (((((aS a.ai 0)||(bU a.ai 7))||(aS a.dc 0))||(bU a.dc 10000))=false)),oR True (((((aS a.ai 0)||(bU a.ai 7))||(aS a.dc 0))||(bU a.dc 10000))=false),bF p8] (xT Γ rv h)
def gY(Γ:a5)(rv:List aa)(cf:Cf):Prop:=Go prog f78 [] Γ (one (lL 2 rv aa.enc)) [] cf
def wP(Γ:a5)(rv:List aa)(n:ah)(l l1:List aa)(l2:List (ByteArray×Bool))(v:Int):Prop:=gY Γ rv ⟨[.c 500,.l 500,.b 0,.c 63],⟨94,[vP 1 0 2,vO 3 1 2 l1 aa.enc,(4,one (.mp 2)),vL 23 1 n.av bR,vI 24 (aB n.av),vI 25 v],[oX 2 25 (ah.enc n),oS 2 104 l1 aa.enc,oM 150 l2 (mE kS Lf.bool)]⟩⟩
def vw(Γ:a5)(rv:List aa)(n:ah)(l l4:List aa):Prop:=gY Γ rv ⟨[.c 63],⟨94,[vP 1 0 2,vO 3 1 2 l4 aa.enc],[oX 2 25 (ah.enc n),oS 2 104 l4 aa.enc]⟩⟩
def EX(Γ:a5)(rv:List aa)(n:ah)(l:List aa)(l7:List (aE×Bool))(v1:Int)(x1:al)(r2:List Int)(l8:List aa)(v2:Int):Prop:=gY Γ rv ⟨[.c 2091412,.l 2091412,.b 5,.c 261427,.b 4,.c 32679,.l 4084,.b 3,.c 511],⟨94,[vP 1 0 2,vO 3 1 2 l8 aa.enc,(8,one (.mp 2)),vI 9 v1,vP 10 3 6,vL 64 6 n.aI al.enc,vI 65 (aB n.aI),vI 66 v1,vL 74 1 r2 aq,vI 75 (aB r2),vI 76 v2],[oX 2 25 (ah.enc n),oS 2 104 l8 aa.enc,oM 151 l7 (mE aE.enc Lf.bool),oX 6 59 (al.enc x1)]⟩⟩
def DS(Γ:a5)(rv:List aa)(n:ah)(l:List aa)(l7:List (aE×Bool))(v1:Int)(x1:al)(r2:List Int)(l9:List aa):Prop:=gY Γ rv ⟨[.c 261427,.b 4,.c 32679,.l 4084,.b 3,.c 511],⟨94,[vP 1 0 2,vO 3 1 2 l9 aa.enc,(8,one (.mp 2)),vP 10 3 6,vL 64 6 n.aI al.enc,vI 65 (aB n.aI),vI 66 v1],[oX 2 25 (ah.enc n),oS 2 104 l9 aa.enc,oM 151 l7 (mE aE.enc Lf.bool),oX 6 59 (al.enc x1)]⟩⟩
def EW(Γ:a5)(rv:List aa)(n:ah)(l l6:List aa)(l7:List (aE×Bool))(v1:Int):Prop:=gY Γ rv ⟨[.c 4084,.l 4084,.b 3,.c 511],⟨94,[vP 1 0 2,vO 3 1 2 l6 aa.enc,(8,one (.mp 2)),vL 64 6 n.aI al.enc,vI 65 (aB n.aI),vI 66 v1],[oX 2 25 (ah.enc n),oS 2 104 l6 aa.enc,oM 151 l7 (mE aE.enc Lf.bool)]⟩⟩
def DQ(Γ:a5)(rv:List aa)(n:ah)(l Hz:List aa):Prop:=gY Γ rv ⟨[.c 511],⟨94,[vO 3 0 2 Hz aa.enc],[oS 2 104 Hz aa.enc]⟩⟩
theorem pU(Γ:a5)(rv:List aa){n l l2 v x0 l3}{x:(List aa×List (ByteArray×Bool)×Int)⊕(List aa)}(h:kX n l l2 v x0 l3=some x)(hI:∀⦃s:List aa×List (ByteArray×Bool)×Int⦄,some (.inl s)=some x→wP Γ rv n l s.1 s.2.1 s.2.2)(hE:∀⦃e:List aa⦄,some (.inr e)=some x→vw Γ rv n l e):gY Γ rv ⟨[.b 2,.c 64103,.b 1,.c 4007,.l 500,.b 0,.c 63],⟨94,[vP 1 0 2,vO 3 1 2 l3 aa.enc,(4,one (.mp 2)),vS 6 x0,vL 23 1 n.av bR,vI 24 (aB n.av),vI 25 v],[oX 2 25 (ah.enc n),oS 2 104 l3 aa.enc,oM 150 l2 (mE kS Lf.bool)]⟩⟩:=by
 simp only[kX,ay,an,ao]at h;exact gn 5 [1,3,4,23,24,25] [0,1,2] [mU kqS Lf.bool l2 x0 true] (hI h)
theorem DP(Γ:a5)(rv:List aa){n l}:∀⦃s:List aa×List (ByteArray×Bool)×Int⦄ ⦃e:List aa⦄,aF (fun s=>gw n l s.1 s.2.1 s.2.2) s=some e→vw Γ rv n l e→wP Γ rv n l s.1 s.2.1 s.2.2:=by
 refine aY ?_
 rintro⟨l1,l2,v⟩ z_ h hI hE;simp only[gw,ay,an,ao]at h;rcases h with⟨h2,x0,h3,r,h4,h5,r1,h6,⟨h7,⟨h8,h9,h⟩|⟨h8,h⟩⟩|⟨h7,dq,h⟩⟩|⟨h2,h⟩
 ·exact gn 20 [1,3,4,6,23,24,25] [0,4,2] [bT h2,cE bR h3,cC (lW h4),oO (h5),cC (cV h6),nF h7,mG kqS Lf.bool l2 x0 false,bT h8,oO (Eq.refl ([(aa.mk 6 (bH dm r))].map aa.enc).length),aO aa.enc h9] (pU Γ rv h hI hE)
 ·exact gn 20 [1,3,4,6,23,24,25] [0,1,2] [bT h2,cE bR h3,cC (lW h4),oO (h5),cC (cV h6),nF h7,mG kqS Lf.bool l2 x0 false,bF h8] (pU Γ rv h hI hE)
 ·exact gn 17 [1,3,4,6,23,24,25] [0,4,2] [bT h2,cE bR h3,cC (lW h4),oO (h5),cC (cV h6),nT h7,oO (Eq.refl ([(aa.mk 5 (bH dm r))].map aa.enc).length),aO aa.enc dq] (pU Γ rv h hI hE)
 ·exact gn 5 [1,3] [0,1] [bF h2] (hE h)
theorem DT(Γ:a5)(rv:List aa){n l l7 v1 x1 r2}:∀⦃s:List aa×Int⦄ ⦃e:List aa⦄,aF (fun s=>gy n l l7 v1 x1 r2 s.1 s.2) s=some e→DS Γ rv n l l7 v1 x1 r2 e→EX Γ rv n l l7 v1 x1 r2 s.1 s.2:=by
 refine aY ?_
 rintro⟨l8,v2⟩ z_ h hI hE;simp only[gy,ay,an,ao]at h;rcases h with⟨oN,x2,p8,r3,rk,rl,xI,h⟩|⟨oN,h⟩
 ·exact gn 13 [1,3,8,9,10,64,65,66,74,75,76] [0,5,2,3] [bT oN,cE aq p8,cC (lW rk),oO (rl),oO (Eq.refl ([(aa.mk x2 (bH bq r3))].map aa.enc).length),aO aa.enc xI] (hI h)
 ·exact gn 5 [1,3,8,10,64,65,66] [0,1,2,3] [bF oN] (hE h)
theorem DR(Γ:a5)(rv:List aa){n l}:∀⦃s:List aa×List (aE×Bool)×Int⦄ ⦃e:List aa⦄,aF (fun s=>gx n l s.1 s.2.1 s.2.2) s=some e→DQ Γ rv n l e→EW Γ rv n l s.1 s.2.1 s.2.2:=by
 refine aY ?_
 rintro⟨l6,l7,v1⟩ z_ h hI hE;simp only[gx,ay,an,ao]at h;rcases h with⟨iH,x1,kT,r2,mo,l9,AL,h⟩|⟨iH,h⟩
 ·refine gn 14 [1,3,8,9,10,64,65,66,74,75,76] [0,1,2,3] [bT iH,cE al.enc kT,cI [2] (J7 mo),nL aq r2] (DT Γ rv AL ?_);obtain⟨r4,Hu,h⟩:=h;exact gn 4 [1,3,8,64,65,66] [0,1,2] [cC (jl Hu),mU aE.kq Lf.bool l7 r4 true] (hI h)
 ·exact gn 5 [3] [1] [bF iH] (hE h)
theorem vu(Γ:a5)(rv:List aa){n l l5}(h:kY n l l5=some rv):gY Γ rv ⟨[.c 127],⟨94,[vP 1 0 2,vO 3 1 2 l5 aa.enc],[oX 2 25 (ah.enc n),oS 2 104 l5 aa.enc]⟩⟩:=by
 simp only[kY,ay,an,ao]at h;obtain⟨Hz,B7,h⟩:=h;refine gn 7 [1,3,8,64,65,66] [0,1,2] [nL al.enc n.aI] (DR Γ rv B7 ?_);obtain rfl:=oK h;exact gr 2 [] [hW 4,hH (.iY 0),rp 3 (eL Hz aa.enc)]
theorem vr(Γ:a5)(rv:List aa){n l}(h:kW n l=some rv):gY Γ rv ⟨[.c 15],⟨94,[vP 1 0 2,vO 3 1 2 l aa.enc],[oX 2 25 (ah.enc n),oS 2 104 l aa.enc]⟩⟩:=by
 simp only[kW,ay,an,ao]at h;obtain⟨l4,fM,h⟩:=h;refine gn 7 [1,3,4,23,24,25] [0,1,2] [nL bR n.av] (DP Γ rv fM ?_);rcases h with⟨fN,gC,h⟩|⟨fN,h⟩
 ·exact gn 5 [1,3] [0,3] [nL al.enc n.aI,bT fN,oO (Eq.refl ([(aa.mk 4 ml)].map aa.enc).length),aO aa.enc gC] (vu Γ rv h)
 ·exact gn 5 [1,3] [0,1] [nL al.enc n.aI,bF fN] (vu Γ rv h)
theorem HI{n}{rv:List aa}(h:qa n=some rv):dd prog 78 [.agg (ah.enc n)] [] (one (lL 2 rv aa.enc)) []:=by
 refine aP func78 fun Γ=>?_
 simp only[qa,ay,an,ao]at h;rcases h with⟨h0,h1,h⟩|⟨h0,h⟩
 ·exact gn 9 [1,3] [0,2] [nL bR n.av,bT h0,oO (Eq.refl ([(aa.mk 4 fp)].map aa.enc).length),aN (l:=([(aa.mk 4 fp)]:List aa)) aa.enc h1] (vr Γ rv h)
 ·exact gn 9 [1,3] [0,1] [nL bR n.av,bF h0,hW 1,hH (.kN 3 2 104)] (vr Γ rv h)
theorem ar{n least xz}{rv:Bool}(h:bI n least xz=some rv):dd prog 117 [.one (lI n),.one (lI least),.one (lI xz)] [] (one (.bool rv)) []:=by
 refine aP func117 fun Γ=>?_
 simp only[bI,ay,an,ao]at h;cases h;exact gr 4 [] [rp 4 hP,rp 2 (oI ((bP n least)=true)),oR True ((bP n least)=true)]
theorem vj{n}{rv:Bool}(h:pg n=some rv):dd prog 182 [.one (lI n)] [] (one (.bool rv)) []:=by
 refine aP func182 fun Γ=>?_
 simp only[pg,ay,an,ao]at h;obtain⟨r,h0,h⟩:=h;cases h;exact gr 4 [] [cC (ar h0)]
def jf(Γ:a5)(rv:Int)(cf:Cf):Prop:=Go prog f208 [] Γ (one (lI rv)) [] cf
def na(Γ:a5)(rv:Int)(s0:List Int)(v:Int):Prop:=jf Γ rv ⟨[.c 52,.l 52,.b 0,.c 7],⟨19,[vL 0 1 s0 aq,(1,one (.fn (.func 182) [])),vI 7 (aB s0),vI 8 v],[]⟩⟩
def m6(Γ:a5)(rv:Int)(s0:List Int):Prop:=jf Γ rv ⟨[.c 7],⟨19,[],[]⟩⟩
theorem m7(Γ:a5)(rv:Int){s0}:∀⦃s:Int⦄ ⦃e:(Unit)⊕(Int)⦄,aF (fun s=>bL s0 s) s=some e→jB e (fun e=>m6 Γ rv s0) (fun e=>e=rv)→na Γ rv s0 s:=by
 refine aY ?_
 intro v z_ h hI hE;simp only[bL,ay,an,ao]at h;rcases h with⟨h0,x0,h1,r,h2,⟨h3,h⟩|⟨h3,h⟩⟩|⟨h0,h⟩
 ·obtain rfl:=(hE h:_=rv);exact gr 14 [] [bT h0,cE aq h1,cC (vj h2),bT h3]
 ·exact gn 16 [0,1,7,8] [] [bT h0,cE aq h1,cC (vj h2),bF h3] (hI h)
 ·exact gn 5 [] [] [bF h0] (hE h)
theorem n6{s0}{rv:Int}(h:eG s0=some rv):dd prog 208 [.one (lL 1 s0 aq),.one (.fn (.func 182) [])] [] (one (lI rv)) []:=by
 refine aP func208 fun Γ=>?_
 simp only[eG,ay,an,ao]at h;obtain⟨e0,h4,h⟩:=h;refine gn 7 [0,1,7,8] [] [nL aq s0] (m7 Γ rv h4 ?_);rcases e0 with e0|r1
 ·cases h;exact gr 2 [] []
 ·exact oK h
theorem m3{s0}{rv:Bool}(h:c9 s0=some rv):dd prog 181 [.one (lL 1 s0 aq),.one (.fn (.func 182) [])] [] (one (.bool rv)) []:=by
 refine aP func181 fun Γ=>?_
 simp only[c9,ay,an,ao]at h;obtain⟨r,h0,h⟩:=h;cases h;exact gr 4 [] [cC (n6 h0)]
theorem cG{l rG}{rv:Bool}(h:mK l rG=some rv):dd prog 153 [.one (lL 1 l aq),.one (lL 1 rG aq)] [] (one (.bool rv)) []:=by
 refine aP func153 fun Γ=>?_
 simp only[mK,ay,an,ao]at h;rcases h with⟨r,h0,⟨h1,h⟩|⟨h1,r1,h2,h⟩⟩
 ·obtain rfl:=oK h;exact gr 8 [] [nL aq l,cC (ar h0),hP,hP,oI ((!r)=false),nL aq l,hP,hP,oI ((!r)=false),nL aq rG,hP,hP,rp 2 (oI ((!r)=false)),oR True ((!r)=false),bT h1]
 ·cases h;exact gr 9 [] [nL aq l,cC (ar h0),hP,hP,oI ((!r)=false),nL aq l,hP,hP,oI ((!r)=false),nL aq rG,hP,hP,rp 2 (oI ((!r)=false)),oR True ((!r)=false),bF h1,cC (m3 h2)]
theorem ak{right e0 c}{rv:List Int}(h:a_ right e0 c=some rv):dd prog 151 [.one (.bool right),.one (lI e0),.one (.op 0 1 0 0)] [bX 1 107 [lO 1 1 c aq],bS 1 33 c aq] (.pX []) [oX 1 107 [lO 1 1 rv aq],oS 1 33 rv aq]:=by
 refine aP func151 fun Γ=>?_
 simp only[a_,ay,an,ao]at h;rcases h with⟨h0,h⟩|⟨h0,h1,h⟩
 ·obtain rfl:=oK h;exact gr 4 [0,1] [nF h0]
 ·cases h;exact gr 4 [0,3] [nT h0,oO (Eq.refl ([e0].map aq).length),aO aq h1]
theorem xH{x0 c}{rv:Bool}(h:rI x0 c=some rv):dd prog 152 [.agg (ag.enc x0),.one (.ip (ag.enc c) 0)] [] (one (.bool rv)) []:=by
 refine aP func152 fun Γ=>?_
 simp only[rI,ay,an,ao]at h;cases h;exact gr 4 [] []
def gD(Γ:a5)(rv:Int)(cf:Cf):Prop:=Go prog f124 [] Γ (one (lI rv)) [] cf
def ld(Γ:a5)(rv:Int)(s0:List ag)(c:ag)(v:Int):Prop:=gD Γ rv ⟨[.c 52,.l 52,.b 0,.c 7],⟨19,[vL 0 14 s0 ag.enc,(1,one (.fn (.func 152) [.ip (ag.enc c) 0])),vI 7 (aB s0),vI 8 v],[]⟩⟩
def kH(Γ:a5)(rv:Int)(s0:List ag)(c:ag):Prop:=gD Γ rv ⟨[.c 7],⟨19,[],[]⟩⟩
theorem kJ(Γ:a5)(rv:Int){s0 c}:∀⦃s:Int⦄ ⦃e:(Unit)⊕(Int)⦄,aF (fun s=>bs s0 c s) s=some e→jB e (fun e=>kH Γ rv s0 c) (fun e=>e=rv)→ld Γ rv s0 c s:=by
 refine aY ?_
 intro v z_ h hI hE;simp only[bs,ay,an,ao]at h;rcases h with⟨h0,x0,h1,r,h2,⟨h3,h⟩|⟨h3,h⟩⟩|⟨h0,h⟩
 ·obtain rfl:=(hE h:_=rv);exact gr 14 [] [bT h0,cE ag.enc h1,cC (xH h2),bT h3]
 ·exact gn 16 [0,1,7,8] [] [bT h0,cE ag.enc h1,cC (xH h2),bF h3] (hI h)
 ·exact gn 5 [] [] [bF h0] (hE h)
theorem lP{s0 c}{rv:Int}(h:dn s0 c=some rv):dd prog 124 [.one (lL 14 s0 ag.enc),.one (.fn (.func 152) [.ip (ag.enc c) 0])] [] (one (lI rv)) []:=by
 refine aP func124 fun Γ=>?_
 simp only[dn,ay,an,ao]at h;obtain⟨e0,h4,h⟩:=h;refine gn 7 [0,1,7,8] [] [nL ag.enc s0] (kJ Γ rv h4 ?_);rcases e0 with e0|r1
 ·cases h;exact gr 2 [] []
 ·exact oK h
theorem aJ{s0 c}{rv:Bool}(h:cg s0 c=some rv):dd prog 86 [.one (lL 14 s0 ag.enc),.one (.fn (.func 152) [.ip (ag.enc c) 0])] [] (one (.bool rv)) []:=by
 refine aP func86 fun Γ=>?_
 simp only[cg,ay,an,ao]at h;obtain⟨r,h0,h⟩:=h;cases h;exact gr 4 [] [cC (lP h0)]
theorem IH{n l i}{rv:List Int}(h:rH n l i=some rv):dd prog 118 [.agg (ah.enc n),.one (lL 14 l ag.enc),.one (lI i)] [] (one (lL 1 rv aq)) []:=by
 refine aP func118 fun Γ=>?_
 simp only[rH,ay,an,ao]at h;rcases h with⟨x0,h0,r,h1,r1,h2,l1,h3,r2,h4,r3,h5,r4,h6,r5,h7,r6,h8,⟨h9,r7,dq,r8,fM,x1,fN,r9,gC,M3,iH,zj,kT,Ny,mo,HQ,oN,Tc,p8,DU,rk,⟨rl,Td,xI,RA,AL,SE,Hu,⟨B7,CD,EN,⟨A5,Vb,Lq,⟨KE,UD,N_,SF,Oa,h⟩|⟨KE,Vc,KT,h⟩⟩|⟨A5,Wb,SY,h⟩⟩|⟨B7,Wc,QW,h⟩⟩|⟨rl,UE,R6,Xp,Oc,⟨PM,Xq,R7,⟨Od,Xr,Vy,⟨SZ,We,Zb,Wf,Vz,h⟩|⟨SZ,Wg,UZ,h⟩⟩|⟨Od,YX,Pd,h⟩⟩|⟨PM,YY,WJ,h⟩⟩⟩|⟨h9,YZ,KF,x2,Lr,r36,Nq,r37,QX,r38,Pe,r39,S0,Nz,QY,r41,Oe,r42,R8,⟨Ls,r43,VA,r44,VB,r45,TK,⟨QZ,r46,WK,⟨R9,r47,VC,⟨Lt,r48,VD,r49,U0,h⟩|⟨Lt,r50,S1,h⟩⟩|⟨R9,r51,Pf,h⟩⟩|⟨QZ,r52,YF,h⟩⟩|⟨Ls,r53,U1,r54,YG,⟨Q0,r55,Q1,⟨TL,r56,TM,⟨WL,r57,WM,r58,h77,h⟩|⟨WL,r59,Zc,h⟩⟩|⟨TL,r60,h79,h⟩⟩|⟨Q0,r61,h80,h⟩⟩⟩⟩
 ·obtain rfl:=oK h;exact gr 30 [] [cE ag.enc h0,nL bR n.av,cC (cV h1),hH (.jS 1 0 1 33),cI [1,3] (ak h2),hH (.rows (l1.map ag.enc)),oO (Ha h3),oO (Hb h3),oO (uN ag.enc h3),oO (Int.le_refl i),oO (uN ag.enc h3),oO (Hc ag.enc h3),cC (aJ h4),cI [1,4] (ak h5),cC (ar h6),cI [1,5] (ak h7),cC (ar h8),rp 4 (bT h9),cC (ar dq),bT h9,cI [1,6] (ak fM),hH (.draw 9 [(1,8),(7,8)]),cE ag.enc fN,cC (cG gC),cI [1,7] (ak iH),cC (ar kT),cI [1,8] (ak mo),cC (ar oN),rp 4 hP,rp 2 (oI (HQ=true)),oR True (HQ=true),cI [1,9] (ak p8),cC (ar rk),rp 3 (bT rl),cC (ar xI),bT rl,cI [1,10] (ak AL),cC (ar Hu),rp 3 (bT B7),cC (ar EN),bT B7,rp 3 (bT A5),cC (ar Lq),bT A5,rp 3 (bT KE),cC (ar N_),bT KE,cI [1,11] (ak Oa),hW 4,hH (.iY 12),rp 3 (eL SF aq)]
 ·obtain rfl:=oK h;exact gr 30 [] [cE ag.enc h0,nL bR n.av,cC (cV h1),hH (.jS 1 0 1 33),cI [1,3] (ak h2),hH (.rows (l1.map ag.enc)),oO (Ha h3),oO (Hb h3),oO (uN ag.enc h3),oO (Int.le_refl i),oO (uN ag.enc h3),oO (Hc ag.enc h3),cC (aJ h4),cI [1,4] (ak h5),cC (ar h6),cI [1,5] (ak h7),cC (ar h8),rp 4 (bT h9),cC (ar dq),bT h9,cI [1,6] (ak fM),hH (.draw 9 [(1,8),(7,8)]),cE ag.enc fN,cC (cG gC),cI [1,7] (ak iH),cC (ar kT),cI [1,8] (ak mo),cC (ar oN),rp 4 hP,rp 2 (oI (HQ=true)),oR True (HQ=true),cI [1,9] (ak p8),cC (ar rk),rp 3 (bT rl),cC (ar xI),bT rl,cI [1,10] (ak AL),cC (ar Hu),rp 3 (bT B7),cC (ar EN),bT B7,rp 3 (bT A5),cC (ar Lq),bT A5,rp 4 (bF KE),cI [1,11] (ak KT),hW 4,hH (.iY 12),rp 3 (eL Vc aq)]
 ·obtain rfl:=oK h;exact gr 30 [] [cE ag.enc h0,nL bR n.av,cC (cV h1),hH (.jS 1 0 1 33),cI [1,3] (ak h2),hH (.rows (l1.map ag.enc)),oO (Ha h3),oO (Hb h3),oO (uN ag.enc h3),oO (Int.le_refl i),oO (uN ag.enc h3),oO (Hc ag.enc h3),cC (aJ h4),cI [1,4] (ak h5),cC (ar h6),cI [1,5] (ak h7),cC (ar h8),rp 4 (bT h9),cC (ar dq),bT h9,cI [1,6] (ak fM),hH (.draw 9 [(1,8),(7,8)]),cE ag.enc fN,cC (cG gC),cI [1,7] (ak iH),cC (ar kT),cI [1,8] (ak mo),cC (ar oN),rp 4 hP,rp 2 (oI (HQ=true)),oR True (HQ=true),cI [1,9] (ak p8),cC (ar rk),rp 3 (bT rl),cC (ar xI),bT rl,cI [1,10] (ak AL),cC (ar Hu),rp 3 (bT B7),cC (ar EN),bT B7,rp 4 (bF A5),rp 4 fF,cI [1,11] (ak SY),hW 4,hH (.iY 12),rp 3 (eL Wb aq)]
 ·obtain rfl:=oK h;exact gr 30 [] [cE ag.enc h0,nL bR n.av,cC (cV h1),hH (.jS 1 0 1 33),cI [1,3] (ak h2),hH (.rows (l1.map ag.enc)),oO (Ha h3),oO (Hb h3),oO (uN ag.enc h3),oO (Int.le_refl i),oO (uN ag.enc h3),oO (Hc ag.enc h3),cC (aJ h4),cI [1,4] (ak h5),cC (ar h6),cI [1,5] (ak h7),cC (ar h8),rp 4 (bT h9),cC (ar dq),bT h9,cI [1,6] (ak fM),hH (.draw 9 [(1,8),(7,8)]),cE ag.enc fN,cC (cG gC),cI [1,7] (ak iH),cC (ar kT),cI [1,8] (ak mo),cC (ar oN),rp 4 hP,rp 2 (oI (HQ=true)),oR True (HQ=true),cI [1,9] (ak p8),cC (ar rk),rp 3 (bT rl),cC (ar xI),bT rl,cI [1,10] (ak AL),cC (ar Hu),rp 4 (bF B7),rp 8 fF,cI [1,11] (ak QW),hW 4,hH (.iY 12),rp 3 (eL Wc aq)]
 ·obtain rfl:=oK h;exact gr 30 [] [cE ag.enc h0,nL bR n.av,cC (cV h1),hH (.jS 1 0 1 33),cI [1,3] (ak h2),hH (.rows (l1.map ag.enc)),oO (Ha h3),oO (Hb h3),oO (uN ag.enc h3),oO (Int.le_refl i),oO (uN ag.enc h3),oO (Hc ag.enc h3),cC (aJ h4),cI [1,4] (ak h5),cC (ar h6),cI [1,5] (ak h7),cC (ar h8),rp 4 (bT h9),cC (ar dq),bT h9,cI [1,6] (ak fM),hH (.draw 9 [(1,8),(7,8)]),cE ag.enc fN,cC (cG gC),cI [1,7] (ak iH),cC (ar kT),cI [1,8] (ak mo),cC (ar oN),rp 4 hP,rp 2 (oI (HQ=true)),oR True (HQ=true),cI [1,9] (ak p8),cC (ar rk),rp 4 (bF rl),cI [1,10] (ak R6),cC (ar Oc),rp 3 (bT PM),cC (ar R7),bT PM,rp 3 (bT Od),cC (ar Vy),bT Od,rp 3 (bT SZ),cC (ar Zb),bT SZ,cI [1,11] (ak Vz),hW 4,hH (.iY 12),rp 3 (eL Wf aq)]
 ·obtain rfl:=oK h;exact gr 30 [] [cE ag.enc h0,nL bR n.av,cC (cV h1),hH (.jS 1 0 1 33),cI [1,3] (ak h2),hH (.rows (l1.map ag.enc)),oO (Ha h3),oO (Hb h3),oO (uN ag.enc h3),oO (Int.le_refl i),oO (uN ag.enc h3),oO (Hc ag.enc h3),cC (aJ h4),cI [1,4] (ak h5),cC (ar h6),cI [1,5] (ak h7),cC (ar h8),rp 4 (bT h9),cC (ar dq),bT h9,cI [1,6] (ak fM),hH (.draw 9 [(1,8),(7,8)]),cE ag.enc fN,cC (cG gC),cI [1,7] (ak iH),cC (ar kT),cI [1,8] (ak mo),cC (ar oN),rp 4 hP,rp 2 (oI (HQ=true)),oR True (HQ=true),cI [1,9] (ak p8),cC (ar rk),rp 4 (bF rl),cI [1,10] (ak R6),cC (ar Oc),rp 3 (bT PM),cC (ar R7),bT PM,rp 3 (bT Od),cC (ar Vy),bT Od,rp 4 (bF SZ),cI [1,11] (ak UZ),hW 4,hH (.iY 12),rp 3 (eL Wg aq)]
 ·obtain rfl:=oK h;exact gr 30 [] [cE ag.enc h0,nL bR n.av,cC (cV h1),hH (.jS 1 0 1 33),cI [1,3] (ak h2),hH (.rows (l1.map ag.enc)),oO (Ha h3),oO (Hb h3),oO (uN ag.enc h3),oO (Int.le_refl i),oO (uN ag.enc h3),oO (Hc ag.enc h3),cC (aJ h4),cI [1,4] (ak h5),cC (ar h6),cI [1,5] (ak h7),cC (ar h8),rp 4 (bT h9),cC (ar dq),bT h9,cI [1,6] (ak fM),hH (.draw 9 [(1,8),(7,8)]),cE ag.enc fN,cC (cG gC),cI [1,7] (ak iH),cC (ar kT),cI [1,8] (ak mo),cC (ar oN),rp 4 hP,rp 2 (oI (HQ=true)),oR True (HQ=true),cI [1,9] (ak p8),cC (ar rk),rp 4 (bF rl),cI [1,10] (ak R6),cC (ar Oc),rp 3 (bT PM),cC (ar R7),bT PM,rp 4 (bF Od),rp 4 fF,cI [1,11] (ak Pd),hW 4,hH (.iY 12),rp 3 (eL YX aq)]
 ·obtain rfl:=oK h;exact gr 30 [] [cE ag.enc h0,nL bR n.av,cC (cV h1),hH (.jS 1 0 1 33),cI [1,3] (ak h2),hH (.rows (l1.map ag.enc)),oO (Ha h3),oO (Hb h3),oO (uN ag.enc h3),oO (Int.le_refl i),oO (uN ag.enc h3),oO (Hc ag.enc h3),cC (aJ h4),cI [1,4] (ak h5),cC (ar h6),cI [1,5] (ak h7),cC (ar h8),rp 4 (bT h9),cC (ar dq),bT h9,cI [1,6] (ak fM),hH (.draw 9 [(1,8),(7,8)]),cE ag.enc fN,cC (cG gC),cI [1,7] (ak iH),cC (ar kT),cI [1,8] (ak mo),cC (ar oN),rp 4 hP,rp 2 (oI (HQ=true)),oR True (HQ=true),cI [1,9] (ak p8),cC (ar rk),rp 4 (bF rl),cI [1,10] (ak R6),cC (ar Oc),rp 4 (bF PM),rp 8 fF,cI [1,11] (ak WJ),hW 4,hH (.iY 12),rp 3 (eL YY aq)]
 ·obtain rfl:=oK h;exact gr 30 [] [cE ag.enc h0,nL bR n.av,cC (cV h1),hH (.jS 1 0 1 33),cI [1,3] (ak h2),hH (.rows (l1.map ag.enc)),oO (Ha h3),oO (Hb h3),oO (uN ag.enc h3),oO (Int.le_refl i),oO (uN ag.enc h3),oO (Hc ag.enc h3),cC (aJ h4),cI [1,4] (ak h5),cC (ar h6),cI [1,5] (ak h7),cC (ar h8),rp 5 (bF h9),cI [1,6] (ak KF),hH (.draw 9 [(1,8),(7,8)]),cE ag.enc Lr,cC (cG Nq),cI [1,7] (ak QX),cC (ar Pe),cI [1,8] (ak S0),cC (ar QY),rp 4 hP,rp 2 (oI (Nz=true)),oR True (Nz=true),cI [1,9] (ak Oe),cC (ar R8),rp 3 (bT Ls),cC (ar VA),bT Ls,cI [1,10] (ak VB),cC (ar TK),rp 3 (bT QZ),cC (ar WK),bT QZ,rp 3 (bT R9),cC (ar VC),bT R9,rp 3 (bT Lt),cC (ar VD),bT Lt,cI [1,11] (ak U0),hW 4,hH (.iY 12),rp 3 (eL r49 aq)]
 ·obtain rfl:=oK h;exact gr 30 [] [cE ag.enc h0,nL bR n.av,cC (cV h1),hH (.jS 1 0 1 33),cI [1,3] (ak h2),hH (.rows (l1.map ag.enc)),oO (Ha h3),oO (Hb h3),oO (uN ag.enc h3),oO (Int.le_refl i),oO (uN ag.enc h3),oO (Hc ag.enc h3),cC (aJ h4),cI [1,4] (ak h5),cC (ar h6),cI [1,5] (ak h7),cC (ar h8),rp 5 (bF h9),cI [1,6] (ak KF),hH (.draw 9 [(1,8),(7,8)]),cE ag.enc Lr,cC (cG Nq),cI [1,7] (ak QX),cC (ar Pe),cI [1,8] (ak S0),cC (ar QY),rp 4 hP,rp 2 (oI (Nz=true)),oR True (Nz=true),cI [1,9] (ak Oe),cC (ar R8),rp 3 (bT Ls),cC (ar VA),bT Ls,cI [1,10] (ak VB),cC (ar TK),rp 3 (bT QZ),cC (ar WK),bT QZ,rp 3 (bT R9),cC (ar VC),bT R9,rp 4 (bF Lt),cI [1,11] (ak S1),hW 4,hH (.iY 12),rp 3 (eL r50 aq)]
 ·obtain rfl:=oK h;exact gr 30 [] [cE ag.enc h0,nL bR n.av,cC (cV h1),hH (.jS 1 0 1 33),cI [1,3] (ak h2),hH (.rows (l1.map ag.enc)),oO (Ha h3),oO (Hb h3),oO (uN ag.enc h3),oO (Int.le_refl i),oO (uN ag.enc h3),oO (Hc ag.enc h3),cC (aJ h4),cI [1,4] (ak h5),cC (ar h6),cI [1,5] (ak h7),cC (ar h8),rp 5 (bF h9),cI [1,6] (ak KF),hH (.draw 9 [(1,8),(7,8)]),cE ag.enc Lr,cC (cG Nq),cI [1,7] (ak QX),cC (ar Pe),cI [1,8] (ak S0),cC (ar QY),rp 4 hP,rp 2 (oI (Nz=true)),oR True (Nz=true),cI [1,9] (ak Oe),cC (ar R8),rp 3 (bT Ls),cC (ar VA),bT Ls,cI [1,10] (ak VB),cC (ar TK),rp 3 (bT QZ),cC (ar WK),bT QZ,rp 4 (bF R9),rp 4 fF,cI [1,11] (ak Pf),hW 4,hH (.iY 12),rp 3 (eL r51 aq)]
 ·obtain rfl:=oK h;exact gr 30 [] [cE ag.enc h0,nL bR n.av,cC (cV h1),hH (.jS 1 0 1 33),cI [1,3] (ak h2),hH (.rows (l1.map ag.enc)),oO (Ha h3),oO (Hb h3),oO (uN ag.enc h3),oO (Int.le_refl i),oO (uN ag.enc h3),oO (Hc ag.enc h3),cC (aJ h4),cI [1,4] (ak h5),cC (ar h6),cI [1,5] (ak h7),cC (ar h8),rp 5 (bF h9),cI [1,6] (ak KF),hH (.draw 9 [(1,8),(7,8)]),cE ag.enc Lr,cC (cG Nq),cI [1,7] (ak QX),cC (ar Pe),cI [1,8] (ak S0),cC (ar QY),rp 4 hP,rp 2 (oI (Nz=true)),oR True (Nz=true),cI [1,9] (ak Oe),cC (ar R8),rp 3 (bT Ls),cC (ar VA),bT Ls,cI [1,10] (ak VB),cC (ar TK),rp 4 (bF QZ),rp 8 fF,cI [1,11] (ak YF),hW 4,hH (.iY 12),rp 3 (eL r52 aq)]
 ·obtain rfl:=oK h;exact gr 30 [] [cE ag.enc h0,nL bR n.av,cC (cV h1),hH (.jS 1 0 1 33),cI [1,3] (ak h2),hH (.rows (l1.map ag.enc)),oO (Ha h3),oO (Hb h3),oO (uN ag.enc h3),oO (Int.le_refl i),oO (uN ag.enc h3),oO (Hc ag.enc h3),cC (aJ h4),cI [1,4] (ak h5),cC (ar h6),cI [1,5] (ak h7),cC (ar h8),rp 5 (bF h9),cI [1,6] (ak KF),hH (.draw 9 [(1,8),(7,8)]),cE ag.enc Lr,cC (cG Nq),cI [1,7] (ak QX),cC (ar Pe),cI [1,8] (ak S0),cC (ar QY),rp 4 hP,rp 2 (oI (Nz=true)),oR True (Nz=true),cI [1,9] (ak Oe),cC (ar R8),rp 4 (bF Ls),cI [1,10] (ak U1),cC (ar YG),rp 3 (bT Q0),cC (ar Q1),bT Q0,rp 3 (bT TL),cC (ar TM),bT TL,rp 3 (bT WL),cC (ar WM),bT WL,cI [1,11] (ak h77),hW 4,hH (.iY 12),rp 3 (eL r58 aq)]
 ·obtain rfl:=oK h;exact gr 30 [] [cE ag.enc h0,nL bR n.av,cC (cV h1),hH (.jS 1 0 1 33),cI [1,3] (ak h2),hH (.rows (l1.map ag.enc)),oO (Ha h3),oO (Hb h3),oO (uN ag.enc h3),oO (Int.le_refl i),oO (uN ag.enc h3),oO (Hc ag.enc h3),cC (aJ h4),cI [1,4] (ak h5),cC (ar h6),cI [1,5] (ak h7),cC (ar h8),rp 5 (bF h9),cI [1,6] (ak KF),hH (.draw 9 [(1,8),(7,8)]),cE ag.enc Lr,cC (cG Nq),cI [1,7] (ak QX),cC (ar Pe),cI [1,8] (ak S0),cC (ar QY),rp 4 hP,rp 2 (oI (Nz=true)),oR True (Nz=true),cI [1,9] (ak Oe),cC (ar R8),rp 4 (bF Ls),cI [1,10] (ak U1),cC (ar YG),rp 3 (bT Q0),cC (ar Q1),bT Q0,rp 3 (bT TL),cC (ar TM),bT TL,rp 4 (bF WL),cI [1,11] (ak Zc),hW 4,hH (.iY 12),rp 3 (eL r59 aq)]
 ·obtain rfl:=oK h;exact gr 30 [] [cE ag.enc h0,nL bR n.av,cC (cV h1),hH (.jS 1 0 1 33),cI [1,3] (ak h2),hH (.rows (l1.map ag.enc)),oO (Ha h3),oO (Hb h3),oO (uN ag.enc h3),oO (Int.le_refl i),oO (uN ag.enc h3),oO (Hc ag.enc h3),cC (aJ h4),cI [1,4] (ak h5),cC (ar h6),cI [1,5] (ak h7),cC (ar h8),rp 5 (bF h9),cI [1,6] (ak KF),hH (.draw 9 [(1,8),(7,8)]),cE ag.enc Lr,cC (cG Nq),cI [1,7] (ak QX),cC (ar Pe),cI [1,8] (ak S0),cC (ar QY),rp 4 hP,rp 2 (oI (Nz=true)),oR True (Nz=true),cI [1,9] (ak Oe),cC (ar R8),rp 4 (bF Ls),cI [1,10] (ak U1),cC (ar YG),rp 3 (bT Q0),cC (ar Q1),bT Q0,rp 4 (bF TL),rp 4 fF,cI [1,11] (ak h79),hW 4,hH (.iY 12),rp 3 (eL r60 aq)]
 ·obtain rfl:=oK h;exact gr 30 [] [cE ag.enc h0,nL bR n.av,cC (cV h1),hH (.jS 1 0 1 33),cI [1,3] (ak h2),hH (.rows (l1.map ag.enc)),oO (Ha h3),oO (Hb h3),oO (uN ag.enc h3),oO (Int.le_refl i),oO (uN ag.enc h3),oO (Hc ag.enc h3),cC (aJ h4),cI [1,4] (ak h5),cC (ar h6),cI [1,5] (ak h7),cC (ar h8),rp 5 (bF h9),cI [1,6] (ak KF),hH (.draw 9 [(1,8),(7,8)]),cE ag.enc Lr,cC (cG Nq),cI [1,7] (ak QX),cC (ar Pe),cI [1,8] (ak S0),cC (ar QY),rp 4 hP,rp 2 (oI (Nz=true)),oR True (Nz=true),cI [1,9] (ak Oe),cC (ar R8),rp 4 (bF Ls),cI [1,10] (ak U1),cC (ar YG),rp 4 (bF Q0),rp 8 fF,cI [1,11] (ak h80),hW 4,hH (.iY 12),rp 3 (eL r61 aq)]
def p6(Γ:a5)(rv:List aa)(cf:Cf):Prop:=Go prog f79 [] Γ (one (lL 2 rv aa.enc)) [] cf
def Hs(Γ:a5)(rv:List aa)(n:ah)(l:List ag)(v:Int)(r1:List Int)(l3:List aa)(v1:Int):Prop:=p6 Γ rv ⟨[.c 62668,.l 62668,.b 2,.b 1,.c 1959,.l 244,.b 0,.c 31],⟨41,[vL 1 14 l ag.enc,vP 2 0 2,vO 5 1 2 l3 aa.enc,vI 6 v,vI 18 (aB l),vI 19 v,vL 25 1 r1 aq,vI 26 (aB r1),vI 27 v1],[oX 2 25 (ah.enc n),oS 2 104 l3 aa.enc]⟩⟩
def Gb(Γ:a5)(rv:List aa)(n:ah)(l:List ag)(v:Int)(r1:List Int)(l4:List aa):Prop:=p6 Γ rv ⟨[.b 1,.c 1959,.l 244,.b 0,.c 31],⟨41,[vL 1 14 l ag.enc,vP 2 0 2,vO 5 1 2 l4 aa.enc,vI 18 (aB l),vI 19 v],[oX 2 25 (ah.enc n),oS 2 104 l4 aa.enc]⟩⟩
def Hr(Γ:a5)(rv:List aa)(n:ah)(l:List ag)(l2:List aa)(v:Int):Prop:=p6 Γ rv ⟨[.c 244,.l 244,.b 0,.c 31],⟨41,[vL 1 14 l ag.enc,vP 2 0 2,vO 5 1 2 l2 aa.enc,vI 18 (aB l),vI 19 v],[oX 2 25 (ah.enc n),oS 2 104 l2 aa.enc]⟩⟩
def F_(Γ:a5)(rv:List aa)(n:ah)(l:List ag)(l5:List aa):Prop:=p6 Γ rv ⟨[.c 31],⟨41,[vO 5 0 2 l5 aa.enc],[oS 2 104 l5 aa.enc]⟩⟩
theorem Gc(Γ:a5)(rv:List aa){n l v r1}:∀⦃s:List aa×Int⦄ ⦃e:List aa⦄,aF (fun s=>mJ n l v r1 s.1 s.2) s=some e→Gb Γ rv n l v r1 e→Hs Γ rv n l v r1 s.1 s.2:=by
 refine aY ?_
 rintro⟨l3,v1⟩ z_ h hI hE;simp only[mJ,ay,an,ao]at h;rcases h with⟨h5,x0,h6,r2,h7,h8,h⟩|⟨h5,h⟩
 ·exact gn 13 [1,2,5,6,18,19,25,26,27] [0,3] [bT h5,cE aq h6,cC (lW h7),oO (Eq.refl ([(aa.mk x0 r2)].map aa.enc).length),aO aa.enc h8] (hI h)
 ·exact gn 5 [1,2,5,18,19] [0,1] [bF h5] (hE h)
theorem Ga(Γ:a5)(rv:List aa){n l}:∀⦃s:List aa×Int⦄ ⦃e:List aa⦄,aF (fun s=>mI n l s.1 s.2) s=some e→F_ Γ rv n l e→Hr Γ rv n l s.1 s.2:=by
 refine aY ?_
 rintro⟨l2,v⟩ z_ h hI hE;simp only[mI,ay,an,ao]at h;rcases h with⟨h3,r1,h4,l4,h9,h⟩|⟨h3,h⟩
 ·refine gn 13 [1,2,5,6,18,19,25,26,27] [0,1] [bT h3,cC (IH h4),nL aq r1] (Gc Γ rv h9 ?_);exact gn 3 [1,2,5,18,19] [0,1] [] (hI h)
 ·exact gn 5 [5] [1] [bF h3] (hE h)
theorem xG(Γ:a5)(rv:List aa){n l l1}(h:mH n l l1=some rv):p6 Γ rv ⟨[.c 15],⟨41,[vL 1 14 l ag.enc,vP 2 0 2,vO 5 1 2 l1 aa.enc],[oX 2 25 (ah.enc n),oS 2 104 l1 aa.enc]⟩⟩:=by
 simp only[mH,ay,an,ao]at h;obtain⟨l5,dq,h⟩:=h;refine gn 5 [1,2,5,18,19] [0,1] [nL ag.enc l] (Ga Γ rv dq ?_);obtain rfl:=oK h;exact gr 2 [] [hW 4,hH (.iY 0),rp 3 (eL l5 aa.enc)]
theorem JI{n l}{rv:List aa}(h:qR n l=some rv):dd prog 79 [.agg (ah.enc n),.one (lL 14 l ag.enc)] [] (one (lL 2 rv aa.enc)) []:=by
 refine aP func79 fun Γ=>?_
 simp only[qR,ay,an,ao]at h;rcases h with⟨r,h0,⟨h1,h⟩|⟨h1,h2,h⟩⟩
 ·exact gn 9 [1,2,5] [0,1] [nL ag.enc l,cC (ar h0),nF h1,hW 1,hH (.kN 5 2 104)] (xG Γ rv h)
 ·exact gn 9 [1,2,5] [0,2] [nL ag.enc l,cC (ar h0),nT h1,oO (Eq.refl ([(aa.mk 4 ByteArray.empty)].map aa.enc).length),aN (l:=([(aa.mk 4 ByteArray.empty)]:List aa)) aa.enc h2] (xG Γ rv h)
def Ey(Γ:a5)(rv:Bool)(cf:Cf):Prop:=Go prog f157 [] Γ (one (.bool rv)) [] cf
def HC(Γ:a5)(rv:Bool)(a:List Int)(bt v:Int):Prop:=Ey Γ rv ⟨[.c 52,.l 52,.b 0,.c 7],⟨24,[vL 0 1 a aq,vI 1 bt,vL 7 1 a aq,vI 8 (aB a),vI 9 v],[]⟩⟩
def Gr(Γ:a5)(rv:Bool)(a:List Int)(bt:Int):Prop:=Ey Γ rv ⟨[.c 7],⟨24,[vL 0 1 a aq,vI 1 bt],[]⟩⟩
theorem Gs(Γ:a5)(rv:Bool){a bt}:∀⦃s:Int⦄ ⦃e:(Unit)⊕(Bool)⦄,aF (fun s=>iK a bt s) s=some e→jB e (fun e=>Gr Γ rv a bt) (fun e=>e=rv)→HC Γ rv a bt s:=by
 refine aY ?_
 intro v z_ h hI hE;simp only[iK,ay,an,ao]at h;rcases h with⟨h0,x0,h1,⟨h2,h⟩|⟨h2,h⟩⟩|⟨h0,h⟩
 ·obtain rfl:=(hE h:_=rv);exact gr 14 [] [bT h0,cE aq h1,hP,hP,hP,oI ((aS x0 0)=false),oR True ((aS x0 0)=false),bT h2]
 ·exact gn 16 [0,1,7,8,9] [] [bT h0,cE aq h1,hP,hP,hP,oI ((aS x0 0)=false),oR True ((aS x0 0)=false),bF h2] (hI h)
 ·exact gn 5 [0,1] [] [bF h0] (hE h)
theorem rJ{a bt}{rv:Bool}(h:qU a bt=some rv):dd prog 157 [.one (lL 1 a aq),.one (lI bt)] [] (one (.bool rv)) []:=by
 refine aP func157 fun Γ=>?_
 simp only[qU,ay,an,ao]at h;obtain⟨e0,h3,h⟩:=h;refine gn 7 [0,1,7,8,9] [] [nL aq a] (Gs Γ rv h3 ?_);rcases e0 with e0|r
 ·cases h;exact gr 2 [] [nL aq a]
 ·exact oK h
theorem eu{n least xz}{rv:Bool}(h:eQ n least xz=some rv):dd prog 158 [.one (lI n),.one (lI least),.one (lI xz)] [] (one (.bool rv)) []:=by
 refine aP func158 fun Γ=>?_
 simp only[eQ,ay,an,ao]at h;cases h;exact gr 4 [] [rp 4 hP,rp 2 (oI ((bP n least)=true)),oR True ((bP n least)=true)]
theorem iQ{n}{rv:Bool}(h:rj n=some rv):dd prog 184 [.one (lI n)] [] (one (.bool rv)) []:=by
 refine aP func184 fun Γ=>?_
 simp only[rj,ay,an,ao]at h;cases h;exact gr 4 [] [hP,hP,hP,oI ((bP n 0)=true),oR True ((bP n 0)=true)]
theorem lY{s0}{rv:Int}(h:jA s0=some rv):dd prog 159 [.agg (aK.enc s0)] [] (one (lI rv)) []:=by
 refine aP func159 fun Γ=>?_
 simp only[jA,ay,an,ao]at h;rcases h with⟨h0,h⟩|⟨h0,⟨h1,r,h2,⟨h3,r1,h4,⟨h5,r2,h6,⟨h7,h⟩|⟨h7,h⟩⟩|⟨h5,h⟩⟩|⟨h3,h⟩⟩|⟨h1,h⟩⟩
 ·obtain rfl:=oK h;exact gr 10 [] [rp 4 (bT h0),kF,kF,kF,bT h0,bT h0,kF,kF,kF,bT h0,bT h0,rp 5 kF,bT h0,bT h0,kF,kF,kF,bT h0,bT h0,tT]
 ·obtain rfl:=oK h;exact gr 10 [] [rp 4 (bF h0),rp 3 (bT h1),cC (iQ h2),bF h0,bT h1,bF h0,rp 3 (bT h3),cC (iQ h4),bF h0,bT h3,bF h0,rp 5 hP,rp 4 (oI (r1=true)),bF h0,hP,oR True (r1=true),bF h0,rp 3 (bT h5),cC (iQ h6),bF h0,bT h5,bF h0,bT h7]
 ·obtain rfl:=oK h;exact gr 11 [] [rp 4 (bF h0),rp 3 (bT h1),cC (iQ h2),bF h0,bT h1,bF h0,rp 3 (bT h3),cC (iQ h4),bF h0,bT h3,bF h0,rp 5 hP,rp 4 (oI (r1=true)),bF h0,hP,oR True (r1=true),bF h0,rp 3 (bT h5),cC (iQ h6),bF h0,bT h5,bF h0,bF h7]
 ·obtain rfl:=oK h;exact gr 11 [] [rp 4 (bF h0),rp 3 (bT h1),cC (iQ h2),bF h0,bT h1,bF h0,rp 3 (bT h3),cC (iQ h4),bF h0,bT h3,bF h0,rp 5 hP,rp 4 (oI (r1=true)),bF h0,hP,oR True (r1=true),bF h0,rp 3 (bF h5),bF h0,bF h5,bF h0,fF]
 ·obtain rfl:=oK h;exact gr 11 [] [rp 4 (bF h0),rp 3 (bT h1),cC (iQ h2),bF h0,bT h1,bF h0,rp 3 (bF h3),bF h0,bF h3,bF h0,rp 5 fF,bF h0,fF,bF h0,fF,fF,fF,bF h0,fF,bF h0,fF]
 ·obtain rfl:=oK h;exact gr 11 [] [rp 4 (bF h0),rp 3 (bF h1),bF h0,bF h1,bF h0,fF,fF,fF,bF h0,fF,bF h0,rp 5 fF,bF h0,fF,bF h0,fF,fF,fF,bF h0,fF,bF h0,fF]
theorem pt{o types}{rv:Bool}(h:jv o types=some rv):dd prog 160 [.agg (ab.enc o),.one (lI types)] [] (one (.bool rv)) []:=by
 refine aP func160 fun Γ=>?_
 simp only[jv,ay,an,ao]at h;rcases h with⟨r,h0,⟨h1,r1,h2,h⟩|⟨h1,h⟩⟩
 ·cases h;exact gr 4 [] [cC (eu h0),rp 3 (bT h1),cC (eu h2),bT h1,rp 36 hP,rp 3 (oI (r1=true)),rp 3 (oI ((r1=true)∧(aW o.split 1)=false)),oI (r1=true),oI ((r1=true)∧(aW o.split 1)=false),oI (r1=true),rp 3 (oI ((r1=true)∧((aW o.split 1)||(aW o.pick.place (-1)))=false)),oI (r1=true),oI ((r1=true)∧((aW o.split 1)||(aW o.pick.place (-1)))=false),oR True (r1=true),rp 2 (oI ((r1&&(((aW o.split 1)||(aW o.pick.place (-1)))||(aW o.drop.place (-1))))=true)),oR True ((r1&&(((aW o.split 1)||(aW o.pick.place (-1)))||(aW o.drop.place (-1))))=true),rp 3 (oI (((r1&&(((aW o.split 1)||(aW o.pick.place (-1)))||(aW o.drop.place (-1))))&&(bP o.a3 (-1)))=true)),oR True (((r1&&(((aW o.split 1)||(aW o.pick.place (-1)))||(aW o.drop.place (-1))))&&(bP o.a3 (-1)))=true),rp 2 (oI ((((r1&&(((aW o.split 1)||(aW o.pick.place (-1)))||(aW o.drop.place (-1))))&&(bP o.a3 (-1)))&&(aS o.a3 types))=true)),oR True ((((r1&&(((aW o.split 1)||(aW o.pick.place (-1)))||(aW o.drop.place (-1))))&&(bP o.a3 (-1)))&&(aS o.a3 types))=true),rp 3 (oI (((((r1&&(((aW o.split 1)||(aW o.pick.place (-1)))||(aW o.drop.place (-1))))&&(bP o.a3 (-1)))&&(aS o.a3 types))&&(bP o.now (-1)))=true)),oR True (((((r1&&(((aW o.split 1)||(aW o.pick.place (-1)))||(aW o.drop.place (-1))))&&(bP o.a3 (-1)))&&(aS o.a3 types))&&(bP o.now (-1)))=true)]
 ·obtain rfl:=oK h;exact gr 4 [] [cC (eu h0),rp 4 (bF h1),rp 4 fF,rp 4 kF,fF,fF,rp 4 kF,rp 20 fF]
theorem a9{right e0 c}{rv:List Int}(h:bk right e0 c=some rv):dd prog 154 [.one (.bool right),.one (lI e0),.one (.op 0 1 0 0)] [bX 1 107 [lO 1 1 c aq],bS 1 33 c aq] (.pX []) [oX 1 107 [lO 1 1 rv aq],oS 1 33 rv aq]:=by
 refine aP func154 fun Γ=>?_
 simp only[bk,ay,an,ao]at h;rcases h with⟨h0,h⟩|⟨h0,h1,h⟩
 ·obtain rfl:=oK h;exact gr 4 [0,1] [nF h0]
 ·cases h;exact gr 4 [0,3] [nT h0,oO (Eq.refl ([e0].map aq).length),aO aq h1]
theorem xX{x0 c}{rv:Bool}(h:sG x0 c=some rv):dd prog 156 [.agg (ab.enc x0),.one (.ip (ab.enc c) 0)] [] (one (.bool rv)) []:=by
 refine aP func156 fun Γ=>?_
 simp only[sG,ay,an,ao]at h;cases h;exact gr 4 [] []
def gb(Γ:a5)(rv:Int)(cf:Cf):Prop:=Go prog f183 [] Γ (one (lI rv)) [] cf
def ko(Γ:a5)(rv:Int)(s0:List ab)(c:ab)(v:Int):Prop:=gb Γ rv ⟨[.c 52,.l 52,.b 0,.c 7],⟨19,[vL 0 16 s0 ab.enc,(1,one (.fn (.func 156) [.ip (ab.enc c) 0])),vI 7 (aB s0),vI 8 v],[]⟩⟩
def jV(Γ:a5)(rv:Int)(s0:List ab)(c:ab):Prop:=gb Γ rv ⟨[.c 7],⟨19,[],[]⟩⟩
theorem jW(Γ:a5)(rv:Int){s0 c}:∀⦃s:Int⦄ ⦃e:(Unit)⊕(Int)⦄,aF (fun s=>bl s0 c s) s=some e→jB e (fun e=>jV Γ rv s0 c) (fun e=>e=rv)→ko Γ rv s0 c s:=by
 refine aY ?_
 intro v z_ h hI hE;simp only[bl,ay,an,ao]at h;rcases h with⟨h0,x0,h1,r,h2,⟨h3,h⟩|⟨h3,h⟩⟩|⟨h0,h⟩
 ·obtain rfl:=(hE h:_=rv);exact gr 14 [] [bT h0,cE ab.enc h1,cC (xX h2),bT h3]
 ·exact gn 16 [0,1,7,8] [] [bT h0,cE ab.enc h1,cC (xX h2),bF h3] (hI h)
 ·exact gn 5 [] [] [bF h0] (hE h)
theorem k_{s0 c}{rv:Int}(h:da s0 c=some rv):dd prog 183 [.one (lL 16 s0 ab.enc),.one (.fn (.func 156) [.ip (ab.enc c) 0])] [] (one (lI rv)) []:=by
 refine aP func183 fun Γ=>?_
 simp only[da,ay,an,ao]at h;obtain⟨e0,h4,h⟩:=h;refine gn 7 [0,1,7,8] [] [nL ab.enc s0] (jW Γ rv h4 ?_);rcases e0 with e0|r1
 ·cases h;exact gr 2 [] []
 ·exact oK h
theorem cB{s0 c}{rv:Bool}(h:bO s0 c=some rv):dd prog 155 [.one (lL 16 s0 ab.enc),.one (.fn (.func 156) [.ip (ab.enc c) 0])] [] (one (.bool rv)) []:=by
 refine aP func155 fun Γ=>?_
 simp only[bO,ay,an,ao]at h;obtain⟨r,h0,h⟩:=h;cases h;exact gr 4 [] [cC (k_ h0)]
theorem IP{n bt types l i}{rv:List Int}(h:sF n bt types l i=some rv):dd prog 119 [.agg (ah.enc n),.one (lI bt),.one (lI types),.one (lL 16 l ab.enc),.one (lI i)] [] (one (lL 1 rv aq)) []:=by
 refine aP func119 fun Γ=>?_
 simp only[sF,ay,an,ao]at h;rcases h with⟨x0,h0,r,h1,r1,h2,l1,h3,r2,h4,r3,h5,r4,h6,r5,h7,r6,h8,⟨h9,r7,dq,r8,fM,r9,fN,M3,gC,⟨iH,zj,kT,Ny,mo,HQ,oN,Tc,p8,DU,rk,Td,rl,h⟩|⟨iH,RA,xI,SE,AL,CD,Hu,Vb,B7,UD,EN,h⟩⟩|⟨h9,SF,A5,Vc,Lq,Wb,KE,⟨N_,Wc,Oa,UE,KT,Xp,SY,Xq,QW,Xr,R6,We,Oc,h⟩|⟨N_,Wf,PM,Wg,R7,YX,Od,YY,Vy,YZ,SZ,h⟩⟩⟩
 ·obtain rfl:=oK h;exact gr 28 [] [cE ab.enc h0,nL bR n.av,cC (cV h1),hH (.jS 1 0 1 33),cI [1,3] (a9 h2),hH (.rows (l1.map ab.enc)),oO (Ha h3),oO (Hb h3),oO (uN ab.enc h3),oO (Int.le_refl i),oO (uN ab.enc h3),oO (Hc ab.enc h3),cC (cB h4),cI [1,4] (a9 h5),cC (rJ h6),cI [1,5] (a9 h7),cC (eu h8),rp 5 (bT h9),cC (eu dq),bT h9,cI [1,6] (a9 fM),rp 5 hP,rp 3 (oI ((bK x0.pick.place (-1))=false)),oR True ((bK x0.pick.place (-1))=false),cI [1,7] (a9 fN),cC (lY gC),rp 3 (bT iH),cC (lY kT),rp 2 (bT iH),cI [1,8] (a9 mo),cC (eu oN),cI [1,9] (a9 p8),cC (pt rk),cI [1,10] (a9 rl),hW 4,hH (.iY 11),rp 3 (eL Td aq)]
 ·obtain rfl:=oK h;exact gr 28 [] [cE ab.enc h0,nL bR n.av,cC (cV h1),hH (.jS 1 0 1 33),cI [1,3] (a9 h2),hH (.rows (l1.map ab.enc)),oO (Ha h3),oO (Hb h3),oO (uN ab.enc h3),oO (Int.le_refl i),oO (uN ab.enc h3),oO (Hc ab.enc h3),cC (cB h4),cI [1,4] (a9 h5),cC (rJ h6),cI [1,5] (a9 h7),cC (eu h8),rp 5 (bT h9),cC (eu dq),bT h9,cI [1,6] (a9 fM),rp 5 hP,rp 3 (oI ((bK x0.pick.place (-1))=false)),oR True ((bK x0.pick.place (-1))=false),cI [1,7] (a9 fN),cC (lY gC),rp 5 (bF iH),cI [1,8] (a9 xI),cC (eu AL),cI [1,9] (a9 Hu),cC (pt B7),cI [1,10] (a9 EN),hW 4,hH (.iY 11),rp 3 (eL UD aq)]
 ·obtain rfl:=oK h;exact gr 28 [] [cE ab.enc h0,nL bR n.av,cC (cV h1),hH (.jS 1 0 1 33),cI [1,3] (a9 h2),hH (.rows (l1.map ab.enc)),oO (Ha h3),oO (Hb h3),oO (uN ab.enc h3),oO (Int.le_refl i),oO (uN ab.enc h3),oO (Hc ab.enc h3),cC (cB h4),cI [1,4] (a9 h5),cC (rJ h6),cI [1,5] (a9 h7),cC (eu h8),rp 6 (bF h9),cI [1,6] (a9 A5),rp 5 hP,rp 3 (oI ((bK x0.pick.place (-1))=false)),oR True ((bK x0.pick.place (-1))=false),cI [1,7] (a9 Lq),cC (lY KE),rp 3 (bT N_),cC (lY Oa),rp 2 (bT N_),cI [1,8] (a9 KT),cC (eu SY),cI [1,9] (a9 QW),cC (pt R6),cI [1,10] (a9 Oc),hW 4,hH (.iY 11),rp 3 (eL We aq)]
 ·obtain rfl:=oK h;exact gr 28 [] [cE ab.enc h0,nL bR n.av,cC (cV h1),hH (.jS 1 0 1 33),cI [1,3] (a9 h2),hH (.rows (l1.map ab.enc)),oO (Ha h3),oO (Hb h3),oO (uN ab.enc h3),oO (Int.le_refl i),oO (uN ab.enc h3),oO (Hc ab.enc h3),cC (cB h4),cI [1,4] (a9 h5),cC (rJ h6),cI [1,5] (a9 h7),cC (eu h8),rp 6 (bF h9),cI [1,6] (a9 A5),rp 5 hP,rp 3 (oI ((bK x0.pick.place (-1))=false)),oR True ((bK x0.pick.place (-1))=false),cI [1,7] (a9 Lq),cC (lY KE),rp 5 (bF N_),cI [1,8] (a9 PM),cC (eu R7),cI [1,9] (a9 Od),cC (pt Vy),cI [1,10] (a9 SZ),hW 4,hH (.iY 11),rp 3 (eL YZ aq)]
def qb(Γ:a5)(rv:List aa)(cf:Cf):Prop:=Go prog f80 [] Γ (one (lL 2 rv aa.enc)) [] cf
def HO(Γ:a5)(rv:List aa)(n:ah)(bt types:Int)(l:List ab)(v:Int)(r:List Int)(l3:List aa)(v1:Int):Prop:=qb Γ rv ⟨[.c 62668,.l 62668,.b 2,.b 1,.c 1959,.l 244,.b 0,.c 31],⟨46,[vI 1 bt,vI 2 types,vL 3 16 l ab.enc,vP 4 0 2,vO 9 1 2 l3 aa.enc,vI 10 v,vI 21 (aB l),vI 22 v,vL 30 1 r aq,vI 31 (aB r),vI 32 v1],[oX 2 25 (ah.enc n),oS 2 104 l3 aa.enc]⟩⟩
def GD(Γ:a5)(rv:List aa)(n:ah)(bt types:Int)(l:List ab)(v:Int)(r:List Int)(l4:List aa):Prop:=qb Γ rv ⟨[.b 1,.c 1959,.l 244,.b 0,.c 31],⟨46,[vI 1 bt,vI 2 types,vL 3 16 l ab.enc,vP 4 0 2,vO 9 1 2 l4 aa.enc,vI 21 (aB l),vI 22 v],[oX 2 25 (ah.enc n),oS 2 104 l4 aa.enc]⟩⟩
def HN(Γ:a5)(rv:List aa)(n:ah)(bt types:Int)(l:List ab)(l2:List aa)(v:Int):Prop:=qb Γ rv ⟨[.c 244,.l 244,.b 0,.c 31],⟨46,[vI 1 bt,vI 2 types,vL 3 16 l ab.enc,vP 4 0 2,vO 9 1 2 l2 aa.enc,vI 21 (aB l),vI 22 v],[oX 2 25 (ah.enc n),oS 2 104 l2 aa.enc]⟩⟩
def GB(Γ:a5)(rv:List aa)(n:ah)(bt types:Int)(l:List ab)(l5:List aa):Prop:=qb Γ rv ⟨[.c 31],⟨46,[vO 9 0 2 l5 aa.enc],[oS 2 104 l5 aa.enc]⟩⟩
theorem GF(Γ:a5)(rv:List aa){n bt types l v r}:∀⦃s:List aa×Int⦄ ⦃e:List aa⦄,aF (fun s=>mW n bt types l v r s.1 s.2) s=some e→GD Γ rv n bt types l v r e→HO Γ rv n bt types l v r s.1 s.2:=by
 refine aY ?_
 rintro⟨l3,v1⟩ z_ h hI hE;simp only[mW,ay,an,ao]at h;rcases h with⟨h4,x0,h5,r1,h6,h7,h⟩|⟨h4,h⟩
 ·exact gn 13 [1,2,3,4,9,10,21,22,30,31,32] [0,3] [bT h4,cE aq h5,cC (lW h6),oO (Eq.refl ([(aa.mk x0 r1)].map aa.enc).length),aO aa.enc h7] (hI h)
 ·exact gn 5 [1,2,3,4,9,21,22] [0,1] [bF h4] (hE h)
theorem GC(Γ:a5)(rv:List aa){n bt types l}:∀⦃s:List aa×Int⦄ ⦃e:List aa⦄,aF (fun s=>mV n bt types l s.1 s.2) s=some e→GB Γ rv n bt types l e→HN Γ rv n bt types l s.1 s.2:=by
 refine aY ?_
 rintro⟨l2,v⟩ z_ h hI hE;simp only[mV,ay,an,ao]at h;rcases h with⟨h2,r,h3,l4,h8,h⟩|⟨h2,h⟩
 ·refine gn 13 [1,2,3,4,9,10,21,22,30,31,32] [0,1] [bT h2,cC (IP h3),nL aq r] (GF Γ rv h8 ?_);exact gn 3 [1,2,3,4,9,21,22] [0,1] [] (hI h)
 ·exact gn 5 [9] [1] [bF h2] (hE h)
theorem xW(Γ:a5)(rv:List aa){n bt types l l1}(h:mT n bt types l l1=some rv):qb Γ rv ⟨[.c 15],⟨46,[vI 1 bt,vI 2 types,vL 3 16 l ab.enc,vP 4 0 2,vO 9 1 2 l1 aa.enc],[oX 2 25 (ah.enc n),oS 2 104 l1 aa.enc]⟩⟩:=by
 simp only[mT,ay,an,ao]at h;obtain⟨l5,h9,h⟩:=h;refine gn 5 [1,2,3,4,9,21,22] [0,1] [nL ab.enc l] (GC Γ rv h9 ?_);obtain rfl:=oK h;exact gr 2 [] [hW 4,hH (.iY 0),rp 3 (eL l5 aa.enc)]
theorem J8{n bt types l}{rv:List aa}(h:q9 n bt types l=some rv):dd prog 80 [.agg (ah.enc n),.one (lI bt),.one (lI types),.one (lL 16 l ab.enc)] [] (one (lL 2 rv aa.enc)) []:=by
 refine aP func80 fun Γ=>?_
 simp only[q9,ay,an,ao]at h;rcases h with⟨h0,h1,h⟩|⟨h0,h⟩
 ·exact gn 9 [1,2,3,4,9] [0,2] [nL ab.enc l,bT h0,oO (Eq.refl ([(aa.mk 4 ByteArray.empty)].map aa.enc).length),aN (l:=([(aa.mk 4 ByteArray.empty)]:List aa)) aa.enc h1] (xW Γ rv h)
 ·exact gn 9 [1,2,3,4,9] [0,1] [nL ab.enc l,bF h0,hW 1,hH (.kN 9 2 104)] (xW Γ rv h)
theorem Eu{l}{rv:Int}(h:wB l=some rv):dd prog 81 [.one (lL 14 l ag.enc)] [] (one (lI rv)) []:=by
 refine aP func81 fun Γ=>?_
 simp only[wB,ay,an,ao]at h;rcases h with⟨h0,h⟩|⟨h0,x0,h1,h⟩
 ·obtain rfl:=oK h;exact gr 8 [] [nL ag.enc l,bT h0]
 ·cases h;exact gr 9 [] [nL ag.enc l,bF h0,cE ag.enc h1,nL aq x0.cap]
theorem Fs{self:Int→Option ByteArray}(AO:∀{n:Int} {rv:ByteArray},self n=some rv→dd prog 162 [.one (lI n)] [] (one (.str rv)) []){n}{rv:ByteArray}(h:nX self n=some rv):dd prog 162 [.one (lI n)] [] (one (.str rv)) []:=by
 refine aP func162 fun Γ=>?_
 simp only[nX,ay,an,ao]at h;rcases h with⟨h0,h⟩|⟨h0,r,h1,h2,h⟩
 ·cases h;exact gr 10 [] [oO (oA (n:=10)),bT h0]
 ·cases h;exact gr 11 [] [oO (oA (n:=10)),bF h0,oO (oA (n:=10)),cC (AO h1),oO (h2)]
theorem yc:∀B6,∀{n:Int} {rv:ByteArray},nY B6 n=some rv→dd prog 162 [.one (lI n)] [] (one (.str rv)) []
 |0=>fun h=>nomatch h
 |B6+1=>fun h=>Fs (yc B6) h
theorem iq:∀{n:Int} {rv:ByteArray},uj n=some rv→dd prog 162 [.one (lI n)] [] (one (.str rv)) []:=yc _
theorem CN{a b}{rv:Bool}(h:uK a b=some rv):dd prog 121 [.agg (aA.enc a),.agg (aA.enc b)] [] (one (.bool rv)) []:=by
 refine aP func121 fun Γ=>?_
 simp only[uK,ay,an,ao]at h;rcases h with⟨h0,h⟩|⟨h0,⟨h1,h⟩|⟨h1,h⟩⟩
 ·obtain rfl:=oK h;exact gr 4 [] [rp 6 (bT h0),rp 5 kF,bT h0,bT h0]
 ·cases h;exact gr 4 [] [bF h0,oO (zL 0),oO (lT 0 2),bF h0,bF h0,oO (zL 1),oO (lT 1 2),rp 3 (bF h0),bT h1,oO (zL 1),oO (lT 1 2),bT h1,bT h1,oO (zL 0),oO (lT 0 2),bT h1,bT h1,bF h0,bT h1,bF h0]
 ·obtain rfl:=oK h;exact gr 4 [] [bF h0,oO (zL 0),oO (lT 0 2),bF h0,bF h0,oO (zL 1),oO (lT 1 2),rp 3 (bF h0),rp 5 (bF h1),bF h0,bF h1,bF h0]
theorem CM{a b}{rv:Bool}(h:uJ a b=some rv):dd prog 122 [.agg (aA.enc a),.agg (aA.enc b)] [] (one (.bool rv)) []:=by
 refine aP func122 fun Γ=>?_
 simp only[uJ,ay,an,ao]at h;cases h;exact gr 4 [] []
theorem dx{n c}{rv:Bool}(h:kQ n c=some rv):dd prog 161 [.one (lI n),.one (.ip [lI c] 0)] [] (one (.bool rv)) []:=by
 refine aP func161 fun Γ=>?_
 simp only[kQ,ay,an,ao]at h;cases h;exact gr 4 [] [rp 4 hP,rp 2 (oI ((bP n 0)=true)),oR True ((bP n 0)=true)]
def kj(Γ:a5)(rv:List aa)(cf:Cf):Prop:=Go prog f120 [] Γ (one (lL 2 rv aa.enc)) [] cf
def Ax(Γ:a5)(rv:List aa)(aj:Int)(word:ByteArray)(l:List aA)(l2:List aa)(v:Int)(x0:aA)(r:ByteArray)(l3:List aA)(v1:Int):Prop:=kj Γ rv ⟨[.c 512828,.l 512828,.b 2,.b 1,.c 4007,.l 500,.b 0,.c 63],⟨81,[vS 1 word,vL 2 2 l aA.enc,(3,one (.fn (.func 122) [])),vO 9 0 2 l2 aa.enc,(10,one (.fn (.func 161) [.op 1 1 0 0])),vP 12 2 2,vS 13 (bH (bH word bn) r),vL 25 2 l aA.enc,vI 26 (aB l),vI 27 v,vL 63 2 l3 aA.enc,vI 64 (aB l3),vI 65 v1],[oS 2 104 l2 aa.enc,oX 1 3 [lI aj],oX 2 100 (aA.enc x0)]⟩⟩
def zs(Γ:a5)(rv:List aa)(aj:Int)(word:ByteArray)(l:List aA)(l2:List aa)(v:Int)(x0:aA)(r:ByteArray)(l3:List aA)(l4:List aa):Prop:=kj Γ rv ⟨[.b 1,.c 4007,.l 500,.b 0,.c 63],⟨81,[vS 1 word,vL 2 2 l aA.enc,(3,one (.fn (.func 122) [])),vO 9 0 2 l4 aa.enc,(10,one (.fn (.func 161) [.op 1 1 0 0])),vL 25 2 l aA.enc,vI 26 (aB l),vI 27 v],[oS 2 104 l4 aa.enc,oX 1 3 [lI aj]]⟩⟩
def Aw(Γ:a5)(rv:List aa)(aj:Int)(word:ByteArray)(l:List aA)(l2:List aa)(v:Int):Prop:=kj Γ rv ⟨[.c 500,.l 500,.b 0,.c 63],⟨81,[vS 1 word,vL 2 2 l aA.enc,(3,one (.fn (.func 122) [])),vO 9 0 2 l2 aa.enc,(10,one (.fn (.func 161) [.op 1 1 0 0])),vL 25 2 l aA.enc,vI 26 (aB l),vI 27 v],[oS 2 104 l2 aa.enc,oX 1 3 [lI aj]]⟩⟩
def zq(Γ:a5)(rv:List aa)(aj:Int)(word:ByteArray)(l:List aA)(l5:List aa):Prop:=kj Γ rv ⟨[.c 63],⟨81,[vO 9 0 2 l5 aa.enc],[oS 2 104 l5 aa.enc]⟩⟩
theorem zt(Γ:a5)(rv:List aa){aj word l l2 v x0 r l3}:∀⦃s:Int⦄ ⦃e:List aa⦄,aF (fun s=>eC aj word l l2 v x0 r l3 s) s=some e→zs Γ rv aj word l l2 v x0 r l3 e→Ax Γ rv aj word l l2 v x0 r l3 s:=by
 refine aY ?_
 intro v1 z_ h hI hE;simp only[eC,ay,an,ao]at h;rcases h with⟨iH,x1,kT,r3,mo,⟨oN,p8,h⟩|⟨oN,h⟩⟩|⟨iH,h⟩
 ·exact gn 15 [1,2,3,9,10,25,26,27] [5,1] [bT iH,cE aA.enc kT,cC (CM mo),bT oN,oO (Eq.refl ([(aa.mk 6 (bH (bH word bn) r))].map aa.enc).length),aO aa.enc p8] (hE h)
 ·exact gn 16 [1,2,3,9,10,12,13,25,26,27,63,64,65] [0,1,2] [bT iH,cE aA.enc kT,cC (CM mo),bF oN] (hI h)
 ·exact gn 5 [1,2,3,9,10,25,26,27] [0,1] [bF iH] (hE h)
theorem zr(Γ:a5)(rv:List aa){aj word l}:∀⦃s:List aa×Int⦄ ⦃e:List aa⦄,aF (fun s=>eZ aj word l s.1 s.2) s=some e→zq Γ rv aj word l e→Aw Γ rv aj word l s.1 s.2:=by
 refine aY ?_
 rintro⟨l2,v⟩ z_ h hI hE;simp only[eZ,ay,an,ao]at h;rcases h with⟨h2,x0,h3,h4,r,h5,h6,r1,h7,⟨h8,r2,h9,⟨dq,⟨fM,fN,h⟩|⟨fM,l3,gC,l4,rk,h⟩⟩|⟨dq,rl,h⟩⟩|⟨h8,xI,h⟩⟩|⟨h2,h⟩
 ·exact gn 20 [1,2,3,9,10,25,26,27] [4,1] [bT h2,cE aA.enc h3,oO (h4),cC (iq h5),oO (h6),oO (zL 0),oO (lT 0 2),cC (dx h7),nF h8,nF h8,oO (zL 1),oO (lT 1 2),nF h8,nF h8,cC (dx h9),nF h8,nF h8,nF dq,oO (zL 0),oO (lT 0 2),rp 2 (nF dq),oO (zL 1),oO (lT 1 2),rp 3 (nF dq),bT fM,oO (Eq.refl ([(aa.mk 2 (bH (bH word bn) r))].map aa.enc).length),aO aa.enc fN] (hI h)
 ·refine gn 20 [1,2,3,9,10,12,13,25,26,27,63,64,65] [0,1,2] [bT h2,cE aA.enc h3,oO (h4),cC (iq h5),oO (h6),oO (zL 0),oO (lT 0 2),cC (dx h7),nF h8,nF h8,oO (zL 1),oO (lT 1 2),nF h8,nF h8,cC (dx h9),nF h8,nF h8,nF dq,oO (zL 0),oO (lT 0 2),rp 2 (nF dq),oO (zL 1),oO (lT 1 2),rp 3 (nF dq),bF fM,hH (.rows (l3.map aA.enc)),oO (Ha gC),oO (Hb gC),oO (uN aA.enc gC),oO (Int.le_refl v),oO (uN aA.enc gC),oO (Hc aA.enc gC),nL aA.enc l3] (zt Γ rv rk ?_);exact gn 3 [1,2,3,9,10,25,26,27] [0,1] [] (hI h)
 ·exact gn 20 [1,2,3,9,10,25,26,27] [4,1] [bT h2,cE aA.enc h3,oO (h4),cC (iq h5),oO (h6),oO (zL 0),oO (lT 0 2),cC (dx h7),nF h8,nF h8,oO (zL 1),oO (lT 1 2),nF h8,nF h8,cC (dx h9),nF h8,nF h8,rp 6 (nT dq),tT,oO (Eq.refl ([(aa.mk 2 (bH (bH word bn) r))].map aa.enc).length),aO aa.enc rl] (hI h)
 ·exact gn 20 [1,2,3,9,10,25,26,27] [4,1] [bT h2,cE aA.enc h3,oO (h4),cC (iq h5),oO (h6),oO (zL 0),oO (lT 0 2),cC (dx h7),rp 6 (nT h8),rp 7 tT,oO (Eq.refl ([(aa.mk 2 (bH (bH word bn) r))].map aa.enc).length),aO aa.enc xI] (hI h)
 ·exact gn 5 [9] [0] [bF h2] (hE h)
theorem rf(Γ:a5)(rv:List aa){aj word l l1}(h:ir aj word l l1=some rv):kj Γ rv ⟨[.c 15],⟨81,[vS 1 word,vL 2 2 l aA.enc,(3,one (.fn (.func 122) [])),vP 4 0 1,vO 9 1 2 l1 aa.enc],[oX 1 3 [lI aj],oS 2 104 l1 aa.enc]⟩⟩:=by
 simp only[ir,ay,an,ao]at h;obtain⟨l5,AL,h⟩:=h;refine gn 7 [1,2,3,9,10,25,26,27] [1,0] [nL aA.enc l] (zr Γ rv AL ?_);obtain rfl:=oK h;exact gr 2 [] [hW 4,hH (.iY 0),rp 3 (eL l5 aa.enc)]
theorem CO{aj word l}{rv:List aa}(h:mj aj word l=some rv):dd prog 120 [.one (lI aj),.one (.str word),.one (lL 2 l aA.enc),.one (.fn (.func 122) [])] [] (one (lL 2 rv aa.enc)) []:=by
 refine aP func120 fun Γ=>?_
 simp only[mj,ay,an,ao]at h;rcases h with⟨h0,h1,h⟩|⟨h0,h⟩
 ·exact gn 9 [1,2,3,4,9] [0,2] [nL aA.enc l,bT h0,oO (Eq.refl ([(aa.mk 4 word)].map aa.enc).length),aN (l:=([(aa.mk 4 word)]:List aa)) aa.enc h1] (rf Γ rv h)
 ·exact gn 9 [1,2,3,4,9] [0,1] [nL aA.enc l,bF h0,hW 1,hH (.kN 9 2 104)] (rf Γ rv h)
def iu(Γ:a5)(rv:List aa)(cf:Cf):Prop:=Go prog f120 [] Γ (one (lO 0 2 rv aa.enc)) [oS 2 104 rv aa.enc] cf
def w6(Γ:a5)(rv:List aa)(aj:Int)(word:ByteArray)(l:List aA)(l2:List aa)(v:Int)(x0:aA)(r:ByteArray)(l3:List aA)(v1:Int):Prop:=iu Γ rv ⟨[.c 512828,.l 512828,.b 2,.b 1,.c 4007,.l 500,.b 0,.c 63],⟨81,[vS 1 word,vL 2 2 l aA.enc,(3,one (.fn (.func 121) [])),vO 9 0 2 l2 aa.enc,(10,one (.fn (.func 161) [.op 1 1 0 0])),vP 12 2 2,vS 13 (bH (bH word bn) r),vL 25 2 l aA.enc,vI 26 (aB l),vI 27 v,vL 63 2 l3 aA.enc,vI 64 (aB l3),vI 65 v1],[oS 2 104 l2 aa.enc,oX 1 3 [lI aj],oX 2 100 (aA.enc x0)]⟩⟩
def v9(Γ:a5)(rv:List aa)(aj:Int)(word:ByteArray)(l:List aA)(l2:List aa)(v:Int)(x0:aA)(r:ByteArray)(l3:List aA)(l4:List aa):Prop:=iu Γ rv ⟨[.b 1,.c 4007,.l 500,.b 0,.c 63],⟨81,[vS 1 word,vL 2 2 l aA.enc,(3,one (.fn (.func 121) [])),vO 9 0 2 l4 aa.enc,(10,one (.fn (.func 161) [.op 1 1 0 0])),vL 25 2 l aA.enc,vI 26 (aB l),vI 27 v],[oS 2 104 l4 aa.enc,oX 1 3 [lI aj]]⟩⟩
def w5(Γ:a5)(rv:List aa)(aj:Int)(word:ByteArray)(l:List aA)(l2:List aa)(v:Int):Prop:=iu Γ rv ⟨[.c 500,.l 500,.b 0,.c 63],⟨81,[vS 1 word,vL 2 2 l aA.enc,(3,one (.fn (.func 121) [])),vO 9 0 2 l2 aa.enc,(10,one (.fn (.func 161) [.op 1 1 0 0])),vL 25 2 l aA.enc,vI 26 (aB l),vI 27 v],[oS 2 104 l2 aa.enc,oX 1 3 [lI aj]]⟩⟩
def v7(Γ:a5)(rv:List aa)(aj:Int)(word:ByteArray)(l:List aA)(l5:List aa):Prop:=iu Γ rv ⟨[.c 63],⟨81,[vO 9 0 2 l5 aa.enc],[oS 2 104 l5 aa.enc]⟩⟩
theorem v_(Γ:a5)(rv:List aa){aj word l l2 v x0 r l3}:∀⦃s:Int⦄ ⦃e:List aa⦄,aF (fun s=>dk aj word l l2 v x0 r l3 s) s=some e→v9 Γ rv aj word l l2 v x0 r l3 e→w6 Γ rv aj word l l2 v x0 r l3 s:=by
 refine aY ?_
 intro v1 z_ h hI hE;simp only[dk,ay,an,ao]at h;rcases h with⟨iH,x1,kT,r3,mo,⟨oN,p8,h⟩|⟨oN,h⟩⟩|⟨iH,h⟩
 ·exact gn 15 [1,2,3,9,10,25,26,27] [5,1] [bT iH,cE aA.enc kT,cC (CN mo),bT oN,oO (Eq.refl ([(aa.mk 6 (bH (bH word bn) r))].map aa.enc).length),aO aa.enc p8] (hE h)
 ·exact gn 16 [1,2,3,9,10,12,13,25,26,27,63,64,65] [0,1,2] [bT iH,cE aA.enc kT,cC (CN mo),bF oN] (hI h)
 ·exact gn 5 [1,2,3,9,10,25,26,27] [0,1] [bF iH] (hE h)
theorem v8(Γ:a5)(rv:List aa){aj word l}:∀⦃s:List aa×Int⦄ ⦃e:List aa⦄,aF (fun s=>dN aj word l s.1 s.2) s=some e→v7 Γ rv aj word l e→w5 Γ rv aj word l s.1 s.2:=by
 refine aY ?_
 rintro⟨l2,v⟩ z_ h hI hE;simp only[dN,ay,an,ao]at h;rcases h with⟨h2,x0,h3,h4,r,h5,h6,r1,h7,⟨h8,r2,h9,⟨dq,⟨fM,fN,h⟩|⟨fM,l3,gC,l4,rk,h⟩⟩|⟨dq,rl,h⟩⟩|⟨h8,xI,h⟩⟩|⟨h2,h⟩
 ·exact gn 20 [1,2,3,9,10,25,26,27] [4,1] [bT h2,cE aA.enc h3,oO (h4),cC (iq h5),oO (h6),oO (zL 0),oO (lT 0 2),cC (dx h7),nF h8,nF h8,oO (zL 1),oO (lT 1 2),nF h8,nF h8,cC (dx h9),nF h8,nF h8,nF dq,oO (zL 0),oO (lT 0 2),rp 2 (nF dq),oO (zL 1),oO (lT 1 2),rp 3 (nF dq),bT fM,oO (Eq.refl ([(aa.mk 2 (bH (bH word bn) r))].map aa.enc).length),aO aa.enc fN] (hI h)
 ·refine gn 20 [1,2,3,9,10,12,13,25,26,27,63,64,65] [0,1,2] [bT h2,cE aA.enc h3,oO (h4),cC (iq h5),oO (h6),oO (zL 0),oO (lT 0 2),cC (dx h7),nF h8,nF h8,oO (zL 1),oO (lT 1 2),nF h8,nF h8,cC (dx h9),nF h8,nF h8,nF dq,oO (zL 0),oO (lT 0 2),rp 2 (nF dq),oO (zL 1),oO (lT 1 2),rp 3 (nF dq),bF fM,hH (.rows (l3.map aA.enc)),oO (Ha gC),oO (Hb gC),oO (uN aA.enc gC),oO (Int.le_refl v),oO (uN aA.enc gC),oO (Hc aA.enc gC),nL aA.enc l3] (v_ Γ rv rk ?_);exact gn 3 [1,2,3,9,10,25,26,27] [0,1] [] (hI h)
 ·exact gn 20 [1,2,3,9,10,25,26,27] [4,1] [bT h2,cE aA.enc h3,oO (h4),cC (iq h5),oO (h6),oO (zL 0),oO (lT 0 2),cC (dx h7),nF h8,nF h8,oO (zL 1),oO (lT 1 2),nF h8,nF h8,cC (dx h9),nF h8,nF h8,rp 6 (nT dq),tT,oO (Eq.refl ([(aa.mk 2 (bH (bH word bn) r))].map aa.enc).length),aO aa.enc rl] (hI h)
 ·exact gn 20 [1,2,3,9,10,25,26,27] [4,1] [bT h2,cE aA.enc h3,oO (h4),cC (iq h5),oO (h6),oO (zL 0),oO (lT 0 2),cC (dx h7),rp 6 (nT h8),rp 7 tT,oO (Eq.refl ([(aa.mk 2 (bH (bH word bn) r))].map aa.enc).length),aO aa.enc xI] (hI h)
 ·exact gn 5 [9] [0] [bF h2] (hE h)
theorem oF(Γ:a5)(rv:List aa){aj word l l1}(h:fm aj word l l1=some rv):iu Γ rv ⟨[.c 15],⟨81,[vS 1 word,vL 2 2 l aA.enc,(3,one (.fn (.func 121) [])),vP 4 0 1,vO 9 1 2 l1 aa.enc],[oX 1 3 [lI aj],oS 2 104 l1 aa.enc]⟩⟩:=by
 simp only[fm,ay,an,ao]at h;obtain⟨l5,AL,h⟩:=h;refine gn 7 [1,2,3,9,10,25,26,27] [1,0] [nL aA.enc l] (v8 Γ rv AL ?_);obtain rfl:=oK h;exact gr 2 [0] []
theorem yJ{aj word l}{rv:List aa}(h:jc aj word l=some rv):dd prog 120 [.one (lI aj),.one (.str word),.one (lL 2 l aA.enc),.one (.fn (.func 121) [])] [] (one (lO 0 2 rv aa.enc)) [oS 2 104 rv aa.enc]:=by
 refine aP func120 fun Γ=>?_
 simp only[jc,ay,an,ao]at h;rcases h with⟨h0,h1,h⟩|⟨h0,h⟩
 ·exact gn 9 [1,2,3,4,9] [0,2] [nL aA.enc l,bT h0,oO (Eq.refl ([(aa.mk 4 word)].map aa.enc).length),aN (l:=([(aa.mk 4 word)]:List aa)) aa.enc h1] (oF Γ rv h)
 ·exact gn 9 [1,2,3,4,9] [0,1] [nL aA.enc l,bF h0,hW 1,hH (.kN 9 2 104)] (oF Γ rv h)
theorem Ki{aj cb before}{rv:List aa}(h:uI aj cb before=some rv):dd prog 82 [.one (lI aj),.one (lL 2 cb aA.enc),.one (lL 2 before aA.enc)] [] (one (lL 2 rv aa.enc)) []:=by
 refine aP func82 fun Γ=>?_
 simp only[uI,ay,an,ao]at h;obtain⟨r,h0,r1,h1,h2,h⟩:=h;cases h;exact gr 4 [] [cC (yJ h0),cC (CO h1),aO aa.enc h2,hW 1,hH (.iY 1),rp 2 (oO (Eq.refl ((r++r1).map aa.enc).length))]
theorem Gl{x0}{rv:List aa}(h:mM x0=some rv):dd prog 49 [.agg (ae.enc x0)] [] (one (lL 2 rv aa.enc)) []:=by
 refine aP func49 fun Γ=>?_
 simp only[mM,ay,an,ao]at h;obtain⟨r,h0,r1,h1,r2,h2,r3,h3,r4,h4,r5,h5,r6,h6,r7,h7,r8,h8,r9,h9,h⟩:=h;obtain rfl:=oK h;exact gr 4 [] [hH (.draw 32 []),cC (HI h0),cC (ow h1),cC (JI h2),cC (ow h3),cC (Eu h4),nL ag.enc x0.types,cC (J8 h5),cC (ow h6),nL ab.enc x0.aj,cC (Ki h7),cC (ow h8),hH (.iY 1),oO (Eq.refl ([r1,r3,r6,r8].map gV.enc).length),cC (oL h9)]
theorem lV{x0}{rv:Bool}(h:jx x0=some rv):dd prog 25 [.agg (ae.enc x0)] [] (one (.bool rv)) []:=by
 refine aP func25 fun Γ=>?_
 simp only[jx,ay,an,ao]at h;obtain⟨r,h0,h⟩:=h;cases h;exact gr 4 [] [cC (Gl h0),nL aa.enc r]
theorem AY{l}{rv:Bool}(h:s9 l=some rv):dd prog 164 [.one (lL 2 l au.enc)] [] (one (.bool rv)) []:=by
 refine aP func164 fun Γ=>?_
 simp only[s9,ay,an,ao]at h;obtain⟨r,h0,h⟩:=h;cases h;exact gr 4 [] [cC (vc h0),nL aa.enc r]
theorem qL{p t}{rv:Int}(h:lX p t=some rv):dd prog 186 [.agg (au.enc p),.one (lI t)] [] (one (lI rv)) []:=by
 refine aP func186 fun Γ=>?_
 simp only[lX,ay,an,ao]at h;cases h;exact gr 4 [] []
def eH(Γ:a5)(rv:Int×Bool)(cf:Cf):Prop:=Go prog f185 [] Γ (.pX [.one (lI rv.1),.one (.bool rv.2)]) [] cf
def iE(Γ:a5)(rv:Int×Bool)(x0:List au)(target i j:Int):Prop:=eH Γ rv ⟨[.c 120,.l 120,.b 0,.c 31],⟨49,[vL 0 2 x0 au.enc,vI 1 target,(2,one (.fn (.func 186) [])),vI 8 (aB x0),vI 9 i,vI 10 j],[]⟩⟩
def iw(Γ:a5)(rv:Int×Bool)(x0:List au)(target i1:Int):Prop:=eH Γ rv ⟨[.c 31],⟨49,[vL 0 2 x0 au.enc,vI 1 target,(2,one (.fn (.func 186) [])),vI 8 (aB x0),vI 9 i1],[]⟩⟩
theorem iy(Γ:a5)(rv:Int×Bool){x0 target}:∀⦃s:Int×Int⦄ ⦃e:Int⦄,aF (fun s=>bJ x0 target s.1 s.2) s=some e→iw Γ rv x0 target e→iE Γ rv x0 target s.1 s.2:=by
 refine aY ?_
 rintro⟨i,j⟩ z_ h hI hE;simp only[bJ,ay,an,ao]at h;rcases h with⟨h0,x1,h1,r,h2,⟨h3,h⟩|⟨h3,h⟩⟩|⟨h0,h⟩
 ·exact gn 14 [0,1,2,8,9,10] [] [bT h0,oO (zL 1),cE au.enc h1,cC (qL h2),bT h3] (hI h)
 ·exact gn 14 [0,1,2,8,9,10] [] [bT h0,oO (zL 1),cE au.enc h1,cC (qL h2),bF h3] (hI h)
 ·exact gn 5 [0,1,2,8,9] [] [bF h0] (hE h)
theorem b6{x0 target}{rv:Int×Bool}(h:b_ x0 target=some rv):dd prog 185 [.one (lL 2 x0 au.enc),.one (lI target),.one (.fn (.func 186) [])] [] (.pX [.one (lI rv.1),.one (.bool rv.2)]) []:=by
 refine aP func185 fun Γ=>?_
 simp only[b_,ay,an,ao]at h;obtain⟨i1,h4,h⟩:=h;refine gn 9 [0,1,2,8,9,10] [] [nL au.enc x0] (iy Γ rv h4 ?_);rcases h with⟨h5,x2,h6,r1,h7,h⟩|⟨h5,h⟩
 ·cases h;exact gr 2 [] [rp 4 (bT h5),cE au.enc h6,rp 3 (bT h5),cC (qL h7),bT h5,bT h5]
 ·cases h;exact gr 2 [] [rp 9 (bF h5)]
theorem H_{l t}{rv:Int}(h:qj l t=some rv):dd prog 165 [.one (lL 2 l au.enc),.one (lI t)] [] (one (lI rv)) []:=by
 refine aP func165 fun Γ=>?_
 simp only[qj,ay,an,ao]at h;rcases h with⟨r,h0,⟨h1,x0,h2,h⟩|⟨h1,⟨h3,x1,h4,h⟩|⟨h3,⟨h5,x2,h6,h⟩|⟨h5,x3,h7,x4,h8,h9,h⟩⟩⟩⟩
 ·cases h;exact gr 11 [] [cC (b6 h0),bT h1,cE au.enc h2]
 ·cases h;exact gr 14 [] [cC (b6 h0),bF h1,bT h3,hH (.draw 12 []),rp 2 (cE au.enc h4)]
 ·cases h;exact gr 17 [] [cC (b6 h0),bF h1,bF h3,nL au.enc l,bT h5,hH (.draw 16 []),rp 2 (cE au.enc h6)]
 ·cases h;exact gr 23 [] [cC (b6 h0),bF h1,bF h3,nL au.enc l,bF h5,hH (.draw 13 [(0,11),(1,12)]),cE au.enc h7,cE au.enc h8,hH (.draw 19 []),oO (h9)]
theorem H9{l t}{rv:Int}(h:qi l t=some rv):dd prog 123 [.one (lL 2 l au.enc),.one (lI t)] [] (one (lI rv)) []:=by
 refine aP func123 fun Γ=>?_
 simp only[qi,ay,an,ao]at h;rcases h with⟨r,h0,⟨h1,r1,h2,⟨h3,r2,h4,h⟩|⟨h3,h⟩⟩|⟨h1,h⟩⟩
 ·obtain rfl:=oK h;exact gr 9 [] [cC (m8 h0),nF h1,nF h1,cC (AY h2),nF h1,nF h1,nF h3,cC (H_ h4)]
 ·obtain rfl:=oK h;exact gr 8 [] [cC (m8 h0),nF h1,nF h1,cC (AY h2),nF h1,nF h1,nT h3]
 ·obtain rfl:=oK h;exact gr 8 [] [cC (m8 h0),rp 4 (nT h1),tT]
def xV(Γ:a5)(rv:Int)(cf:Cf):Prop:=Go prog f84 [] Γ (one (lI rv)) [] cf
def Cz(Γ:a5)(rv:Int)(a:al)(t out v:Int):Prop:=xV Γ rv ⟨[.c 116,.l 116,.b 0,.c 15],⟨29,[vI 1 t,vI 5 out,vL 13 2 a.dp au.enc,vI 14 (aB a.dp),vI 15 v],[]⟩⟩
def Bz(Γ:a5)(rv:Int)(a:al)(t SC:Int):Prop:=xV Γ rv ⟨[.c 15],⟨29,[vI 5 SC],[]⟩⟩
theorem BA(Γ:a5)(rv:Int){a t}:∀⦃s:Int×Int⦄ ⦃e:Int⦄,aF (fun s=>qE a t s.1 s.2) s=some e→Bz Γ rv a t e→Cz Γ rv a t s.1 s.2:=by
 refine aY ?_
 rintro⟨out,v⟩ z_ h hI hE;simp only[qE,ay,an,ao]at h;rcases h with⟨h1,x0,h2,⟨h3,h⟩|⟨h3,h⟩⟩|⟨h1,h⟩
 ·exact gn 16 [1,5,13,14,15] [] [bT h1,cE au.enc h2,bT h3] (hI h)
 ·exact gn 16 [1,5,13,14,15] [] [bT h1,cE au.enc h2,bF h3] (hI h)
 ·exact gn 5 [5] [] [bF h1] (hE h)
theorem nw{a t}{rv:Int}(h:lR a t=some rv):dd prog 84 [.agg (al.enc a),.one (lI t)] [] (one (lI rv)) []:=by
 refine aP func84 fun Γ=>?_
 simp only[lR,ay,an,ao]at h;obtain⟨r,h0,SC,h4,h⟩:=h;refine gn 9 [1,5,13,14,15] [] [cC (H9 h0),nL au.enc a.dp] (BA Γ rv h4 ?_);obtain rfl:=oK h;exact gr 2 [] []
def jk(Γ:a5)(rv:List Int)(cf:Cf):Prop:=Go prog f50 [] Γ (one (lL 1 rv aq)) [] cf
def Bw(Γ:a5)(rv:List Int)(n:ah)(ai az t:Int)(l l1:List Int)(v:Int):Prop:=jk Γ rv ⟨[.c 116,.l 116,.b 0,.c 15],⟨100,[vI 1 ai,vI 2 az,vI 3 t,vP 4 0 2,vO 9 1 1 l1 aq,vI 20 (aB l),vI 21 v],[oX 2 25 (ah.enc n),oS 1 3 l1 aq]⟩⟩
def Aj(Γ:a5)(rv:List Int)(n:ah)(ai az t:Int)(l l2:List Int):Prop:=jk Γ rv ⟨[.c 15],⟨100,[vI 1 ai,vI 2 az,vI 3 t,vP 4 0 2,vO 9 1 1 l2 aq],[oX 2 25 (ah.enc n),oS 1 3 l2 aq]⟩⟩
def By(Γ:a5)(rv:List Int)(n:ah)(ai az:Int)(l l4:List Int)(vK:Bool)(v1:Int):Prop:=jk Γ rv ⟨[.c 64812,.l 64812,.b 4,.b 3,.l 1012,.b 2,.c 127],⟨100,[vI 1 ai,vP 4 0 2,vO 9 1 1 l4 aq,vB 11 vK,vL 39 6 n.aI al.enc,vI 40 (aB n.aI),vI 41 v1],[oX 2 25 (ah.enc n),oS 1 3 l4 aq]⟩⟩
def An(Γ:a5)(rv:List Int)(n:ah)(ai az:Int)(l l5:List Int)(I4:Bool):Prop:=jk Γ rv ⟨[.b 3,.l 1012,.b 2,.c 127],⟨100,[vI 1 ai,vP 4 0 2,vO 9 1 1 l5 aq,vB 11 I4],[oX 2 25 (ah.enc n),oS 1 3 l5 aq]⟩⟩
def Bx(Γ:a5)(rv:List Int)(n:ah)(ai az:Int)(l l3:List Int)(better:Bool):Prop:=jk Γ rv ⟨[.c 1012,.l 1012,.b 2,.c 127],⟨100,[vI 1 ai,vP 4 0 2,vO 9 1 1 l3 aq,vB 11 better],[oX 2 25 (ah.enc n),oS 1 3 l3 aq]⟩⟩
def Al(Γ:a5)(rv:List Int)(n:ah)(ai az:Int)(l l6:List Int):Prop:=jk Γ rv ⟨[.c 127],⟨100,[vO 9 0 1 l6 aq],[oS 1 3 l6 aq]⟩⟩
theorem Ak(Γ:a5)(rv:List Int){n ai az t l}:∀⦃s:List Int×Int⦄ ⦃e:List Int⦄,aF (fun s=>eO n ai az t l s.1 s.2) s=some e→Aj Γ rv n ai az t l e→Bw Γ rv n ai az t l s.1 s.2:=by
 refine aY ?_
 rintro⟨l1,v⟩ z_ h hI hE;simp only[eO,ay,an,ao]at h;rcases h with⟨h1,x0,h2,h⟩|⟨h1,h⟩
 ·exact gn 13 [1,2,3,4,9,20,21] [0,1] [bT h1,oO (eW h2),oO (eV aq h2),rE aq h2,hH (.rows ((fi l1 v (-1)).map aq)),hH (.re 1 ((fi l1 v (-1)).map aq).length),oO (C7 aq l1 v (-1)),rp 2 (oO (oV aq l1 v (-1)))] (hI h)
 ·exact gn 5 [1,2,3,4,9] [0,1] [bF h1] (hE h)
theorem Ao(Γ:a5)(rv:List Int){n ai az l}:∀⦃s:List Int×Bool×Int⦄ ⦃e:List Int×Bool⦄,aF (fun s=>eP n ai az l s.1 s.2.1 s.2.2) s=some e→An Γ rv n ai az l e.1 e.2→By Γ rv n ai az l s.1 s.2.1 s.2.2:=by
 refine aY ?_
 rintro⟨l4,vK,v1⟩ z_ h hI hE;simp only[eP,ay,an,ao]at h;rcases h with⟨h8,x2,h9,⟨dq,h⟩|⟨dq,r1,fM,⟨fN,r2,gC,⟨iH,x3,kT,⟨mo,h⟩|⟨mo,r3,oN,x4,p8,⟨rk,h⟩|⟨rk,⟨rl,h⟩|⟨rl,h⟩⟩⟩⟩|⟨iH,h⟩⟩|⟨fN,h⟩⟩⟩|⟨h8,h⟩
 ·exact gn 16 [1,4,9,11,39,40,41] [0,1] [bT h8,cE al.enc h9,rp 6 (bT dq),rp 14 tT] (hI h)
 ·exact gn 16 [1,4,9,11,39,40,41] [0,1] [bT h8,cE al.enc h9,rp 4 (bF dq),cC (bw fM),rp 2 (bF dq),rp 4 (nF fN),cC (bw gC),rp 2 (nF fN),rp 4 (nF iH),oO (eW kT),oO (eV aq kT),nF iH,rE aq kT,rp 2 (nF iH),bT mo] (hI h)
 ·exact gn 25 [1,4,9,11,39,40,41] [0,1] [bT h8,cE al.enc h9,rp 4 (bF dq),cC (bw fM),rp 2 (bF dq),rp 4 (nF fN),cC (bw gC),rp 2 (nF fN),rp 4 (nF iH),oO (eW kT),oO (eV aq kT),nF iH,rE aq kT,rp 2 (nF iH),bF mo,hH (.draw 8 []),oO (eW kT),oO (eV aq kT),rE aq kT,cC (nw oN),oO (eW p8),oO (eV aq p8),rE aq p8,rp 8 (bT rk),tT,oO (eW p8),oO (eV aq p8),rE aq p8,hH (.rows ((fi l4 x2.cw r3).map aq)),hH (.re 1 ((fi l4 x2.cw r3).map aq).length),oO (C7 aq l4 x2.cw r3),rp 5 (oO (oV aq l4 x2.cw r3))] (hI h)
 ·exact gn 25 [1,4,9,11,39,40,41] [0,1] [bT h8,cE al.enc h9,rp 4 (bF dq),cC (bw fM),rp 2 (bF dq),rp 4 (nF fN),cC (bw gC),rp 2 (nF fN),rp 4 (nF iH),oO (eW kT),oO (eV aq kT),nF iH,rE aq kT,rp 2 (nF iH),bF mo,hH (.draw 8 []),oO (eW kT),oO (eV aq kT),rE aq kT,cC (nw oN),oO (eW p8),oO (eV aq p8),rE aq p8,rp 5 (bF rk),oO (eW p8),oO (eV aq p8),bF rk,rE aq p8,rp 2 (bF rk),bT rl,oO (eW p8),oO (eV aq p8),rE aq p8,hH (.rows ((fi l4 x2.cw r3).map aq)),hH (.re 1 ((fi l4 x2.cw r3).map aq).length),oO (C7 aq l4 x2.cw r3),rp 6 (oO (oV aq l4 x2.cw r3))] (hI h)
 ·exact gn 23 [1,4,9,11,39,40,41] [0,1] [bT h8,cE al.enc h9,rp 4 (bF dq),cC (bw fM),rp 2 (bF dq),rp 4 (nF fN),cC (bw gC),rp 2 (nF fN),rp 4 (nF iH),oO (eW kT),oO (eV aq kT),nF iH,rE aq kT,rp 2 (nF iH),bF mo,hH (.draw 8 []),oO (eW kT),oO (eV aq kT),rE aq kT,cC (nw oN),oO (eW p8),oO (eV aq p8),rE aq p8,rp 5 (bF rk),oO (eW p8),oO (eV aq p8),bF rk,rE aq p8,rp 2 (bF rk),bF rl] (hI h)
 ·exact gn 16 [1,4,9,11,39,40,41] [0,1] [bT h8,cE al.enc h9,rp 4 (bF dq),cC (bw fM),rp 2 (bF dq),rp 4 (nF fN),cC (bw gC),rp 2 (nF fN),rp 7 (nT iH),tT] (hI h)
 ·exact gn 16 [1,4,9,11,39,40,41] [0,1] [bT h8,cE al.enc h9,rp 4 (bF dq),cC (bw fM),rp 2 (bF dq),rp 6 (nT fN),rp 8 tT] (hI h)
 ·exact gn 5 [1,4,9,11] [0,1] [bF h8] (hE h)
theorem Am(Γ:a5)(rv:List Int){n ai az l}:∀⦃s:List Int×Bool⦄ ⦃e:List Int⦄,aF (fun s=>kg n ai az l s.1 s.2) s=some e→Al Γ rv n ai az l e→Bx Γ rv n ai az l s.1 s.2:=by
 refine aY ?_
 rintro⟨l3,better⟩ z_ h hI hE;simp only[kg,ay,an,ao]at h;rcases h with⟨h7,⟨l5,I4⟩,xI,h⟩|⟨h7,h⟩
 ·refine gn 12 [1,4,9,11,39,40,41] [0,1] [bT h7,nL al.enc n.aI] (Ao Γ rv xI ?_);exact gn 2 [1,4,9,11] [0,1] [] (hI h)
 ·exact gn 5 [9] [1] [bF h7] (hE h)
theorem vz{n ai az t}{rv:List Int}(h:kZ n ai az t=some rv):dd prog 50 [.agg (ah.enc n),.one (lI ai),.one (lI az),.one (lI t)] [] (one (lL 1 rv aq)) []:=by
 refine aP func50 fun Γ=>?_
 simp only[kZ,ay,an,ao]at h;obtain⟨l,h0,l2,h3,h⟩:=h;refine gn 9 [1,2,3,4,9,20,21] [0,1] [nL bR n.av,hH (.cells [lI 0]),hH (.rows (l.map aq)),oO (Xa h0),oO (Yk h0),oO (Xb h0),oO (Xc h0),oO (Xd aq h0),nL aq l] (Ak Γ rv h3 ?_);rcases h with⟨r,h4,⟨h5,x1,h6,l6,AL,h⟩|⟨h5,h⟩⟩
 ·refine gn 12 [1,4,9,11] [0,1] [cC (bw h4),nF h5,oO (eW h6),oO (eV aq h6),rE aq h6,hH (.rows ((fi l2 az t).map aq)),hH (.re 1 ((fi l2 az t).map aq).length),oO (C7 aq l2 az t),rp 2 (oO (oV aq l2 az t))] (Am Γ rv AL ?_);obtain rfl:=oK h;exact gr 2 [] [hW 4,hH (.iY 0),rp 3 (eL l6 aq)]
 ·obtain rfl:=oK h;exact gr 6 [] [cC (bw h4),nT h5,hW 4,hH (.iY 1),rp 3 (eL l2 aq)]
def zl(Γ:a5)(rv:aV)(cf:Cf):Prop:=Go prog f26 [] Γ (one (.ip [lL 1 rv.x.b8.av bR,lL 6 rv.x.b8.aI al.enc,lL 14 rv.x.types ag.enc,lL 16 rv.x.aj ab.enc,lL 2 rv.x.cb aA.enc,lL 2 rv.x.before aA.enc,lL 1 rv.rG dM] 0)) [] cf
def DV(Γ:a5)(rv:aV)(x0:ae)(l:List (List Int))(v:Int):Prop:=zl Γ rv ⟨[.c 116,.l 116,.b 0,.c 15],⟨36,[vP 1 0 6,vP 3 1 7,vL 10 14 x0.types ag.enc,vI 11 (aB x0.types),vI 12 v],[oX 6 30 (ae.enc x0),oX 7 89 [lL 1 x0.b8.av bR,lL 6 x0.b8.aI al.enc,lL 14 x0.types ag.enc,lL 16 x0.aj ab.enc,lL 2 x0.cb aA.enc,lL 2 x0.before aA.enc,lO 2 1 l dM],oS 1 52 l dM]⟩⟩
def CG(Γ:a5)(rv:aV)(x0:ae)(l1:List (List Int)):Prop:=zl Γ rv ⟨[.c 15],⟨36,[vP 3 0 7],[oX 7 89 [lL 1 x0.b8.av bR,lL 6 x0.b8.aI al.enc,lL 14 x0.types ag.enc,lL 16 x0.aj ab.enc,lL 2 x0.cb aA.enc,lL 2 x0.before aA.enc,lO 1 1 l1 dM],oS 1 52 l1 dM]⟩⟩
theorem CH(Γ:a5)(rv:aV){x0}:∀⦃s:List (List Int)×Int⦄ ⦃e:List (List Int)⦄,aF (fun s=>fH x0 s.1 s.2) s=some e→CG Γ rv x0 e→DV Γ rv x0 s.1 s.2:=by
 refine aY ?_
 rintro⟨l,v⟩ z_ h hI hE;simp only[fH,ay,an,ao]at h;rcases h with⟨h0,x1,h1,r,h2,h3,h⟩|⟨h0,h⟩
 ·exact gn 13 [1,3,10,11,12] [0,1,5] [bT h0,cE ag.enc h1,hH (.draw 18 [(2,15)]),cC (vz h2),oO (Eq.refl ([r].map dM).length),aO dM h3] (hI h)
 ·exact gn 5 [3] [1,2] [bF h0] (hE h)
theorem sL{x0}{rv:aV}(h:lB x0=some rv):dd prog 26 [.agg (ae.enc x0)] [] (one (.ip [lL 1 rv.x.b8.av bR,lL 6 rv.x.b8.aI al.enc,lL 14 rv.x.types ag.enc,lL 16 rv.x.aj ab.enc,lL 2 rv.x.cb aA.enc,lL 2 rv.x.before aA.enc,lL 1 rv.rG dM] 0)) []:=by
 refine aP func26 fun Γ=>?_
 simp only[lB,ay,an,ao]at h;obtain⟨l1,h4,h⟩:=h;refine gn 9 [1,3,10,11,12] [0,1,2] [nL ag.enc x0.types,hW 3,hH (.jS 1 6 1 52)] (CH Γ rv h4 ?_);cases h;exact gr 2 [] [hW 4,hH (.iY 1),hH (.XG 0),eL l1 dM]
theorem n_{t aL}{rv:Bool}(h:nq t aL=some rv):dd prog 85 [.agg (ag.enc t),.one (lI aL)] [] (one (.bool rv)) []:=by
 refine aP func85 fun Γ=>?_
 simp only[nq,ay,an,ao]at h;cases h;exact gr 4 [] [rp 9 hP,oI ((bP t.aL 0)=true),oR True ((bP t.aL 0)=true),rp 4 (oI (((bP t.aL 0)&&(bP aL 0))=true)),oR True (((bP t.aL 0)&&(bP aL 0))=true)]
def q_(Γ:a5)(rv:Int)(cf:Cf):Prop:=Go prog f51 [] Γ (one (lI rv)) [] cf
def w3(Γ:a5)(rv:Int)(r:aV)(o:ab)(place least v:Int):Prop:=q_ Γ rv ⟨[.c 116,.l 116,.b 0,.c 15],⟨52,[(0,one (.ip (aV.enc r) 0)),vI 2 place,vP 4 0 16,vI 7 least,vL 15 14 r.x.types ag.enc,vI 16 (aB r.x.types),vI 17 v],[oX 16 56 (ab.enc o)]⟩⟩
def vY(Γ:a5)(rv:Int)(r:aV)(o:ab)(place MJ:Int):Prop:=q_ Γ rv ⟨[.c 15],⟨52,[vI 7 MJ],[]⟩⟩
theorem vZ(Γ:a5)(rv:Int){r o place}:∀⦃s:Int×Int⦄ ⦃e:Int⦄,aF (fun s=>dj r o place s.1 s.2) s=some e→vY Γ rv r o place e→w3 Γ rv r o place s.1 s.2:=by
 refine aY ?_
 rintro⟨least,v⟩ z_ h hI hE;simp only[dj,ay,an,ao]at h;rcases h with⟨h0,x0,h1,x1,h2,x2,h3,r1,h4,⟨h5,h⟩|⟨h5,h⟩⟩|⟨h0,h⟩
 ·exact gn 18 [0,2,4,7,15,16,17] [0] [bT h0,cE ag.enc h1,cE dM h2,cE aq h3,cC (n_ h4),rp 12 hP,oI (r1=true),oR True (r1=true),rp 2 (oI ((r1&&(bP x2 0))=true)),rp 2 (oI (((r1&&(bP x2 0))=true)∧(aS least 0)=false)),oI ((r1&&(bP x2 0))=true),oI (((r1&&(bP x2 0))=true)∧(aS least 0)=false),oR True ((r1&&(bP x2 0))=true),bT h5] (hI h)
 ·exact gn 18 [0,2,4,7,15,16,17] [0] [bT h0,cE ag.enc h1,cE dM h2,cE aq h3,cC (n_ h4),rp 12 hP,oI (r1=true),oR True (r1=true),rp 2 (oI ((r1&&(bP x2 0))=true)),rp 2 (oI (((r1&&(bP x2 0))=true)∧(aS least 0)=false)),oI ((r1&&(bP x2 0))=true),oI (((r1&&(bP x2 0))=true)∧(aS least 0)=false),oR True ((r1&&(bP x2 0))=true),bF h5] (hI h)
 ·exact gn 5 [7] [] [bF h0] (hE h)
theorem mv{r o place}{rv:Int}(h:jb r o place=some rv):dd prog 51 [.one (.ip (aV.enc r) 0),.agg (ab.enc o),.one (lI place)] [] (one (lI rv)) []:=by
 refine aP func51 fun Γ=>?_
 simp only[jb,ay,an,ao]at h;obtain⟨MJ,h6,h⟩:=h;refine gn 9 [0,2,4,7,15,16,17] [0] [nL ag.enc r.x.types] (vZ Γ rv h6 ?_);obtain rfl:=oK h;exact gr 2 [] []
theorem pH{t c c1 c2 c3}{rv:Bool}(h:iM t c c1 c2 c3=some rv):dd prog 87 [.agg (ag.enc t),.one (.ip (ab.enc c) 0),.one (.ip [.ip (aV.enc c1) 0] 0),.one (.ip [lI c2] 0),.one (.ip [lI c3] 0)] [] (one (.bool rv)) []:=by
 refine aP func87 fun Γ=>?_
 simp only[iM,ay,an,ao]at h;rcases h with⟨r,h0,⟨h1,r1,h2,x0,h3,h⟩|⟨h1,h⟩⟩
 ·cases h;exact gr 11 [] [cC (n_ h0),nF h1,hH (.draw 15 []),cC (vz h2),cE aq h3,rp 5 hP,rp 3 (oI ((bP x0 0)=true)),oR True ((bP x0 0)=true)]
 ·obtain rfl:=oK h;exact gr 8 [] [cC (n_ h0),nT h1]
def gk(Γ:a5)(rv:Int)(cf:Cf):Prop:=Go prog f124 [] Γ (one (lI rv)) [] cf
def kK(Γ:a5)(rv:Int)(s0:List ag)(c:ab)(c1:aV)(c2 c3 v:Int):Prop:=gk Γ rv ⟨[.c 52,.l 52,.b 0,.c 7],⟨19,[vL 0 14 s0 ag.enc,(1,one (.fn (.func 87) [.ip (ab.enc c) 0,.ip [.ip (aV.enc c1) 0] 0,.ip [lI c2] 0,.ip [lI c3] 0])),vI 7 (aB s0),vI 8 v],[]⟩⟩
def kp(Γ:a5)(rv:Int)(s0:List ag)(c:ab)(c1:aV)(c2 c3:Int):Prop:=gk Γ rv ⟨[.c 7],⟨19,[],[]⟩⟩
theorem kr(Γ:a5)(rv:Int){s0 c c1 c2 c3}:∀⦃s:Int⦄ ⦃e:(Unit)⊕(Int)⦄,aF (fun s=>bo s0 c c1 c2 c3 s) s=some e→jB e (fun e=>kp Γ rv s0 c c1 c2 c3) (fun e=>e=rv)→kK Γ rv s0 c c1 c2 c3 s:=by
 refine aY ?_
 intro v z_ h hI hE;simp only[bo,ay,an,ao]at h;rcases h with⟨h0,x0,h1,r,h2,⟨h3,h⟩|⟨h3,h⟩⟩|⟨h0,h⟩
 ·obtain rfl:=(hE h:_=rv);exact gr 14 [] [bT h0,cE ag.enc h1,cC (pH h2),bT h3]
 ·exact gn 16 [0,1,7,8] [] [bT h0,cE ag.enc h1,cC (pH h2),bF h3] (hI h)
 ·exact gn 5 [] [] [bF h0] (hE h)
theorem lF{s0 c c1 c2 c3}{rv:Int}(h:df s0 c c1 c2 c3=some rv):dd prog 124 [.one (lL 14 s0 ag.enc),.one (.fn (.func 87) [.ip (ab.enc c) 0,.ip [.ip (aV.enc c1) 0] 0,.ip [lI c2] 0,.ip [lI c3] 0])] [] (one (lI rv)) []:=by
 refine aP func124 fun Γ=>?_
 simp only[df,ay,an,ao]at h;obtain⟨e0,h4,h⟩:=h;refine gn 7 [0,1,7,8] [] [nL ag.enc s0] (kr Γ rv h4 ?_);rcases e0 with e0|r1
 ·cases h;exact gr 2 [] []
 ·exact oK h
theorem kk{s0 c c1 c2 c3}{rv:Bool}(h:cT s0 c c1 c2 c3=some rv):dd prog 86 [.one (lL 14 s0 ag.enc),.one (.fn (.func 87) [.ip (ab.enc c) 0,.ip [.ip (aV.enc c1) 0] 0,.ip [lI c2] 0,.ip [lI c3] 0])] [] (one (.bool rv)) []:=by
 refine aP func86 fun Γ=>?_
 simp only[cT,ay,an,ao]at h;obtain⟨r,h0,h⟩:=h;cases h;exact gr 4 [] [cC (lF h0)]
theorem zm{r o place bW}{rv:Bool}(h:jH r o place bW=some rv):dd prog 54 [.one (.ip (aV.enc r) 0),.agg (ab.enc o),.one (lI place),.one (lI bW)] [] (one (.bool rv)) []:=by
 refine aP func54 fun Γ=>?_
 simp only[jH,ay,an,ao]at h;obtain⟨r1,h0,h⟩:=h;obtain rfl:=oK h;exact gr 4 [] [cC (kk h0)]
theorem ra{k c c1 c2 c3}{rv:Bool}(h:im k c c1 c2 c3=some rv):dd prog 53 [.one (lI k),.one (.ip [.ip (aV.enc c) 0] 0),.one (.ip (ab.enc c1) 0),.one (.ip (aK.enc c2) 0),.one (.ip [lI c3] 0)] [] (one (.bool rv)) []:=by
 refine aP func53 fun Γ=>?_
 simp only[im,ay,an,ao]at h;obtain⟨r,h0,h⟩:=h;cases h;exact gr 4 [] [cC (zm h0)]
def tB(Γ:a5)(rv:Int)(cf:Cf):Prop:=Go prog f52 [] Γ (one (lI rv)) [] cf
def yN(Γ:a5)(rv:Int)(c:aV)(c1:ab)(c2:aK)(c3 i j:Int):Prop:=tB Γ rv ⟨[.c 56,.l 56,.b 0,.c 15],⟨26,[(1,one (.fn (.func 53) [.ip [.ip (aV.enc c) 0] 0,.ip (ab.enc c1) 0,.ip (aK.enc c2) 0,.ip [lI c3] 0])),vI 5 i,vI 6 j],[]⟩⟩
def xA(Γ:a5)(rv:Int)(c:aV)(c1:ab)(c2:aK)(c3 i1:Int):Prop:=tB Γ rv ⟨[.c 15],⟨26,[vI 5 i1],[]⟩⟩
theorem xB(Γ:a5)(rv:Int){c c1 c2 c3}:∀⦃s:Int×Int⦄ ⦃e:Int⦄,aF (fun s=>iP c c1 c2 c3 s.1 s.2) s=some e→xA Γ rv c c1 c2 c3 e→yN Γ rv c c1 c2 c3 s.1 s.2:=by
 refine aY ?_
 rintro⟨i,j⟩ z_ h hI hE;simp only[iP,ay,an,ao]at h;rcases h with⟨h0,r,h1,⟨h2,h⟩|⟨h2,h⟩⟩|⟨h0,h⟩
 ·exact gn 14 [1,5,6] [] [bT h0,oO (zL 1),cC (ra h1),nF h2] (hI h)
 ·exact gn 14 [1,5,6] [] [bT h0,oO (zL 1),cC (ra h1),nT h2] (hI h)
 ·exact gn 5 [5] [] [bF h0] (hE h)
theorem sZ{n c c1 c2 c3}{rv:Int}(h:kD n c c1 c2 c3=some rv):dd prog 52 [.one (lI n),.one (.fn (.func 53) [.ip [.ip (aV.enc c) 0] 0,.ip (ab.enc c1) 0,.ip (aK.enc c2) 0,.ip [lI c3] 0])] [] (one (lI rv)) []:=by
 refine aP func52 fun Γ=>?_
 simp only[kD,ay,an,ao]at h;obtain⟨i1,h3,h⟩:=h;refine gn 7 [1,5,6] [] [] (xB Γ rv h3 ?_);obtain rfl:=oK h;exact gr 2 [] []
theorem lN{r o s0}{rv:aK}(h:eI r o s0=some rv):dd prog 28 [.one (.ip (aV.enc r) 0),.agg (ab.enc o),.agg (aK.enc s0)] [] (gG [lI rv.place,lI rv.aH,lI rv.aQ,lI rv.aR]) []:=by
 refine aP func28 fun Γ=>?_
 simp only[eI,ay,an,ao]at h;rcases h with⟨h0,h⟩|⟨h0,r1,h1,⟨h2,h⟩|⟨h2,r2,h3,⟨h4,h⟩|⟨h4,h⟩⟩⟩
 ·obtain rfl:=oK h;exact gr 8 [] [bT h0]
 ·obtain rfl:=oK h;exact gr 15 [] [bF h0,cC (mv h1),rp 5 hP,rp 3 (oI ((aS r1 0)=false)),oR True ((aS r1 0)=false),bT h2]
 ·obtain rfl:=oK h;exact gr 24 [] [bF h0,cC (mv h1),rp 5 hP,rp 3 (oI ((aS r1 0)=false)),oR True ((aS r1 0)=false),bF h2,cC (sZ h3),bT h4]
 ·cases h;exact gr 27 [] [bF h0,cC (mv h1),rp 5 hP,rp 3 (oI ((aS r1 0)=false)),oR True ((aS r1 0)=false),bF h2,cC (sZ h3),bF h4,hH (.draw 8 [(2,6)])]
theorem iO{s0}{rv:List ab}(h:cD s0=some rv):dd prog 27 [.one (lL 16 s0 ab.enc)] [] (one (lO 0 16 rv ab.enc)) [oS 16 56 rv ab.enc]:=by
 refine aP func27 fun Γ=>?_
 simp only[cD,ay,an,ao]at h;rcases h with⟨h0,h⟩|⟨h0,h2,h⟩
 ·obtain⟨hx,h⟩:=NF h;refine gn 5 [0,4] [] [hH (.skip)] (UY:=⟨[.c 13,.c 7],⟨8,[vL 0 16 s0 ab.enc,(4,.Px)],[]⟩⟩) (go_amb 4 rfl ?_ ?_)
  ·replace h:=hx;cases h;exact gr 3 [0] [tT,hW 3,hH (.kN 2 16 56)]
  ·simp only[ay,an,ao]at h;obtain⟨h1,h⟩:=h;obtain rfl:=oK h;exact gr 4 [0] [fF,aZ ab.enc h1]
 ·obtain rfl:=oK h;exact gr 9 [0] [oO (neE ab.enc h0),fF,hH (.bit false),aZ ab.enc h2]
def CF(Γ:a5)(rv:ae×Int)(cf:Cf):Prop:=Go prog f10 [] Γ (.pX [.agg [lL 1 rv.1.b8.av bR,lL 6 rv.1.b8.aI al.enc,lL 14 rv.1.types ag.enc,lL 16 rv.1.aj ab.enc,lL 2 rv.1.cb aA.enc,lL 2 rv.1.before aA.enc],.one (lI rv.2)]) [] cf
def GM(Γ:a5)(rv:ae×Int)(x0:ae)(r1:aV)(r2 l:List ab)(v:Int):Prop:=CF Γ rv ⟨[.c 500,.l 500,.b 0,.c 63],⟨49,[vP 1 0 6,vP 2 1 6,(4,one (.ip (aV.enc r1) 0)),vO 18 2 16 l ab.enc,vI 19 (aB r2),vI 20 v],[oX 6 30 [lL 1 x0.b8.av bR,lL 6 x0.b8.aI al.enc,lL 14 x0.types ag.enc,lO 2 16 l ab.enc,lL 2 x0.cb aA.enc,lL 2 x0.before aA.enc],oX 6 30 [.cM,.cM,.cM,.cM,.cM,.cM],oS 16 56 l ab.enc]⟩⟩
def Fa(Γ:a5)(rv:ae×Int)(x0:ae)(r1:aV)(r2 l1:List ab):Prop:=CF Γ rv ⟨[.c 63],⟨49,[vP 1 0 6,vP 2 1 6],[oX 6 30 [lL 1 x0.b8.av bR,lL 6 x0.b8.aI al.enc,lL 14 x0.types ag.enc,lO 2 16 l1 ab.enc,lL 2 x0.cb aA.enc,lL 2 x0.before aA.enc],oX 6 30 [.cM,.cM,.cM,.cM,.cM,.cM],oS 16 56 l1 ab.enc]⟩⟩
theorem Fb(Γ:a5)(rv:ae×Int){x0 r1 r2}:∀⦃s:List ab×Int⦄ ⦃e:List ab⦄,aF (fun s=>iV x0 r1 r2 s.1 s.2) s=some e→Fa Γ rv x0 r1 r2 e→GM Γ rv x0 r1 r2 s.1 s.2:=by
 refine aY ?_
 rintro⟨l,v⟩ z_ h hI hE;simp only[iV,ay,an,ao]at h;rcases h with⟨h4,x1,h5,⟨h6,h⟩|⟨h6,r3,h7,r4,h8,h⟩⟩|⟨h4,h⟩
 ·exact gn 16 [1,2,4,18,19,20] [0,1,2] [bT h4,oO (eW h5),oO (eV ab.enc h5),rE ab.enc h5,bT h6] (hI h)
 ·exact gn 20 [1,2,4,18,19,20] [0,1,2] [bT h4,oO (eW h5),oO (eV ab.enc h5),rE ab.enc h5,bF h6,hH (.draw 10 []),cC (lN h7),oO (eW h5),oO (eV ab.enc h5),rE ab.enc h5,hH (.rows ((fi l v (ab.mk x1.name x1.load r3 x1.drop x1.aL x1.bg x1.split x1.a3 x1.now x1.off)).map ab.enc)),hH (.re 2 ((fi l v (ab.mk x1.name x1.load r3 x1.drop x1.aL x1.bg x1.split x1.a3 x1.now x1.off)).map ab.enc).length),hH (.draw 10 []),oO (C7 ab.enc l v (ab.mk x1.name x1.load r3 x1.drop x1.aL x1.bg x1.split x1.a3 x1.now x1.off)),rp 3 (oO (oV ab.enc l v (ab.mk x1.name x1.load r3 x1.drop x1.aL x1.bg x1.split x1.a3 x1.now x1.off))),cC (lN h8),oO (eW (getSet h5 (ab.mk x1.name x1.load r3 x1.drop x1.aL x1.bg x1.split x1.a3 x1.now x1.off))),oO (eV ab.enc (getSet h5 (ab.mk x1.name x1.load r3 x1.drop x1.aL x1.bg x1.split x1.a3 x1.now x1.off))),rE ab.enc (getSet h5 (ab.mk x1.name x1.load r3 x1.drop x1.aL x1.bg x1.split x1.a3 x1.now x1.off)),hH (.rows ((fi (fi l v (ab.mk x1.name x1.load r3 x1.drop x1.aL x1.bg x1.split x1.a3 x1.now x1.off)) v (ab.mk x1.name x1.load r3 r4 x1.aL x1.bg x1.split x1.a3 x1.now x1.off)).map ab.enc)),hH (.re 2 ((fi (fi l v (ab.mk x1.name x1.load r3 x1.drop x1.aL x1.bg x1.split x1.a3 x1.now x1.off)) v (ab.mk x1.name x1.load r3 r4 x1.aL x1.bg x1.split x1.a3 x1.now x1.off)).map ab.enc).length),oO (C7 ab.enc (fi l v (ab.mk x1.name x1.load r3 x1.drop x1.aL x1.bg x1.split x1.a3 x1.now x1.off)) v (ab.mk x1.name x1.load r3 r4 x1.aL x1.bg x1.split x1.a3 x1.now x1.off)),rp 4 (oO (oV ab.enc (fi l v (ab.mk x1.name x1.load r3 x1.drop x1.aL x1.bg x1.split x1.a3 x1.now x1.off)) v (ab.mk x1.name x1.load r3 r4 x1.aL x1.bg x1.split x1.a3 x1.now x1.off)))] (hI h)
 ·exact gn 5 [1,2] [0,1,2] [bF h4] (hE h)
theorem uX{x0}{rv:ae×Int}(h:nz x0=some rv):dd prog 10 [.agg (ae.enc x0)] [] (.pX [.agg [lL 1 rv.1.b8.av bR,lL 6 rv.1.b8.aI al.enc,lL 14 rv.1.types ag.enc,lL 16 rv.1.aj ab.enc,lL 2 rv.1.cb aA.enc,lL 2 rv.1.before aA.enc],.one (lI rv.2)]) []:=by
 refine aP func10 fun Γ=>?_
 simp only[nz,ay,an,ao]at h;rcases h with⟨r,h0,⟨h1,r1,h2,r2,h3,l1,h9,h⟩|⟨h1,h⟩⟩
 ·refine gn 16 [1,2,4,18,19,20] [0,1,2] [cC (lV h0),nF h1,cC (sL h2),cC (iO h3),nL ab.enc r2] (Fb Γ rv h9 ?_);cases h;exact gr 2 [] [hW 5,hH (.iY 2),rp 3 (eL l1 ab.enc)]
 ·cases h;exact gr 8 [] [cC (lV h0),nT h1,hW 5,hH (.fg 1 0 1),hH (.fg 1 1 6),hH (.fg 1 2 14),hH (.fg 1 3 16),hH (.fg 1 4 2),hH (.fg 1 5 2)]
def Cy(Γ:a5)(rv:al×Bool)(cf:Cf):Prop:=Go prog f89 [] Γ (.pX [.agg [lI rv.1.az,lI rv.1.cw,lI rv.1.ai,lI rv.1.dc,lL 2 rv.1.cz au.enc,lL 2 rv.1.dp au.enc],.one (.bool rv.2)]) [] cf
def Gv(Γ:a5)(rv:al×Bool)(n:ah)(ai az cw v:Int):Prop:=Cy Γ rv ⟨[.c 116,.l 116,.b 0,.c 15],⟨31,[vP 8 0 6,vP 10 1 3,vL 18 6 n.aI al.enc,vI 19 (aB n.aI),vI 20 v],[oX 6 59 [lI 0,lI 0,lI 0,lI 0,.cM,.cM],oX 3 154 [lI az,lI cw,lI ai]]⟩⟩
def EY(Γ:a5)(rv:al×Bool)(n:ah)(ai az cw:Int):Prop:=Cy Γ rv ⟨[.c 15],⟨31,[vP 8 0 6],[oX 6 59 [lI 0,lI 0,lI 0,lI 0,.cM,.cM]]⟩⟩
theorem EZ(Γ:a5)(rv:al×Bool){n ai az cw}:∀⦃s:Int⦄ ⦃e:(Unit)⊕(al×Bool)⦄,aF (fun s=>nW n ai az cw s) s=some e→jB e (fun e=>EY Γ rv n ai az cw) (fun e=>e=rv)→Gv Γ rv n ai az cw s:=by
 refine aY ?_
 intro v z_ h hI hE;simp only[nW,ay,an,ao]at h;rcases h with⟨h0,x0,h1,r,h2,⟨h3,h⟩|⟨h3,h⟩⟩|⟨h0,h⟩
 ·obtain rfl:=(hE h:_=rv);exact gr 14 [] [bT h0,cE al.enc h1,hH (.draw 4 []),cC (jl h2),bT h3]
 ·exact gn 16 [8,10,18,19,20] [0,1] [bT h0,cE al.enc h1,hH (.draw 4 []),cC (jl h2),bF h3] (hI h)
 ·exact gn 5 [8] [0] [bF h0] (hE h)
theorem AQ{n ai az cw}{rv:al×Bool}(h:sA n ai az cw=some rv):dd prog 89 [.agg (ah.enc n),.one (lI ai),.one (lI az),.one (lI cw)] [] (.pX [.agg [lI rv.1.az,lI rv.1.cw,lI rv.1.ai,lI rv.1.dc,lL 2 rv.1.cz au.enc,lL 2 rv.1.dp au.enc],.one (.bool rv.2)]) []:=by
 refine aP func89 fun Γ=>?_
 simp only[sA,ay,an,ao]at h;obtain⟨e0,h4,h⟩:=h;refine gn 9 [8,10,18,19,20] [1,2] [nL al.enc n.aI] (EZ Γ rv h4 ?_);rcases e0 with e0|r1
 ·cases h;exact gr 2 [] [hW 5,hH (.fg 0 4 2),hH (.fg 0 5 2)]
 ·exact oK h
theorem iI{n ai az cw t}{rv:Int×Int×Int}(h:qD n ai az cw t=some rv):dd prog 60 [.agg (ah.enc n),.one (lI ai),.one (lI az),.one (lI cw),.one (lI t)] [] (.pX [.one (lI rv.1),.one (lI rv.2.1),.one (lI rv.2.2)]) []:=by
 refine aP func60 fun Γ=>?_
 simp only[qD,ay,an,ao]at h;rcases h with⟨r,h0,⟨h1,r1,h2,⟨h3,⟨h4,h⟩|⟨h4,r2,h5,⟨h6,r3,h7,h⟩|⟨h6,h⟩⟩⟩|⟨h3,h⟩⟩|⟨h1,h⟩⟩
 ·cases h;exact gr 13 [] [cC (bw h0),rp 3 (nF h1),cC (bw h2),nF h1,nF h1,nF h3,bT h4]
 ·cases h;exact gr 21 [] [cC (bw h0),rp 3 (nF h1),cC (bw h2),nF h1,nF h1,nF h3,bF h4,cC (AQ h5),nF h6,hH (.draw 8 []),cC (nw h7)]
 ·cases h;exact gr 20 [] [cC (bw h0),rp 3 (nF h1),cC (bw h2),nF h1,nF h1,nF h3,bF h4,cC (AQ h5),nT h6]
 ·cases h;exact gr 8 [] [cC (bw h0),rp 3 (nF h1),cC (bw h2),nF h1,nF h1,nT h3]
 ·cases h;exact gr 8 [] [cC (bw h0),rp 5 (nT h1),tT]
def vA(Γ:a5)(rv:Bool)(cf:Cf):Prop:=Go prog f35 [] Γ (one (.bool rv)) [] cf
def At(Γ:a5)(rv:Bool)(r:aV)(a:al)(v:Int):Prop:=vA Γ rv ⟨[.c 52,.l 52,.b 0,.c 7],⟨68,[(0,one (.ip (aV.enc r) 0)),vP 3 0 6,vL 15 14 r.x.types ag.enc,vI 16 (aB r.x.types),vI 17 v],[oX 6 59 (al.enc a)]⟩⟩
def zn(Γ:a5)(rv:Bool)(r:aV)(a:al):Prop:=vA Γ rv ⟨[.c 7],⟨68,[],[]⟩⟩
theorem zo(Γ:a5)(rv:Bool){r a}:∀⦃s:Int⦄ ⦃e:(Unit)⊕(Bool)⦄,aF (fun s=>eY r a s) s=some e→jB e (fun e=>zn Γ rv r a) (fun e=>e=rv)→At Γ rv r a s:=by
 refine aY ?_
 intro v z_ h hI hE;simp only[eY,ay,an,ao]at h;rcases h with⟨h0,x0,h1,x1,h2,x2,h3,⟨h4,h⟩|⟨h4,r1,h5,⟨h6,h⟩|⟨h6,h⟩⟩⟩|⟨h0,h⟩
 ·exact gn 18 [0,3,15,16,17] [0] [bT h0,cE ag.enc h1,hH (.draw 12 []),cE dM h2,cE aq h3,hP,hP,hP,oI ((bK x0.ai a.ai)=false),oR True ((bK x0.ai a.ai)=false),bT h4] (hI h)
 ·obtain rfl:=(hE h:_=rv);exact gr 23 [] [bT h0,cE ag.enc h1,hH (.draw 12 []),cE dM h2,cE aq h3,hP,hP,hP,oI ((bK x0.ai a.ai)=false),oR True ((bK x0.ai a.ai)=false),bF h4,hH (.draw 20 []),cC (iI h5),rp 5 hP,rp 3 (oI ((aW r1.2.2 0)=true)),oR True ((aW r1.2.2 0)=true),bT h6]
 ·exact gn 25 [0,3,15,16,17] [0] [bT h0,cE ag.enc h1,hH (.draw 12 []),cE dM h2,cE aq h3,hP,hP,hP,oI ((bK x0.ai a.ai)=false),oR True ((bK x0.ai a.ai)=false),bF h4,hH (.draw 20 []),cC (iI h5),rp 5 hP,rp 3 (oI ((aW r1.2.2 0)=true)),oR True ((aW r1.2.2 0)=true),bF h6] (hI h)
 ·exact gn 5 [] [] [bF h0] (hE h)
theorem uH{r a}{rv:Bool}(h:mi r a=some rv):dd prog 35 [.one (.ip (aV.enc r) 0),.agg (al.enc a)] [] (one (.bool rv)) []:=by
 refine aP func35 fun Γ=>?_
 simp only[mi,ay,an,ao]at h;obtain⟨e0,h7,h⟩:=h;refine gn 7 [0,3,15,16,17] [0] [nL ag.enc r.x.types] (zo Γ rv h7 ?_);rcases e0 with e0|r2
 ·obtain rfl:=oK h;exact gr 2 [] []
 ·exact oK h
def Ez(Γ:a5)(rv:ae×Int)(cf:Cf):Prop:=Go prog f13 [] Γ (.pX [.agg [lL 1 rv.1.b8.av bR,lL 6 rv.1.b8.aI al.enc,lL 14 rv.1.types ag.enc,lL 16 rv.1.aj ab.enc,lL 2 rv.1.cb aA.enc,lL 2 rv.1.before aA.enc],.one (lI rv.2)]) [] cf
def HT(Γ:a5)(rv:ae×Int)(x0:ae)(r1:aV)(l:List al)(v:Int):Prop:=Ez Γ rv ⟨[.c 500,.l 500,.b 0,.c 63],⟨34,[vP 1 0 6,vP 2 1 6,(4,one (.ip (aV.enc r1) 0)),vO 5 2 6 l al.enc,vL 16 6 x0.b8.aI al.enc,vI 17 (aB x0.b8.aI),vI 18 v],[oX 6 30 (ae.enc x0),oX 6 30 [.cM,.cM,.cM,.cM,.cM,.cM],oS 6 59 l al.enc]⟩⟩
def GK(Γ:a5)(rv:ae×Int)(x0:ae)(r1:aV)(l1:List al):Prop:=Ez Γ rv ⟨[.c 63],⟨34,[vP 1 0 6,vP 2 1 6,vO 5 2 6 l1 al.enc],[oX 6 30 (ae.enc x0),oX 6 30 [.cM,.cM,.cM,.cM,.cM,.cM],oS 6 59 l1 al.enc]⟩⟩
theorem GL(Γ:a5)(rv:ae×Int){x0 r1}:∀⦃s:List al×Int⦄ ⦃e:List al⦄,aF (fun s=>jG x0 r1 s.1 s.2) s=some e→GK Γ rv x0 r1 e→HT Γ rv x0 r1 s.1 s.2:=by
 refine aY ?_
 rintro⟨l,v⟩ z_ h hI hE;simp only[jG,ay,an,ao]at h;rcases h with⟨h3,x1,h4,r2,h5,⟨h6,h7,h⟩|⟨h6,h⟩⟩|⟨h3,h⟩
 ·exact gn 16 [1,2,4,5,16,17,18] [0,1,5] [bT h3,cE al.enc h4,cC (uH h5),bT h6,oO (Eq.refl ([x1].map al.enc).length),aO al.enc h7] (hI h)
 ·exact gn 16 [1,2,4,5,16,17,18] [0,1,2] [bT h3,cE al.enc h4,cC (uH h5),bF h6] (hI h)
 ·exact gn 5 [1,2,5] [0,1,2] [bF h3] (hE h)
theorem wZ{x0}{rv:ae×Int}(h:o_ x0=some rv):dd prog 13 [.agg (ae.enc x0)] [] (.pX [.agg [lL 1 rv.1.b8.av bR,lL 6 rv.1.b8.aI al.enc,lL 14 rv.1.types ag.enc,lL 16 rv.1.aj ab.enc,lL 2 rv.1.cb aA.enc,lL 2 rv.1.before aA.enc],.one (lI rv.2)]) []:=by
 refine aP func13 fun Γ=>?_
 simp only[o_,ay,an,ao]at h;rcases h with⟨r,h0,⟨h1,r1,h2,l1,h8,h⟩|⟨h1,h⟩⟩
 ·refine gn 16 [1,2,4,5,16,17,18] [0,1,2] [cC (lV h0),nF h1,cC (sL h2),nL al.enc x0.b8.aI,hW 3,hH (.kN 5 6 59)] (GL Γ rv h8 ?_);cases h;exact gr 4 [] [hW 11,hH (.iY 2),rp 5 (eL l1 al.enc)]
 ·cases h;exact gr 8 [] [cC (lV h0),nT h1,hW 5,hH (.fg 1 0 1),hH (.fg 1 1 6),hH (.fg 1 2 14),hH (.fg 1 3 16),hH (.fg 1 4 2),hH (.fg 1 5 2)]
theorem mZ{x0}{rv:ae×Int}(h:uh x0=some rv):dd prog 17 [.agg (ae.enc x0)] [] (.pX [.agg [lL 1 rv.1.b8.av bR,lL 6 rv.1.b8.aI al.enc,lL 14 rv.1.types ag.enc,lL 16 rv.1.aj ab.enc,lL 2 rv.1.cb aA.enc,lL 2 rv.1.before aA.enc],.one (lI rv.2)]) []:=by
 refine aP func17 fun Γ=>?_
 simp only[uh,ay,an,ao]at h;rcases h with⟨r,h0,⟨h1,h⟩|⟨h1,r1,h2,h⟩⟩
 ·cases h;exact gr 10 [] [cC (uX h0),bT h1,hW 6,hH (.fg 1 0 1),hH (.fg 1 1 6),hH (.fg 1 2 14),hH (.fg 1 3 16),hH (.fg 1 4 2),hH (.fg 1 5 2)]
 ·cases h;exact gr 11 [] [cC (uX h0),bF h1,cC (wZ h2)]
def CI(Γ:a5)(rv:Int)(cf:Cf):Prop:=Go prog f37 [] Γ (one (lI rv)) [] cf
def GN(Γ:a5)(rv:Int)(l:List ab)(sum v:Int):Prop:=CI Γ rv ⟨[.c 116,.l 116,.b 0,.c 15],⟨31,[vI 3 sum,vL 6 16 l ab.enc,vI 7 (aB l),vI 8 v],[]⟩⟩
def Fc(Γ:a5)(rv:Int)(l:List ab)(Nh:Int):Prop:=CI Γ rv ⟨[.c 15],⟨31,[vI 3 Nh],[]⟩⟩
theorem Fe(Γ:a5)(rv:Int){l}:∀⦃s:Int×Int⦄ ⦃e:Int⦄,aF (fun s=>uY l s.1 s.2) s=some e→Fc Γ rv l e→GN Γ rv l s.1 s.2:=by
 refine aY ?_
 rintro⟨sum,v⟩ z_ h hI hE;simp only[uY,ay,an,ao]at h;rcases h with⟨h0,x0,h1,h⟩|⟨h0,h⟩
 ·exact gn 13 [3,6,7,8] [] [bT h0,cE ab.enc h1] (hI h)
 ·exact gn 5 [3] [] [bF h0] (hE h)
theorem AU{l}{rv:Int}(h:v5 l=some rv):dd prog 37 [.one (lL 16 l ab.enc)] [] (one (lI rv)) []:=by
 refine aP func37 fun Γ=>?_
 simp only[v5,ay,an,ao]at h;obtain⟨Nh,h2,h⟩:=h;refine gn 9 [3,6,7,8] [] [nL ab.enc l] (Fe Γ rv h2 ?_);obtain rfl:=oK h;exact gr 2 [] []
theorem uW{x0}{rv:Int×Int×Int}(h:As x0=some rv):dd prog 15 [.agg (ae.enc x0)] [] (.pX [.one (lI rv.1),.one (lI rv.2.1),.one (lI rv.2.2)]) []:=by
 refine aP func15 fun Γ=>?_
 simp only[As,ay,an,ao]at h;rcases h with⟨r,h0,⟨h1,h⟩|⟨h1,r1,h2,r2,h3,h⟩⟩
 ·cases h;exact gr 10 [] [cC (mZ h0),bT h1]
 ·cases h;exact gr 11 [] [cC (mZ h0),bF h1,hH (.draw 19 []),cC (AU h2),cC (AU h3),nL al.enc x0.b8.aI,nL al.enc r.1.b8.aI]
theorem gP{bN i}{rv:Bool}(h:uM bN i=some rv):dd prog 135 [.one (lI bN),.one (lI i)] [] (one (.bool rv)) []:=by
 refine aP func135 fun Γ=>?_
 simp only[uM,ay,an,ao]at h;rcases h with⟨h0,h1,h⟩|⟨h0,h⟩
 ·cases h;exact gr 4 [] [hP,hP,hP,oI ((bP i 0)=true),oR True ((bP i 0)=true),rp 3 (bT h0),oO (h1),rp 3 (bT h0)]
 ·obtain rfl:=oK h;exact gr 4 [] [hP,hP,hP,oI ((bP i 0)=true),oR True ((bP i 0)=true),rp 6 (bF h0)]
def C8(Γ:a5)(rv:List Int)(cf:Cf):Prop:=Go prog f108 [] Γ (one (lL 1 rv aq)) [] cf
def G0(Γ:a5)(rv:List Int)(bN:Int)(l:List Int)(v:Int):Prop:=C8 Γ rv ⟨[.c 116,.l 116,.b 0,.c 15],⟨17,[vI 0 bN,vO 3 0 1 l aq,vI 5 v],[oS 1 3 l aq]⟩⟩
def Fv(Γ:a5)(rv:List Int)(bN:Int)(l1:List Int):Prop:=C8 Γ rv ⟨[.c 15],⟨17,[vO 3 0 1 l1 aq],[oS 1 3 l1 aq]⟩⟩
theorem Fw(Γ:a5)(rv:List Int){bN}:∀⦃s:List Int×Int⦄ ⦃e:List Int⦄,aF (fun s=>u_ bN s.1 s.2) s=some e→Fv Γ rv bN e→G0 Γ rv bN s.1 s.2:=by
 refine aY ?_
 rintro⟨l,v⟩ z_ h hI hE;simp only[u_,ay,an,ao]at h;rcases h with⟨h0,r,h1,⟨h2,h3,h⟩|⟨h2,h⟩⟩|⟨h0,h⟩
 ·exact gn 16 [0,3,5] [2] [bT h0,cC (gP h1),bT h2,oO (Eq.refl ([v].map aq).length),aO aq h3] (hI h)
 ·exact gn 16 [0,3,5] [0] [bT h0,cC (gP h1),bF h2] (hI h)
 ·exact gn 5 [3] [0] [bF h0] (hE h)
theorem va{bN}{rv:List Int}(h:sY bN=some rv):dd prog 108 [.one (lI bN)] [] (one (lL 1 rv aq)) []:=by
 refine aP func108 fun Γ=>?_
 simp only[sY,ay,an,ao]at h;obtain⟨l1,h4,h⟩:=h;refine gn 9 [0,3,5] [0] [hW 12,hH (.kN 3 1 3)] (Fw Γ rv h4 ?_);obtain rfl:=oK h;exact gr 2 [] [hW 4,hH (.iY 0),rp 3 (eL l1 aq)]
def sM(Γ:a5)(rv:List Int)(cf:Cf):Prop:=Go prog f136 [] Γ (one (lL 1 rv aq)) [] cf
def GV(Γ:a5)(rv:List Int)(before:List aA)(l l2:List Int)(LG:Bool)(v:Int):Prop:=sM Γ rv ⟨[.c 7468,.l 7468,.b 2,.b 1,.l 116,.b 0,.c 15],⟨68,[vL 1 2 before aA.enc,vO 5 0 1 l2 aq,vB 6 LG,vL 16 2 before aA.enc,vI 17 (aB before),vI 18 v],[oS 1 3 l2 aq]⟩⟩
def Fp(Γ:a5)(rv:List Int)(before:List aA)(l l3:List Int)(Ro:Bool):Prop:=sM Γ rv ⟨[.b 1,.l 116,.b 0,.c 15],⟨68,[vL 1 2 before aA.enc,vO 5 0 1 l3 aq,vB 6 Ro],[oS 1 3 l3 aq]⟩⟩
def GU(Γ:a5)(rv:List Int)(before:List aA)(l l1:List Int)(more:Bool):Prop:=sM Γ rv ⟨[.c 116,.l 116,.b 0,.c 15],⟨68,[vL 1 2 before aA.enc,vO 5 0 1 l1 aq,vB 6 more],[oS 1 3 l1 aq]⟩⟩
def Fm(Γ:a5)(rv:List Int)(before:List aA)(l l4:List Int):Prop:=sM Γ rv ⟨[.c 15],⟨68,[vO 5 0 1 l4 aq],[oS 1 3 l4 aq]⟩⟩
theorem Fq(Γ:a5)(rv:List Int){before l}:∀⦃s:List Int×Bool×Int⦄ ⦃e:List Int×Bool⦄,aF (fun s=>u5 before l s.1 s.2.1 s.2.2) s=some e→Fp Γ rv before l e.1 e.2→GV Γ rv before l s.1 s.2.1 s.2.2:=by
 refine aY ?_
 rintro⟨l2,LG,v⟩ z_ h hI hE;simp only[u5,ay,an,ao]at h;rcases h with⟨h2,x0,h3,⟨h4,h⟩|⟨h4,x1,h5,x2,h6,h7,⟨h8,h⟩|⟨h8,h⟩⟩⟩|⟨h2,h⟩
 ·exact gn 18 [1,5,6,16,17,18] [0] [bT h2,cE aA.enc h3,hH (.draw 6 []),rp 6 hP,oO (zL 0),oO (lT 0 2),oO (zL 1),oO (lT 1 2),oI ((aS x0.x0 0)=false),oR True ((aS x0.x0 0)=false),oI (((aS x0.x0 0)||(aS x0.x1 0))=false),nL aq l2,rp 5 hP,rp 2 (oI (((aS x0.x0 0)||(aS x0.x1 0))=false)),oR True (((aS x0.x0 0)||(aS x0.x1 0))=false),oI ((((aS x0.x0 0)||(aS x0.x1 0))||(bP x0.x0 (aB l2)))=false),nL aq l2,hP,hP,rp 2 (oI ((((aS x0.x0 0)||(aS x0.x1 0))||(bP x0.x0 (aB l2)))=false)),oR True ((((aS x0.x0 0)||(aS x0.x1 0))||(bP x0.x0 (aB l2)))=false),bT h4] (hI h)
 ·exact gn 27 [1,5,6,16,17,18] [0] [bT h2,cE aA.enc h3,hH (.draw 6 []),rp 6 hP,oO (zL 0),oO (lT 0 2),oO (zL 1),oO (lT 1 2),oI ((aS x0.x0 0)=false),oR True ((aS x0.x0 0)=false),oI (((aS x0.x0 0)||(aS x0.x1 0))=false),nL aq l2,rp 5 hP,rp 2 (oI (((aS x0.x0 0)||(aS x0.x1 0))=false)),oR True (((aS x0.x0 0)||(aS x0.x1 0))=false),oI ((((aS x0.x0 0)||(aS x0.x1 0))||(bP x0.x0 (aB l2)))=false),nL aq l2,hP,hP,rp 2 (oI ((((aS x0.x0 0)||(aS x0.x1 0))||(bP x0.x0 (aB l2)))=false)),oR True ((((aS x0.x0 0)||(aS x0.x1 0))||(bP x0.x0 (aB l2)))=false),bF h4,hH (.draw 13 []),oO (eW h5),oO (eV aq h5),rE aq h5,oO (eW h6),oO (eV aq h6),rE aq h6,oO (h7),oO (eW h5),oO (eV aq h5),rE aq h5,bT h8,oO (eW h5),oO (eV aq h5),rE aq h5,hH (.rows ((fi l2 x0.x1 (Pn .i64 (Pn .i64 x1 x2) (Kn .i64 1 x0.x0))).map aq)),hH (.re 0 ((fi l2 x0.x1 (Pn .i64 (Pn .i64 x1 x2) (Kn .i64 1 x0.x0))).map aq).length),oO (C7 aq l2 x0.x1 (Pn .i64 (Pn .i64 x1 x2) (Kn .i64 1 x0.x0))),rp 5 (oO (oV aq l2 x0.x1 (Pn .i64 (Pn .i64 x1 x2) (Kn .i64 1 x0.x0))))] (hI h)
 ·exact gn 25 [1,5,6,16,17,18] [0] [bT h2,cE aA.enc h3,hH (.draw 6 []),rp 6 hP,oO (zL 0),oO (lT 0 2),oO (zL 1),oO (lT 1 2),oI ((aS x0.x0 0)=false),oR True ((aS x0.x0 0)=false),oI (((aS x0.x0 0)||(aS x0.x1 0))=false),nL aq l2,rp 5 hP,rp 2 (oI (((aS x0.x0 0)||(aS x0.x1 0))=false)),oR True (((aS x0.x0 0)||(aS x0.x1 0))=false),oI ((((aS x0.x0 0)||(aS x0.x1 0))||(bP x0.x0 (aB l2)))=false),nL aq l2,hP,hP,rp 2 (oI ((((aS x0.x0 0)||(aS x0.x1 0))||(bP x0.x0 (aB l2)))=false)),oR True ((((aS x0.x0 0)||(aS x0.x1 0))||(bP x0.x0 (aB l2)))=false),bF h4,hH (.draw 13 []),oO (eW h5),oO (eV aq h5),rE aq h5,oO (eW h6),oO (eV aq h6),rE aq h6,oO (h7),oO (eW h5),oO (eV aq h5),rE aq h5,bF h8] (hI h)
 ·exact gn 5 [1,5,6] [0] [bF h2] (hE h)
theorem Fo(Γ:a5)(rv:List Int){before l}:∀⦃s:List Int×Bool⦄ ⦃e:List Int⦄,aF (fun s=>u0 before l s.1 s.2) s=some e→Fm Γ rv before l e→GU Γ rv before l s.1 s.2:=by
 refine aY ?_
 rintro⟨l1,more⟩ z_ h hI hE;simp only[u0,ay,an,ao]at h;rcases h with⟨h1,⟨l3,Ro⟩,h9,h⟩|⟨h1,h⟩
 ·refine gn 12 [1,5,6,16,17,18] [0] [bT h1,nL aA.enc before] (Fq Γ rv h9 ?_);exact gn 2 [1,5,6] [0] [] (hI h)
 ·exact gn 5 [5] [0] [bF h1] (hE h)
theorem IU{aj before}{rv:List Int}(h:Av aj before=some rv):dd prog 136 [.one (lI aj),.one (lL 2 before aA.enc)] [] (one (lL 1 rv aq)) []:=by
 refine aP func136 fun Γ=>?_
 simp only[Av,ay,an,ao]at h;obtain⟨l,h0,l4,dq,h⟩:=h;refine gn 9 [1,5,6] [0] [hH (.cells [lI 0]),hH (.rows (l.map aq)),oO (Xa h0),oO (Yk h0),oO (Xb h0),oO (Xc h0),oO (Xd aq h0)] (Fo Γ rv dq ?_);obtain rfl:=oK h;exact gr 2 [] [hW 4,hH (.iY 0),rp 3 (eL l4 aq)]
def gj(Γ:a5)(rv:Int)(cf:Cf):Prop:=Go prog f107 [] Γ (one (lI rv)) [] cf
def Fh(Γ:a5)(rv:Int)(x0:ae)(bN:Int)(r:List Int)(v:Int):Prop:=gj Γ rv ⟨[.c 244,.l 244,.b 0,.c 31],⟨102,[vI 1 bN,vP 2 0 6,vL 5 1 r aq,vL 21 1 r aq,vI 22 (aB r),vI 23 v],[oX 6 30 (ae.enc x0)]⟩⟩
def DW(Γ:a5)(rv:Int)(x0:ae)(bN:Int)(r:List Int):Prop:=gj Γ rv ⟨[.c 31],⟨102,[vI 1 bN,vP 2 0 6,vL 5 1 r aq],[oX 6 30 (ae.enc x0)]⟩⟩
def Fi(Γ:a5)(rv:Int)(x0:ae)(bN:Int)(r:List Int)(v1:Int):Prop:=gj Γ rv ⟨[.c 500,.l 500,.b 2,.c 63],⟨102,[vI 1 bN,vP 2 0 6,vL 5 1 r aq,vL 33 1 r aq,vI 34 (aB r),vI 35 v1],[oX 6 30 (ae.enc x0)]⟩⟩
def DY(Γ:a5)(rv:Int)(x0:ae)(bN:Int)(r:List Int):Prop:=gj Γ rv ⟨[.c 63],⟨102,[vI 1 bN,vP 2 0 6,vL 5 1 r aq],[oX 6 30 (ae.enc x0)]⟩⟩
def Fj(Γ:a5)(rv:Int)(x0:ae)(bN:Int)(r:List Int)(v2:Int):Prop:=gj Γ rv ⟨[.c 1012,.l 1012,.b 4,.c 127],⟨102,[vI 1 bN,vP 2 0 6,vL 5 1 r aq,vL 47 2 x0.cb aA.enc,vI 48 (aB x0.cb),vI 49 v2],[oX 6 30 (ae.enc x0)]⟩⟩
def D0(Γ:a5)(rv:Int)(x0:ae)(bN:Int)(r:List Int):Prop:=gj Γ rv ⟨[.c 127],⟨102,[vI 1 bN,vP 2 0 6,vL 5 1 r aq],[oX 6 30 (ae.enc x0)]⟩⟩
def Fk(Γ:a5)(rv:Int)(x0:ae)(bN:Int)(r:List Int)(v3:Int):Prop:=gj Γ rv ⟨[.c 2036,.l 2036,.b 6,.c 255],⟨102,[vI 1 bN,vP 2 0 6,vL 5 1 r aq,vL 65 2 x0.before aA.enc,vI 66 (aB x0.before),vI 67 v3],[oX 6 30 (ae.enc x0)]⟩⟩
def D2(Γ:a5)(rv:Int)(x0:ae)(bN:Int)(r:List Int):Prop:=gj Γ rv ⟨[.c 255],⟨102,[vP 2 0 6,vL 5 1 r aq],[oX 6 30 (ae.enc x0)]⟩⟩
def Fl(Γ:a5)(rv:Int)(r r5:List Int)(v4:Int):Prop:=gj Γ rv ⟨[.c 8180,.l 8180,.b 8,.c 1023],⟨102,[vL 14 1 r5 aq,vL 89 1 r aq,vI 90 (aB r),vI 91 v4],[]⟩⟩
def D4(Γ:a5)(rv:Int)(r r5:List Int):Prop:=gj Γ rv ⟨[.c 1023],⟨102,[],[]⟩⟩
theorem DX(Γ:a5)(rv:Int){x0 bN r}:∀⦃s:Int⦄ ⦃e:(Unit)⊕(Int)⦄,aF (fun s=>tU x0 bN r s) s=some e→jB e (fun e=>DW Γ rv x0 bN r) (fun e=>e=rv)→Fh Γ rv x0 bN r s:=by
 refine aY ?_
 intro v z_ h hI hE;simp only[tU,ay,an,ao]at h;rcases h with⟨h2,x1,h3,⟨h4,h⟩|⟨h4,h⟩⟩|⟨h2,h⟩
 ·obtain rfl:=(hE h:_=rv);exact gr 14 [] [bT h2,cE aq h3,nL ab.enc x0.aj,bT h4]
 ·exact gn 16 [1,2,5,21,22,23] [0] [bT h2,cE aq h3,nL ab.enc x0.aj,bF h4] (hI h)
 ·exact gn 5 [1,2,5] [0] [bF h2] (hE h)
theorem DZ(Γ:a5)(rv:Int){x0 bN r}:∀⦃s:Int⦄ ⦃e:(Unit)⊕(Int)⦄,aF (fun s=>tV x0 bN r s) s=some e→jB e (fun e=>DY Γ rv x0 bN r) (fun e=>e=rv)→Fi Γ rv x0 bN r s:=by
 refine aY ?_
 intro v1 z_ h hI hE;simp only[tV,ay,an,ao]at h;rcases h with⟨h6,x2,h7,x3,h8,⟨h9,h⟩|⟨h9,h⟩⟩|⟨h6,h⟩
 ·obtain rfl:=(hE h:_=rv);exact gr 14 [] [bT h6,cE aq h7,cE ab.enc h8,bT h9]
 ·exact gn 16 [1,2,5,33,34,35] [0] [bT h6,cE aq h7,cE ab.enc h8,bF h9] (hI h)
 ·exact gn 5 [1,2,5] [0] [bF h6] (hE h)
theorem D1(Γ:a5)(rv:Int){x0 bN r}:∀⦃s:Int⦄ ⦃e:(Unit)⊕(Int)⦄,aF (fun s=>tW x0 bN r s) s=some e→jB e (fun e=>D0 Γ rv x0 bN r) (fun e=>e=rv)→Fj Γ rv x0 bN r s:=by
 refine aY ?_
 intro v2 z_ h hI hE;simp only[tW,ay,an,ao]at h;rcases h with⟨fM,x4,fN,r1,gC,⟨iH,r2,kT,⟨mo,h⟩|⟨mo,h⟩⟩|⟨iH,h⟩⟩|⟨fM,h⟩
 ·obtain rfl:=(hE h:_=rv);exact gr 14 [] [bT fM,cE aA.enc fN,oO (zL 0),oO (lT 0 2),cC (gP gC),rp 2 (bT iH),oO (zL 1),oO (lT 1 2),rp 2 (bT iH),cC (gP kT),bT iH,bT mo]
 ·exact gn 16 [1,2,5,47,48,49] [0] [bT fM,cE aA.enc fN,oO (zL 0),oO (lT 0 2),cC (gP gC),rp 2 (bT iH),oO (zL 1),oO (lT 1 2),rp 2 (bT iH),cC (gP kT),bT iH,bF mo] (hI h)
 ·exact gn 16 [1,2,5,47,48,49] [0] [bT fM,cE aA.enc fN,oO (zL 0),oO (lT 0 2),cC (gP gC),rp 5 (bF iH),fF] (hI h)
 ·exact gn 5 [1,2,5] [0] [bF fM] (hE h)
theorem D3(Γ:a5)(rv:Int){x0 bN r}:∀⦃s:Int⦄ ⦃e:(Unit)⊕(Int)⦄,aF (fun s=>tX x0 bN r s) s=some e→jB e (fun e=>D2 Γ rv x0 bN r) (fun e=>e=rv)→Fk Γ rv x0 bN r s:=by
 refine aY ?_
 intro v3 z_ h hI hE;simp only[tX,ay,an,ao]at h;rcases h with⟨p8,x5,rk,r3,rl,⟨xI,r4,AL,⟨Hu,h⟩|⟨Hu,h⟩⟩|⟨xI,h⟩⟩|⟨p8,h⟩
 ·exact gn 16 [1,2,5,65,66,67] [0] [bT p8,cE aA.enc rk,oO (zL 1),oO (lT 1 2),cC (gP rl),rp 2 (bT xI),oO (zL 0),oO (lT 0 2),rp 2 (bT xI),cC (gP AL),rp 2 (bT xI),nF Hu] (hI h)
 ·obtain rfl:=(hE h:_=rv);exact gr 14 [] [bT p8,cE aA.enc rk,oO (zL 1),oO (lT 1 2),cC (gP rl),rp 2 (bT xI),oO (zL 0),oO (lT 0 2),rp 2 (bT xI),cC (gP AL),rp 2 (bT xI),nT Hu]
 ·exact gn 16 [1,2,5,65,66,67] [0] [bT p8,cE aA.enc rk,oO (zL 1),oO (lT 1 2),cC (gP rl),rp 6 (bF xI),fF] (hI h)
 ·exact gn 5 [2,5] [0] [bF p8] (hE h)
theorem D5(Γ:a5)(rv:Int){r r5}:∀⦃s:Int⦄ ⦃e:(Unit)⊕(Int)⦄,aF (fun s=>tY r r5 s) s=some e→jB e (fun e=>D4 Γ rv r r5) (fun e=>e=rv)→Fl Γ rv r r5 s:=by
 refine aY ?_
 intro v4 z_ h hI hE;simp only[tY,ay,an,ao]at h;rcases h with⟨A5,x6,Lq,x7,KE,r6,N_,⟨Oa,h⟩|⟨Oa,h⟩⟩|⟨A5,h⟩
 ·obtain rfl:=(hE h:_=rv);exact gr 14 [] [bT A5,cE aq Lq,cE aq KE,cC (gP N_),bT Oa]
 ·exact gn 16 [14,89,90,91] [] [bT A5,cE aq Lq,cE aq KE,cC (gP N_),bF Oa] (hI h)
 ·exact gn 5 [] [] [bF A5] (hE h)
theorem zp{x0 bN}{rv:Int}(h:yI x0 bN=some rv):dd prog 107 [.agg (ae.enc x0),.one (lI bN)] [] (one (lI rv)) []:=by
 refine aP func107 fun Γ=>?_
 simp only[yI,ay,an,ao]at h;rcases h with⟨h0,h⟩|⟨h0,r,h1,e0,h5,h⟩
 ·obtain rfl:=oK h;exact gr 8 [] [bT h0]
 ·refine gn 14 [1,2,5,21,22,23] [0] [bF h0,cC (va h1),nL aq r] (DX Γ rv h5 ?_);rcases e0 with e0|zj
  ·simp only[iB,ay,an,ao]at h;obtain⟨e1,dq,h⟩:=h;refine gn 5 [1,2,5,33,34,35] [0] [nL aq r] (DZ Γ rv dq ?_);rcases e1 with e1|M3
   ·simp only[iB,ay,an,ao]at h;obtain⟨e2,oN,h⟩:=h;refine gn 5 [1,2,5,47,48,49] [0] [nL aA.enc x0.cb] (D1 Γ rv oN ?_);rcases e2 with e2|r9
    ·simp only[iB,ay,an,ao]at h;obtain⟨e3,B7,h⟩:=h;refine gn 5 [1,2,5,65,66,67] [0] [nL aA.enc x0.before] (D3 Γ rv B7 ?_);rcases e3 with e3|r8
     ·simp only[iB,ay,an,ao]at h;obtain⟨r5,EN,e4,KT,h⟩:=h;refine gn 7 [14,89,90,91] [] [nL ab.enc x0.aj,cC (IU EN),nL aq r] (D5 Γ rv KT ?_);rcases e4 with e4|r7
      ·obtain rfl:=oK h;exact gr 2 [] []
      ·exact oK h
     ·exact oK h
    ·exact oK h
   ·exact oK h
  ·exact oK h
theorem mX{l ct}{rv:Bool}(h:xY l ct=some rv):dd prog 137 [.one (lL 16 l ab.enc),.one (lI ct)] [] (one (.bool rv)) []:=by
 refine aP func137 fun Γ=>?_
 simp only[xY,ay,an,ao]at h;cases h;exact gr 4 [] [hP,hP,hP,oI ((bP ct 0)=true),nL ab.enc l,hP,hP,rp 2 (oI ((bP ct 0)=true)),oR True ((bP ct 0)=true)]
def J9(Γ:a5)(rv:List af)(cf:Cf):Prop:=Go prog f109 [] Γ (one (lL 2 rv af.enc)) [] cf
theorem wV(Γ:a5)(rv:List af){l ct l1}(h:qp l ct l1=some rv):J9 Γ rv ⟨[.c 31],⟨35,[vL 0 16 l ab.enc,vI 1 ct,vO 5 0 2 l1 af.enc],[oS 2 138 l1 af.enc]⟩⟩:=by
 simp only[qp,ay,an,ao]at h;rcases h with⟨x1,h5,⟨h6,h7,h⟩|⟨h6,h⟩⟩
 ·cases h;exact gr 7 [] [cE ab.enc h5,bT h6,oO (Eq.refl ([(af.mk ct true)].map af.enc).length),aO af.enc h7,hW 5,hH (.iY 2),rp 4 (oO (Eq.refl ((l1++[(af.mk ct true)]).map af.enc).length))]
 ·obtain rfl:=oK h;exact gr 7 [] [cE ab.enc h5,bF h6,hW 5,hH (.iY 0),rp 3 (eL l1 af.enc)]
theorem lU{l ct}{rv:List af}(h:ny l ct=some rv):dd prog 109 [.one (lL 16 l ab.enc),.one (lI ct)] [] (one (lL 2 rv af.enc)) []:=by
 refine aP func109 fun Γ=>?_
 simp only[ny,ay,an,ao]at h;rcases h with⟨r,h0,⟨h1,x0,h2,⟨h3,h4,h⟩|⟨h3,h⟩⟩|⟨h1,h⟩⟩
 ·exact gn 14 [0,1,5] [1] [cC (mX h0),nF h1,cE ab.enc h2,bT h3,oO (Eq.refl ([(af.mk ct false)].map af.enc).length),aN (l:=([(af.mk ct false)]:List af)) af.enc h4] (wV Γ rv h)
 ·exact gn 14 [0,1,5] [0] [cC (mX h0),nF h1,cE ab.enc h2,bF h3,hW 1,hH (.kN 5 2 138)] (wV Γ rv h)
 ·cases h;exact gr 10 [] [cC (mX h0),nT h1,hW 3,hH (.E3 4 0 2)]
def jR(Γ:a5)(rv:Int)(cf:Cf):Prop:=Go prog f231 [] Γ (one (lI rv)) [] cf
def om(Γ:a5)(rv:Int)(s0:List af)(v:af)(v1:Int):Prop:=jR Γ rv ⟨[.c 52,.l 52,.b 0,.c 7],⟨19,[vL 0 2 s0 af.enc,vP 3 0 2,vI 7 (aB s0),vI 8 v1],[oX 2 138 (af.enc v)]⟩⟩
def n7(Γ:a5)(rv:Int)(s0:List af)(v:af):Prop:=jR Γ rv ⟨[.c 7],⟨19,[],[]⟩⟩
theorem n8(Γ:a5)(rv:Int){s0 v}:∀⦃s:Int⦄ ⦃e:(Unit)⊕(Int)⦄,aF (fun s=>gg s0 v s) s=some e→jB e (fun e=>n7 Γ rv s0 v) (fun e=>e=rv)→om Γ rv s0 v s:=by
 refine aY ?_
 intro v1 z_ h hI hE;simp only[gg,ay,an,ao]at h;rcases h with⟨h0,x0,h1,⟨h2,h⟩|⟨h2,h⟩⟩|⟨h0,h⟩
 ·obtain rfl:=(hE h:_=rv);exact gr 14 [] [bT h0,hH (.draw 6 []),cE af.enc h1,bT h2]
 ·exact gn 16 [0,3,7,8] [0] [bT h0,hH (.draw 6 []),cE af.enc h1,bF h2] (hI h)
 ·exact gn 5 [] [] [bF h0] (hE h)
theorem jK{s0 v}{rv:Int}(h:eT s0 v=some rv):dd prog 231 [.one (lL 2 s0 af.enc),.agg (af.enc v)] [] (one (lI rv)) []:=by
 refine aP func231 fun Γ=>?_
 simp only[eT,ay,an,ao]at h;obtain⟨e0,h3,h⟩:=h;refine gn 7 [0,3,7,8] [0] [nL af.enc s0] (n8 Γ rv h3 ?_);rcases e0 with e0|r
 ·cases h;exact gr 2 [] []
 ·exact oK h
theorem eS{l v}{rv:Int}(h:lD l v=some rv):dd prog 204 [.one (lL 2 l af.enc),.agg (af.enc v)] [] (one (lI rv)) []:=by
 refine aP func204 fun Γ=>?_
 simp only[lD,ay,an,ao]at h;obtain⟨r,h0,h⟩:=h;obtain rfl:=oK h;exact gr 4 [] [cC (jK h0)]
def zu(Γ:a5)(rv:Bool)(cf:Cf):Prop:=Go prog f215 [] Γ (one (.bool rv)) [] cf
def Ef(Γ:a5)(rv:Bool)(l:List af)(v:Int):Prop:=zu Γ rv ⟨[.c 52,.l 52,.b 0,.c 7],⟨19,[vL 0 2 l af.enc,vL 5 2 l af.enc,vI 6 (aB l),vI 7 v],[]⟩⟩
def C5(Γ:a5)(rv:Bool)(l:List af):Prop:=zu Γ rv ⟨[.c 7],⟨19,[],[]⟩⟩
theorem C6(Γ:a5)(rv:Bool){l}:∀⦃s:Int⦄ ⦃e:(Unit)⊕(Bool)⦄,aF (fun s=>sW l s) s=some e→jB e (fun e=>C5 Γ rv l) (fun e=>e=rv)→Ef Γ rv l s:=by
 refine aY ?_
 intro v z_ h hI hE;simp only[sW,ay,an,ao]at h;rcases h with⟨h0,x0,h1,l1,h2,r,h3,⟨h4,h⟩|⟨h4,h⟩⟩|⟨h0,h⟩
 ·obtain rfl:=(hE h:_=rv);exact gr 14 [] [bT h0,cE af.enc h1,hH (.draw 6 []),hH (.rows (l1.map af.enc)),oO (Ha h2),oO (Hb h2),oO (uN af.enc h2),oO (Int.le_refl v),oO (uN af.enc h2),oO (Hc af.enc h2),cC (eS h3),bT h4]
 ·exact gn 16 [0,5,6,7] [] [bT h0,cE af.enc h1,hH (.draw 6 []),hH (.rows (l1.map af.enc)),oO (Ha h2),oO (Hb h2),oO (uN af.enc h2),oO (Int.le_refl v),oO (uN af.enc h2),oO (Hc af.enc h2),cC (eS h3),bF h4] (hI h)
 ·exact gn 5 [] [] [bF h0] (hE h)
theorem sX{l}{rv:Bool}(h:xb l=some rv):dd prog 215 [.one (lL 2 l af.enc)] [] (one (.bool rv)) []:=by
 refine aP func215 fun Γ=>?_
 simp only[xb,ay,an,ao]at h;obtain⟨e0,h5,h⟩:=h;refine gn 7 [0,5,6,7] [] [nL af.enc l] (C6 Γ rv h5 ?_);rcases e0 with e0|r1
 ·obtain rfl:=oK h;exact gr 2 [] []
 ·exact oK h
theorem iX{s0 v}{rv:Bool}(h:f_ s0 v=some rv):dd prog 241 [.one (lL 2 s0 af.enc),.agg (af.enc v)] [] (one (.bool rv)) []:=by
 refine aP func241 fun Γ=>?_
 simp only[f_,ay,an,ao]at h;obtain⟨r,h0,h⟩:=h;cases h;exact gr 4 [] [cC (jK h0)]
def oG(Γ:a5)(rv:Bool)(cf:Cf):Prop:=Go prog f216 [] Γ (one (.bool rv)) [] cf
def CX(Γ:a5)(rv:Bool)(x0:ae)(l:List af)(v:Int)(r:List af)(a3 v1:Int):Prop:=oG Γ rv ⟨[.c 108156,.l 108156,.b 2,.b 1,.c 423,.l 52,.b 0,.c 7],⟨42,[vL 1 2 l af.enc,vP 2 0 6,vI 8 a3,vL 12 2 l af.enc,vI 13 (aB l),vI 14 v,vL 27 2 r af.enc,vI 28 (aB r),vI 29 v1],[oX 6 30 (ae.enc x0)]⟩⟩
def BI(Γ:a5)(rv:Bool)(x0:ae)(l:List af)(v:Int)(r:List af):Prop:=oG Γ rv ⟨[.b 1,.c 423,.l 52,.b 0,.c 7],⟨42,[vL 1 2 l af.enc,vP 2 0 6,vL 12 2 l af.enc,vI 13 (aB l),vI 14 v],[oX 6 30 (ae.enc x0)]⟩⟩
def CW(Γ:a5)(rv:Bool)(x0:ae)(l:List af)(v:Int):Prop:=oG Γ rv ⟨[.c 52,.l 52,.b 0,.c 7],⟨42,[vL 1 2 l af.enc,vP 2 0 6,vL 12 2 l af.enc,vI 13 (aB l),vI 14 v],[oX 6 30 (ae.enc x0)]⟩⟩
def BG(Γ:a5)(rv:Bool)(x0:ae)(l:List af):Prop:=oG Γ rv ⟨[.c 7],⟨42,[],[]⟩⟩
theorem BJ(Γ:a5)(rv:Bool){x0 l v r}:∀⦃s:Int×Int⦄ ⦃e:(Unit)⊕(Bool)⦄,aF (fun s=>qI x0 l v r s.1 s.2) s=some e→jB e (fun e=>BI Γ rv x0 l v r) (fun e=>e=rv)→CX Γ rv x0 l v r s.1 s.2:=by
 refine aY ?_
 rintro⟨a3,v1⟩ z_ h hI hE;simp only[qI,ay,an,ao]at h;rcases h with⟨h5,x2,h6,r2,h7,⟨h8,h⟩|⟨h8,h⟩⟩|⟨h5,h⟩
 ·obtain rfl:=(hE h:_=rv);exact gr 17 [] [bT h5,cE af.enc h6,cC (eS h7),bT h8]
 ·exact gn 20 [1,2,8,12,13,14,27,28,29] [0] [bT h5,cE af.enc h6,cC (eS h7),bF h8] (hI h)
 ·exact gn 5 [1,2,12,13,14] [0] [bF h5] (hE h)
theorem BH(Γ:a5)(rv:Bool){x0 l}:∀⦃s:Int⦄ ⦃e:(Unit)⊕(Bool)⦄,aF (fun s=>qH x0 l s) s=some e→jB e (fun e=>BG Γ rv x0 l) (fun e=>e=rv)→CW Γ rv x0 l s:=by
 refine aY ?_
 intro v z_ h hI hE;simp only[qH,ay,an,ao]at h;rcases h with⟨h0,x1,h1,r,h2,r1,h3,⟨h4,e0,h9,h⟩|⟨h4,h⟩⟩|⟨h0,h⟩
 ·refine gn 22 [1,2,8,12,13,14,27,28,29] [0] [bT h0,cE af.enc h1,cC (lU h2),cC (iX h3),nF h4,nL af.enc r] (BJ Γ rv h9 ?_);rcases e0 with e0|r3
  ·exact gn 3 [1,2,12,13,14] [0] [] (hI h)
  ·exact(hE h:_=rv)
 ·obtain rfl:=(hE h:_=rv);exact gr 17 [] [bT h0,cE af.enc h1,cC (lU h2),cC (iX h3),nT h4]
 ·exact gn 5 [] [] [bF h0] (hE h)
theorem w_{x0 l}{rv:Bool}(h:u9 x0 l=some rv):dd prog 216 [.agg (ae.enc x0),.one (lL 2 l af.enc)] [] (one (.bool rv)) []:=by
 refine aP func216 fun Γ=>?_
 simp only[u9,ay,an,ao]at h;obtain⟨e1,dq,h⟩:=h;refine gn 7 [1,2,12,13,14] [0] [nL af.enc l] (BH Γ rv dq ?_);rcases e1 with e1|r4
 ·obtain rfl:=oK h;exact gr 2 [] []
 ·exact oK h
theorem yg{v c}{rv:Bool}(h:w9 v c=some rv):dd prog 242 [.agg (af.enc v),.one (.ip [lI c] 0)] [] (one (.bool rv)) []:=by
 refine aP func242 fun Γ=>?_
 simp only[w9,ay,an,ao]at h;cases h;exact gr 4 [] []
def gQ(Γ:a5)(rv:Int)(cf:Cf):Prop:=Go prog f240 [] Γ (one (lI rv)) [] cf
def lJ(Γ:a5)(rv:Int)(s0:List af)(c v:Int):Prop:=gQ Γ rv ⟨[.c 52,.l 52,.b 0,.c 7],⟨19,[vL 0 2 s0 af.enc,(1,one (.fn (.func 242) [.ip [lI c] 0])),vI 7 (aB s0),vI 8 v],[]⟩⟩
def lf(Γ:a5)(rv:Int)(s0:List af)(c:Int):Prop:=gQ Γ rv ⟨[.c 7],⟨19,[],[]⟩⟩
theorem lg(Γ:a5)(rv:Int){s0 c}:∀⦃s:Int⦄ ⦃e:(Unit)⊕(Int)⦄,aF (fun s=>eo s0 c s) s=some e→jB e (fun e=>lf Γ rv s0 c) (fun e=>e=rv)→lJ Γ rv s0 c s:=by
 refine aY ?_
 intro v z_ h hI hE;simp only[eo,ay,an,ao]at h;rcases h with⟨h0,x0,h1,r,h2,⟨h3,h⟩|⟨h3,h⟩⟩|⟨h0,h⟩
 ·obtain rfl:=(hE h:_=rv);exact gr 14 [] [bT h0,cE af.enc h1,cC (yg h2),bT h3]
 ·exact gn 16 [0,1,7,8] [] [bT h0,cE af.enc h1,cC (yg h2),bF h3] (hI h)
 ·exact gn 5 [] [] [bF h0] (hE h)
theorem lQ{s0 c}{rv:Int}(h:eM s0 c=some rv):dd prog 240 [.one (lL 2 s0 af.enc),.one (.fn (.func 242) [.ip [lI c] 0])] [] (one (lI rv)) []:=by
 refine aP func240 fun Γ=>?_
 simp only[eM,ay,an,ao]at h;obtain⟨e0,h4,h⟩:=h;refine gn 7 [0,1,7,8] [] [nL af.enc s0] (lg Γ rv h4 ?_);rcases e0 with e0|r1
 ·cases h;exact gr 2 [] []
 ·exact oK h
theorem k9{s0 c}{rv:Bool}(h:eh s0 c=some rv):dd prog 212 [.one (lL 2 s0 af.enc),.one (.fn (.func 242) [.ip [lI c] 0])] [] (one (.bool rv)) []:=by
 refine aP func212 fun Γ=>?_
 simp only[eh,ay,an,ao]at h;obtain⟨r,h0,h⟩:=h;cases h;exact gr 4 [] [cC (lQ h0)]
theorem iW{l o}{rv:Bool}(h:py l o=some rv):dd prog 217 [.one (lL 2 l af.enc),.one (lI o)] [] (one (.bool rv)) []:=by
 refine aP func217 fun Γ=>?_
 simp only[py,ay,an,ao]at h;obtain⟨r,h0,h⟩:=h;obtain rfl:=oK h;exact gr 4 [] [cC (k9 h0)]
theorem uL{v c}{rv:Bool}(h:sS v c=some rv):dd prog 243 [.agg (af.enc v),.one (.ip [lI c] 0)] [] (one (.bool rv)) []:=by
 refine aP func243 fun Γ=>?_
 simp only[sS,ay,an,ao]at h;cases h;exact gr 4 [] []
def gf(Γ:a5)(rv:Int)(cf:Cf):Prop:=Go prog f240 [] Γ (one (lI rv)) [] cf
def kB(Γ:a5)(rv:Int)(s0:List af)(c v:Int):Prop:=gf Γ rv ⟨[.c 52,.l 52,.b 0,.c 7],⟨19,[vL 0 2 s0 af.enc,(1,one (.fn (.func 243) [.ip [lI c] 0])),vI 7 (aB s0),vI 8 v],[]⟩⟩
def jX(Γ:a5)(rv:Int)(s0:List af)(c:Int):Prop:=gf Γ rv ⟨[.c 7],⟨19,[],[]⟩⟩
theorem jY(Γ:a5)(rv:Int){s0 c}:∀⦃s:Int⦄ ⦃e:(Unit)⊕(Int)⦄,aF (fun s=>dQ s0 c s) s=some e→jB e (fun e=>jX Γ rv s0 c) (fun e=>e=rv)→kB Γ rv s0 c s:=by
 refine aY ?_
 intro v z_ h hI hE;simp only[dQ,ay,an,ao]at h;rcases h with⟨h0,x0,h1,r,h2,⟨h3,h⟩|⟨h3,h⟩⟩|⟨h0,h⟩
 ·obtain rfl:=(hE h:_=rv);exact gr 14 [] [bT h0,cE af.enc h1,cC (uL h2),bT h3]
 ·exact gn 16 [0,1,7,8] [] [bT h0,cE af.enc h1,cC (uL h2),bF h3] (hI h)
 ·exact gn 5 [] [] [bF h0] (hE h)
theorem dR{s0 c}{rv:Int}(h:en s0 c=some rv):dd prog 240 [.one (lL 2 s0 af.enc),.one (.fn (.func 243) [.ip [lI c] 0])] [] (one (lI rv)) []:=by
 refine aP func240 fun Γ=>?_
 simp only[en,ay,an,ao]at h;obtain⟨e0,h4,h⟩:=h;refine gn 7 [0,1,7,8] [] [nL af.enc s0] (jY Γ rv h4 ?_);rcases e0 with e0|r1
 ·cases h;exact gr 2 [] []
 ·exact oK h
theorem w8{l a b}{rv:Bool}(h:u7 l a b=some rv):dd prog 218 [.one (lL 2 l af.enc),.one (lI a),.one (lI b)] [] (one (.bool rv)) []:=by
 refine aP func218 fun Γ=>?_
 simp only[u7,ay,an,ao]at h;rcases h with⟨r,h0,⟨h1,h⟩|⟨h1,r1,h2,⟨h3,l1,h4,r2,h5,h⟩|⟨h3,h⟩⟩⟩
 ·obtain rfl:=oK h;exact gr 10 [] [cC (dR h0),bT h1]
 ·cases h;exact gr 11 [] [cC (dR h0),bF h1,cC (iW h2),rp 3 (bT h3),hH (.rows (l1.map af.enc)),oO (Ha h4),oO (Qau af.enc h4),rp 3 (oO (Int.le_refl ((l.map af.enc).length:Int))),oO (Qav af.enc h4),bT h3,bT h3,cC (iW h5),bT h3,bT h3]
 ·obtain rfl:=oK h;exact gr 11 [] [cC (dR h0),bF h1,cC (iW h2),rp 7 (bF h3)]
theorem vF{v c}{rv:Bool}(h:t_ v c=some rv):dd prog 213 [.agg (af.enc v),.one (.ip (ae.enc c) 0)] [] (one (.bool rv)) []:=by
 refine aP func213 fun Γ=>?_
 simp only[t_,ay,an,ao]at h;cases h;exact gr 4 [] [rp 5 hP,rp 3 (oI ((aS v.cR 0)=false)),nL ab.enc c.aj,hP,hP,rp 2 (oI ((aS v.cR 0)=false)),oR True ((aS v.cR 0)=false)]
def gl(Γ:a5)(rv:Int)(cf:Cf):Prop:=Go prog f240 [] Γ (one (lI rv)) [] cf
def kL(Γ:a5)(rv:Int)(s0:List af)(c:ae)(v:Int):Prop:=gl Γ rv ⟨[.c 52,.l 52,.b 0,.c 7],⟨19,[vL 0 2 s0 af.enc,(1,one (.fn (.func 213) [.ip (ae.enc c) 0])),vI 7 (aB s0),vI 8 v],[]⟩⟩
def ku(Γ:a5)(rv:Int)(s0:List af)(c:ae):Prop:=gl Γ rv ⟨[.c 7],⟨19,[],[]⟩⟩
theorem ky(Γ:a5)(rv:Int){s0 c}:∀⦃s:Int⦄ ⦃e:(Unit)⊕(Int)⦄,aF (fun s=>dX s0 c s) s=some e→jB e (fun e=>ku Γ rv s0 c) (fun e=>e=rv)→kL Γ rv s0 c s:=by
 refine aY ?_
 intro v z_ h hI hE;simp only[dX,ay,an,ao]at h;rcases h with⟨h0,x0,h1,r,h2,⟨h3,h⟩|⟨h3,h⟩⟩|⟨h0,h⟩
 ·obtain rfl:=(hE h:_=rv);exact gr 14 [] [bT h0,cE af.enc h1,cC (vF h2),bT h3]
 ·exact gn 16 [0,1,7,8] [] [bT h0,cE af.enc h1,cC (vF h2),bF h3] (hI h)
 ·exact gn 5 [] [] [bF h0] (hE h)
theorem lG{s0 c}{rv:Int}(h:eE s0 c=some rv):dd prog 240 [.one (lL 2 s0 af.enc),.one (.fn (.func 213) [.ip (ae.enc c) 0])] [] (one (lI rv)) []:=by
 refine aP func240 fun Γ=>?_
 simp only[eE,ay,an,ao]at h;obtain⟨e0,h4,h⟩:=h;refine gn 7 [0,1,7,8] [] [nL af.enc s0] (ky Γ rv h4 ?_);rcases e0 with e0|r1
 ·cases h;exact gr 2 [] []
 ·exact oK h
theorem bZ{s0 c}{rv:Bool}(h:dV s0 c=some rv):dd prog 212 [.one (lL 2 s0 af.enc),.one (.fn (.func 213) [.ip (ae.enc c) 0])] [] (one (.bool rv)) []:=by
 refine aP func212 fun Γ=>?_
 simp only[dV,ay,an,ao]at h;obtain⟨r,h0,h⟩:=h;cases h;exact gr 4 [] [cC (lG h0)]
theorem vG{v c}{rv:Bool}(h:ua v c=some rv):dd prog 214 [.agg (af.enc v),.one (.ip (ae.enc c) 0)] [] (one (.bool rv)) []:=by
 refine aP func214 fun Γ=>?_
 simp only[ua,ay,an,ao]at h;obtain⟨x0,h0,h⟩:=h;cases h;exact gr 4 [] [cE ab.enc h0]
def gm(Γ:a5)(rv:Int)(cf:Cf):Prop:=Go prog f240 [] Γ (one (lI rv)) [] cf
def kM(Γ:a5)(rv:Int)(s0:List af)(c:ae)(v:Int):Prop:=gm Γ rv ⟨[.c 52,.l 52,.b 0,.c 7],⟨19,[vL 0 2 s0 af.enc,(1,one (.fn (.func 214) [.ip (ae.enc c) 0])),vI 7 (aB s0),vI 8 v],[]⟩⟩
def kz(Γ:a5)(rv:Int)(s0:List af)(c:ae):Prop:=gm Γ rv ⟨[.c 7],⟨19,[],[]⟩⟩
theorem kA(Γ:a5)(rv:Int){s0 c}:∀⦃s:Int⦄ ⦃e:(Unit)⊕(Int)⦄,aF (fun s=>dY s0 c s) s=some e→jB e (fun e=>kz Γ rv s0 c) (fun e=>e=rv)→kM Γ rv s0 c s:=by
 refine aY ?_
 intro v z_ h hI hE;simp only[dY,ay,an,ao]at h;rcases h with⟨h0,x0,h1,r,h2,⟨h3,h⟩|⟨h3,h⟩⟩|⟨h0,h⟩
 ·obtain rfl:=(hE h:_=rv);exact gr 14 [] [bT h0,cE af.enc h1,cC (vG h2),bT h3]
 ·exact gn 16 [0,1,7,8] [] [bT h0,cE af.enc h1,cC (vG h2),bF h3] (hI h)
 ·exact gn 5 [] [] [bF h0] (hE h)
theorem lH{s0 c}{rv:Int}(h:eF s0 c=some rv):dd prog 240 [.one (lL 2 s0 af.enc),.one (.fn (.func 214) [.ip (ae.enc c) 0])] [] (one (lI rv)) []:=by
 refine aP func240 fun Γ=>?_
 simp only[eF,ay,an,ao]at h;obtain⟨e0,h4,h⟩:=h;refine gn 7 [0,1,7,8] [] [nL af.enc s0] (kA Γ rv h4 ?_);rcases e0 with e0|r1
 ·cases h;exact gr 2 [] []
 ·exact oK h
theorem cL{s0 c}{rv:Bool}(h:dW s0 c=some rv):dd prog 212 [.one (lL 2 s0 af.enc),.one (.fn (.func 214) [.ip (ae.enc c) 0])] [] (one (.bool rv)) []:=by
 refine aP func212 fun Γ=>?_
 simp only[dW,ay,an,ao]at h;obtain⟨r,h0,h⟩:=h;cases h;exact gr 4 [] [cC (lH h0)]
def px(Γ:a5)(rv:Int)(cf:Cf):Prop:=Go prog f196 [] Γ (one (lI rv)) [] cf
def D7(Γ:a5)(rv:Int)(x0:ae)(r:aX)(v:Int):Prop:=px Γ rv ⟨[.c 500,.l 500,.b 1,.c 63],⟨65,[vP 2 0 6,vL 5 2 r.a8 af.enc,vL 33 2 x0.cb aA.enc,vI 34 (aB x0.cb),vI 35 v],[oX 6 30 (ae.enc x0)]⟩⟩
def CQ(Γ:a5)(rv:Int)(x0:ae)(r:aX):Prop:=px Γ rv ⟨[.c 63],⟨65,[vP 2 0 6,vL 5 2 r.a8 af.enc],[oX 6 30 (ae.enc x0)]⟩⟩
def D8(Γ:a5)(rv:Int)(x0:ae)(r:aX)(v1:Int):Prop:=px Γ rv ⟨[.c 1012,.l 1012,.b 3,.c 127],⟨65,[vL 5 2 r.a8 af.enc,vL 51 2 x0.before aA.enc,vI 52 (aB x0.before),vI 53 v1],[]⟩⟩
def CT(Γ:a5)(rv:Int)(x0:ae)(r:aX):Prop:=px Γ rv ⟨[.c 127],⟨65,[],[]⟩⟩
theorem CS(Γ:a5)(rv:Int){x0 r}:∀⦃s:Int⦄ ⦃e:(Unit)⊕(Int)⦄,aF (fun s=>sQ x0 r s) s=some e→jB e (fun e=>CQ Γ rv x0 r) (fun e=>e=rv)→D7 Γ rv x0 r s:=by
 refine aY ?_
 intro v z_ h hI hE;simp only[sQ,ay,an,ao]at h;rcases h with⟨h9,x1,dq,r5,fM,⟨fN,r6,gC,⟨iH,h⟩|⟨iH,h⟩⟩|⟨fN,h⟩⟩|⟨h9,h⟩
 ·obtain rfl:=(hE h:_=rv);exact gr 14 [] [bT h9,cE aA.enc dq,oO (zL 0),oO (lT 0 2),cC (iW fM),rp 2 (bT fN),oO (zL 1),oO (lT 1 2),rp 2 (bT fN),cC (iW gC),bT fN,bT iH]
 ·exact gn 16 [2,5,33,34,35] [0] [bT h9,cE aA.enc dq,oO (zL 0),oO (lT 0 2),cC (iW fM),rp 2 (bT fN),oO (zL 1),oO (lT 1 2),rp 2 (bT fN),cC (iW gC),bT fN,bF iH] (hI h)
 ·exact gn 16 [2,5,33,34,35] [0] [bT h9,cE aA.enc dq,oO (zL 0),oO (lT 0 2),cC (iW fM),rp 5 (bF fN),fF] (hI h)
 ·exact gn 5 [2,5] [0] [bF h9] (hE h)
theorem CU(Γ:a5)(rv:Int){x0 r}:∀⦃s:Int⦄ ⦃e:(Unit)⊕(Int)⦄,aF (fun s=>sR x0 r s) s=some e→jB e (fun e=>CT Γ rv x0 r) (fun e=>e=rv)→D8 Γ rv x0 r s:=by
 refine aY ?_
 intro v1 z_ h hI hE;simp only[sR,ay,an,ao]at h;rcases h with⟨mo,x2,oN,r7,p8,⟨rk,h⟩|⟨rk,h⟩⟩|⟨mo,h⟩
 ·exact gn 16 [5,51,52,53] [] [bT mo,cE aA.enc oN,oO (zL 0),oO (lT 0 2),oO (zL 1),oO (lT 1 2),cC (w8 p8),nF rk] (hI h)
 ·obtain rfl:=(hE h:_=rv);exact gr 14 [] [bT mo,cE aA.enc oN,oO (zL 0),oO (lT 0 2),oO (zL 1),oO (lT 1 2),cC (w8 p8),nT rk]
 ·exact gn 5 [] [] [bF mo] (hE h)
theorem gO{x0 r}{rv:Int}(h:sP x0 r=some rv):dd prog 196 [.agg (ae.enc x0),.agg (aX.enc r)] [] (one (lI rv)) []:=by
 refine aP func196 fun Γ=>?_
 simp only[sP,ay,an,ao]at h;rcases h with⟨h0,h⟩|⟨h0,r1,h1,⟨h2,h⟩|⟨h2,r2,h3,⟨h4,h⟩|⟨h4,r3,h5,⟨h6,h⟩|⟨h6,r4,h7,⟨h8,e0,kT,h⟩|⟨h8,h⟩⟩⟩⟩⟩
 ·obtain rfl:=oK h;exact gr 10 [] [nL af.enc r.a8,rp 4 (bT h0),tT]
 ·obtain rfl:=oK h;exact gr 10 [] [nL af.enc r.a8,rp 3 (bF h0),cC (bZ h1),bF h0,bT h2]
 ·obtain rfl:=oK h;exact gr 16 [] [nL af.enc r.a8,rp 3 (bF h0),cC (bZ h1),bF h0,bF h2,cC (cL h3),bT h4]
 ·obtain rfl:=oK h;exact gr 19 [] [nL af.enc r.a8,rp 3 (bF h0),cC (bZ h1),bF h0,bF h2,cC (cL h3),bF h4,cC (sX h5),bT h6]
 ·refine gn 27 [2,5,33,34,35] [0] [nL af.enc r.a8,rp 3 (bF h0),cC (bZ h1),bF h0,bF h2,cC (cL h3),bF h4,cC (sX h5),bF h6,cC (w_ h7),nF h8,nL aA.enc x0.cb] (CS Γ rv kT ?_);rcases e0 with e0|r9
  ·simp only[iB,ay,an,ao]at h;obtain⟨e1,rl,h⟩:=h;refine gn 5 [5,51,52,53] [] [nL aA.enc x0.before] (CU Γ rv rl ?_);rcases e1 with e1|r8
   ·obtain rfl:=oK h;exact gr 2 [] []
   ·exact oK h
  ·exact oK h
 ·obtain rfl:=oK h;exact gr 22 [] [nL af.enc r.a8,rp 3 (bF h0),cC (bZ h1),bF h0,bF h2,cC (cL h3),bF h4,cC (sX h5),bF h6,cC (w_ h7),nT h8]
def GS(Γ:a5)(rv:Int)(cf:Cf):Prop:=Go prog f197 [] Γ (one (lI rv)) [] cf
def IT(Γ:a5)(rv:Int)(x0:ae)(r:aX)(v:Int):Prop:=GS Γ rv ⟨[.c 52,.l 52,.b 0,.c 7],⟨30,[vP 2 0 6,vP 3 1 4,vL 8 2 r.a8 af.enc,vI 9 (aB r.a8),vI 10 v],[oX 6 30 (ae.enc x0),oX 4 48 (aX.enc r)]⟩⟩
def HU(Γ:a5)(rv:Int)(x0:ae)(r:aX):Prop:=GS Γ rv ⟨[.c 7],⟨30,[],[]⟩⟩
theorem HV(Γ:a5)(rv:Int){x0 r}:∀⦃s:Int⦄ ⦃e:(Unit)⊕(Int)⦄,aF (fun s=>yH x0 r s) s=some e→jB e (fun e=>HU Γ rv x0 r) (fun e=>e=rv)→IT Γ rv x0 r s:=by
 refine aY ?_
 intro v z_ h hI hE;simp only[yH,ay,an,ao]at h;rcases h with⟨h0,x1,h1,x2,h2,x3,h3,r1,h4,⟨h5,h⟩|⟨h5,h⟩⟩|⟨h0,h⟩
 ·exact gn 16 [2,3,8,9,10] [0,1] [bT h0,cE af.enc h1,hH (.draw 15 []),cE ag.enc h2,cE ab.enc h3,cC (n_ h4),nF h5] (hI h)
 ·obtain rfl:=(hE h:_=rv);exact gr 14 [] [bT h0,cE af.enc h1,hH (.draw 15 []),cE ag.enc h2,cE ab.enc h3,cC (n_ h4),nT h5]
 ·exact gn 5 [] [] [bF h0] (hE h)
theorem ui{x0 r}{rv:Int}(h:Fg x0 r=some rv):dd prog 197 [.agg (ae.enc x0),.agg (aX.enc r)] [] (one (lI rv)) []:=by
 refine aP func197 fun Γ=>?_
 simp only[Fg,ay,an,ao]at h;obtain⟨e0,h6,h⟩:=h;refine gn 7 [2,3,8,9,10] [0,1] [nL af.enc r.a8] (HV Γ rv h6 ?_);rcases e0 with e0|r2
 ·obtain rfl:=oK h;exact gr 2 [] []
 ·exact oK h
def yf(Γ:a5)(rv:Int×Int)(cf:Cf):Prop:=Go prog f244 [] Γ (.pX [.one (lI rv.1),.one (lI rv.2)]) [] cf
def CV(Γ:a5)(rv:Int×Int)(r:aX)(bN v:Int):Prop:=yf Γ rv ⟨[.c 116,.l 116,.b 0,.c 15],⟨29,[vI 4 bN,vL 8 2 r.a8 af.enc,vI 9 (aB r.a8),vI 10 v],[]⟩⟩
def BE(Γ:a5)(rv:Int×Int)(r:aX)(GZ:Int):Prop:=yf Γ rv ⟨[.c 15],⟨29,[vI 4 GZ],[]⟩⟩
theorem BF(Γ:a5)(rv:Int×Int){r}:∀⦃s:Int×Int⦄ ⦃e:(Int)⊕(Int×Int)⦄,aF (fun s=>qG r s.1 s.2) s=some e→jB e (fun e=>BE Γ rv r e) (fun e=>e=rv)→CV Γ rv r s.1 s.2:=by
 refine aY ?_
 rintro⟨bN,v⟩ z_ h hI hE;simp only[qG,ay,an,ao]at h;rcases h with⟨h0,x0,h1,⟨h2,h⟩|⟨h2,h3,h⟩⟩|⟨h0,h⟩
 ·obtain rfl:=(hE h:_=rv);exact gr 15 [] [bT h0,cE af.enc h1,rp 4 hP,rp 2 (oI ((aS x0.cR 0)=false)),oR True ((aS x0.cR 0)=false),bT h2]
 ·exact gn 18 [4,8,9,10] [] [bT h0,cE af.enc h1,rp 4 hP,rp 2 (oI ((aS x0.cR 0)=false)),oR True ((aS x0.cR 0)=false),bF h2,oO (h3)] (hI h)
 ·exact gn 5 [4] [] [bF h0] (hE h)
theorem w7{r}{rv:Int×Int}(h:u6 r=some rv):dd prog 244 [.agg (aX.enc r)] [] (.pX [.one (lI rv.1),.one (lI rv.2)]) []:=by
 refine aP func244 fun Γ=>?_
 simp only[u6,ay,an,ao]at h;obtain⟨e0,h4,h⟩:=h;refine gn 9 [4,8,9,10] [] [nL af.enc r.a8] (BF Γ rv h4 ?_);rcases e0 with GZ|r1
 ·cases h;exact gr 2 [] []
 ·exact oK h
theorem K0{a b}{rv:Int}(h:ES a b=some rv):dd prog 262 [.one (lI a),.one (lI b)] [] (one (lI rv)) []:=by
 refine aP func262 fun Γ=>?_
 simp only[ES,ay,an,ao]at h;cases h;exact gr 4 [] []
def uA(Γ:a5)(rv:List Int×Int)(cf:Cf):Prop:=Go prog f261 [] Γ (.pX [.one (lL 1 rv.1 aq),.one (lI rv.2)]) [] cf
def y4(Γ:a5)(rv:List Int×Int)(a b l l1:List Int)(v:Int):Prop:=uA Γ rv ⟨[.c 244,.l 244,.b 0,.c 31],⟨38,[vL 0 1 a aq,vL 1 1 b aq,(2,one (.fn (.func 262) [])),vO 8 0 1 l1 aq,vI 19 (aB a),vI 20 v],[oS 1 3 l1 aq]⟩⟩
def yr(Γ:a5)(rv:List Int×Int)(a b l l2:List Int):Prop:=uA Γ rv ⟨[.c 31],⟨38,[vO 8 0 1 l2 aq],[oS 1 3 l2 aq]⟩⟩
theorem yt(Γ:a5)(rv:List Int×Int){a b l}:∀⦃s:List Int×Int⦄ ⦃e:List Int⦄,aF (fun s=>oe a b l s.1 s.2) s=some e→yr Γ rv a b l e→y4 Γ rv a b l s.1 s.2:=by
 refine aY ?_
 rintro⟨l1,v⟩ z_ h hI hE;simp only[oe,ay,an,ao]at h;rcases h with⟨h2,x0,h3,x1,h4,r,h5,x2,h6,h⟩|⟨h2,h⟩
 ·exact gn 13 [0,1,2,8,19,20] [0] [bT h2,hH (.draw 13 []),cE aq h3,cE aq h4,cC (K0 h5),oO (eW h6),oO (eV aq h6),rE aq h6,hH (.rows ((fi l1 v r).map aq)),hH (.re 0 ((fi l1 v r).map aq).length),oO (C7 aq l1 v r),rp 2 (oO (oV aq l1 v r))] (hI h)
 ·exact gn 5 [8] [0] [bF h2] (hE h)
theorem A8{a b}{rv:List Int×Int}(h:qy a b=some rv):dd prog 261 [.one (lL 1 a aq),.one (lL 1 b aq),.one (.fn (.func 262) [])] [] (.pX [.one (lL 1 rv.1 aq),.one (lI rv.2)]) []:=by
 refine aP func261 fun Γ=>?_
 simp only[qy,ay,an,ao]at h;rcases h with⟨h0,h⟩|⟨h0,l,h1,l2,h7,h⟩
 ·cases h;exact gr 8 [] [nL aq a,nL aq b,bT h0,hW 4,hH (.E3 6 0 1)]
 ·refine gn 14 [0,1,2,8,19,20] [0] [nL aq a,nL aq b,bF h0,nL aq a,hH (.cells [lI 0]),hH (.rows (l.map aq)),oO (Xa h1),oO (Yk h1),oO (Xb h1),oO (Xc h1),oO (Xd aq h1),nL aq a] (yt Γ rv h7 ?_);cases h;exact gr 2 [] [hW 5,hH (.iY 0),rp 3 (eL l2 aq)]
theorem zQ{a b}{rv:List Int×Int}(h:Dm a b=some rv):dd prog 246 [.one (lL 1 a aq),.one (lL 1 b aq)] [] (.pX [.one (lL 1 rv.1 aq),.one (lI rv.2)]) []:=by
 refine aP func246 fun Γ=>?_
 simp only[Dm,ay,an,ao]at h;obtain⟨r,h0,h⟩:=h;cases h;exact gr 4 [] [cC (A8 h0)]
def En(Γ:a5)(rv:List Int)(cf:Cf):Prop:=Go prog f245 [] Γ (one (lL 1 rv aq)) [] cf
def Hh(Γ:a5)(rv:List Int)(x0:ae)(l r sum:List Int)(v:Int):Prop:=En Γ rv ⟨[.c 116,.l 116,.b 0,.c 15],⟨40,[vP 3 0 6,vL 7 1 sum aq,vL 13 1 r aq,vI 14 (aB r),vI 15 v],[oX 6 30 (ae.enc x0)]⟩⟩
def FQ(Γ:a5)(rv:List Int)(x0:ae)(l r Nh:List Int):Prop:=En Γ rv ⟨[.c 15],⟨40,[vL 7 1 Nh aq],[]⟩⟩
theorem FR(Γ:a5)(rv:List Int){x0 l r}:∀⦃s:List Int×Int⦄ ⦃e:List Int⦄,aF (fun s=>wx x0 l r s.1 s.2) s=some e→FQ Γ rv x0 l r e→Hh Γ rv x0 l r s.1 s.2:=by
 refine aY ?_
 rintro⟨sum,v⟩ z_ h hI hE;simp only[wx,ay,an,ao]at h;rcases h with⟨h2,x1,h3,x2,h4,⟨h5,r1,h6,h⟩|⟨h5,h⟩⟩|⟨h2,h⟩
 ·exact gn 16 [3,7,13,14,15] [0] [bT h2,cE aq h3,cE ab.enc h4,bT h5,cE ab.enc h4,cC (zQ h6)] (hI h)
 ·exact gn 16 [3,7,13,14,15] [0] [bT h2,cE aq h3,cE ab.enc h4,bF h5] (hI h)
 ·exact gn 5 [7] [] [bF h2] (hE h)
theorem Jw{x0 bN bt}{rv:List Int}(h:BU x0 bN bt=some rv):dd prog 245 [.agg (ae.enc x0),.one (lI bN),.one (lI bt)] [] (one (lL 1 rv aq)) []:=by
 refine aP func245 fun Γ=>?_
 simp only[BU,ay,an,ao]at h;obtain⟨l,h0,r,h1,Nh,h7,h⟩:=h;refine gn 9 [3,7,13,14,15] [0] [hH (.cells [lI 0]),hH (.rows (l.map aq)),oO (Xa h0),oO (Yk h0),oO (Xb h0),oO (Xc h0),oO (Xd aq h0),cC (va h1),nL aq r,hW 3,hH (.iY 1),rp 2 (eL l aq)] (FR Γ rv h7 ?_);obtain rfl:=oK h;exact gr 2 [] []
theorem J0{a b}{rv:Int}(h:Cl a b=some rv):dd prog 263 [.one (lI a),.one (lI b)] [] (one (lI rv)) []:=by
 refine aP func263 fun Γ=>?_
 simp only[Cl,ay,an,ao]at h;cases h;exact gr 4 [] []
def tq(Γ:a5)(rv:List Int×Int)(cf:Cf):Prop:=Go prog f261 [] Γ (.pX [.one (lL 1 rv.1 aq),.one (lI rv.2)]) [] cf
def yq(Γ:a5)(rv:List Int×Int)(a b l l1:List Int)(v:Int):Prop:=tq Γ rv ⟨[.c 244,.l 244,.b 0,.c 31],⟨38,[vL 0 1 a aq,vL 1 1 b aq,(2,one (.fn (.func 263) [])),vO 8 0 1 l1 aq,vI 19 (aB a),vI 20 v],[oS 1 3 l1 aq]⟩⟩
def xm(Γ:a5)(rv:List Int×Int)(a b l l2:List Int):Prop:=tq Γ rv ⟨[.c 31],⟨38,[vO 8 0 1 l2 aq],[oS 1 3 l2 aq]⟩⟩
theorem xn(Γ:a5)(rv:List Int×Int){a b l}:∀⦃s:List Int×Int⦄ ⦃e:List Int⦄,aF (fun s=>nt a b l s.1 s.2) s=some e→xm Γ rv a b l e→yq Γ rv a b l s.1 s.2:=by
 refine aY ?_
 rintro⟨l1,v⟩ z_ h hI hE;simp only[nt,ay,an,ao]at h;rcases h with⟨h2,x0,h3,x1,h4,r,h5,x2,h6,h⟩|⟨h2,h⟩
 ·exact gn 13 [0,1,2,8,19,20] [0] [bT h2,hH (.draw 13 []),cE aq h3,cE aq h4,cC (J0 h5),oO (eW h6),oO (eV aq h6),rE aq h6,hH (.rows ((fi l1 v r).map aq)),hH (.re 0 ((fi l1 v r).map aq).length),oO (C7 aq l1 v r),rp 2 (oO (oV aq l1 v r))] (hI h)
 ·exact gn 5 [8] [0] [bF h2] (hE h)
theorem zR{a b}{rv:List Int×Int}(h:pP a b=some rv):dd prog 261 [.one (lL 1 a aq),.one (lL 1 b aq),.one (.fn (.func 263) [])] [] (.pX [.one (lL 1 rv.1 aq),.one (lI rv.2)]) []:=by
 refine aP func261 fun Γ=>?_
 simp only[pP,ay,an,ao]at h;rcases h with⟨h0,h⟩|⟨h0,l,h1,l2,h7,h⟩
 ·cases h;exact gr 8 [] [nL aq a,nL aq b,bT h0,hW 4,hH (.E3 6 0 1)]
 ·refine gn 14 [0,1,2,8,19,20] [0] [nL aq a,nL aq b,bF h0,nL aq a,hH (.cells [lI 0]),hH (.rows (l.map aq)),oO (Xa h1),oO (Yk h1),oO (Xb h1),oO (Xc h1),oO (Xd aq h1),nL aq a] (xn Γ rv h7 ?_);cases h;exact gr 2 [] [hW 5,hH (.iY 0),rp 3 (eL l2 aq)]
theorem Gt{a b}{rv:List Int×Int}(h:HD a b=some rv):dd prog 247 [.one (lL 1 a aq),.one (lL 1 b aq)] [] (.pX [.one (lL 1 rv.1 aq),.one (lI rv.2)]) []:=by
 refine aP func247 fun Γ=>?_
 simp only[HD,ay,an,ao]at h;obtain⟨r,h0,h⟩:=h;cases h;exact gr 4 [] [cC (zR h0)]
def Em(Γ:a5)(rv:List (List Int)×Int)(cf:Cf):Prop:=Go prog f219 [] Γ (.pX [.one (lL 1 rv.1 dM),.one (lI rv.2)]) [] cf
def Hg(Γ:a5)(rv:List (List Int)×Int)(x0:ae)(r:aX)(l:List (List Int))(now:List Int)(v:Int):Prop:=Em Γ rv ⟨[.c 2036,.l 2036,.b 0,.c 255],⟨67,[vP 2 0 6,vL 9 1 now aq,vO 10 1 1 l dM,vL 37 2 r.a8 af.enc,vI 38 (aB r.a8),vI 39 v],[oX 6 30 (ae.enc x0),oS 1 52 l dM]⟩⟩
def FO(Γ:a5)(rv:List (List Int)×Int)(x0:ae)(r:aX)(l1:List (List Int)):Prop:=Em Γ rv ⟨[.c 255],⟨67,[vO 10 0 1 l1 dM],[oS 1 52 l1 dM]⟩⟩
theorem FP(Γ:a5)(rv:List (List Int)×Int){x0 r}:∀⦃s:List (List Int)×List Int×Int⦄ ⦃e:(List (List Int))⊕(List (List Int)×Int)⦄,aF (fun s=>wu x0 r s.1 s.2.1 s.2.2) s=some e→jB e (fun e=>FO Γ rv x0 r e) (fun e=>e=rv)→Hg Γ rv x0 r s.1 s.2.1 s.2.2:=by
 refine aY ?_
 rintro⟨l,now,v⟩ z_ h hI hE;simp only[wu,ay,an,ao]at h;rcases h with⟨h6,x1,h7,⟨h8,x2,h9,r5,dq,⟨fM,h⟩|⟨fM,fN,h⟩⟩|⟨h8,x3,gC,r6,iH,⟨kT,h⟩|⟨kT,mo,h⟩⟩⟩|⟨h6,h⟩
 ·obtain rfl:=(hE h:_=rv);exact gr 24 [] [bT h6,cE af.enc h7,bT h8,cE ab.enc h9,cC (Gt dq),bT fM,hW 5,hH (.E3 4 0 1)]
 ·exact gn 27 [2,9,10,37,38,39] [0,4] [bT h6,cE af.enc h7,bT h8,cE ab.enc h9,cC (Gt dq),bF fM,oO (Eq.refl ([r5.1].map dM).length),aO dM fN] (hI h)
 ·obtain rfl:=(hE h:_=rv);exact gr 24 [] [bT h6,cE af.enc h7,bF h8,cE ab.enc gC,cC (zQ iH),bT kT,hW 5,hH (.E3 4 0 1)]
 ·exact gn 27 [2,9,10,37,38,39] [0,4] [bT h6,cE af.enc h7,bF h8,cE ab.enc gC,cC (zQ iH),bF kT,oO (Eq.refl ([r6.1].map dM).length),aO dM mo] (hI h)
 ·exact gn 5 [10] [1] [bF h6] (hE h)
theorem wv{x0 r}{rv:List (List Int)×Int}(h:BS x0 r=some rv):dd prog 219 [.agg (ae.enc x0),.agg (aX.enc r)] [] (.pX [.one (lL 1 rv.1 dM),.one (lI rv.2)]) []:=by
 refine aP func219 fun Γ=>?_
 simp only[BS,ay,an,ao]at h;rcases h with⟨r1,h0,⟨h1,h⟩|⟨h1,r2,h2,⟨h3,h⟩|⟨h3,r3,h4,r4,h5,e0,oN,h⟩⟩⟩
 ·cases h;exact gr 10 [] [cC (gO h0),bT h1,hW 5,hH (.E3 4 0 1)]
 ·cases h;exact gr 17 [] [cC (gO h0),bF h1,cC (w7 h2),bT h3,hW 5,hH (.E3 4 0 1)]
 ·refine gn 25 [2,9,10,37,38,39] [0,2] [cC (gO h0),bF h1,cC (w7 h2),bF h3,hH (.draw 7 []),cC (Eu h4),cC (Jw h5),nL af.enc r.a8] (FP Γ rv oN ?_);rcases e0 with l1|r7
  ·cases h;exact gr 2 [] [hW 5,hH (.iY 0),rp 3 (eL l1 dM)]
  ·exact oK h
end
end Go.Proofs.YtbilkblifgaflaaGreatDoor
