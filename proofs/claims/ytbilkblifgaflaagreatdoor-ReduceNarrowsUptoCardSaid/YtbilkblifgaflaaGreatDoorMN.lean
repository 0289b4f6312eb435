/- Part MN. -/
import Derived.Test.YtbilkblifgaflaaGreatDoorMW
import Derived.Test.YtbilkblifgaflaaGreatDoorMC
import Derived.Test.YtbilkblifgaflaaGreatDoorMY
set_option linter.unusedSimpArgs false
set_option linter.unusedVariables false
set_option linter.unusedSectionVars false
namespace Go.Proofs.YtbilkblifgaflaaGreatDoor
noncomputable section
section
set_option maxHeartbeats 4000000
set_option maxRecDepth 100000
def iA(x0:ae)(r3:ae×Int)(l:List ab)(i:Int):Option ((List ab×Int)⊕((List ab)⊕(Bool))):=br (aS i (aB l)) (aG (a4 x0.aj i) fun x1=>aG (a4 l i) fun x2=>br ((((aS x2.pick.aH x1.pick.aH)||(bU x2.pick.aQ x1.pick.aQ))||(aS x2.drop.aH x1.drop.aH))||(bU x2.drop.aQ x1.drop.aQ)) (some (.inr (.inr false))) (some (.inl ((fi l i (ab.mk x2.name x2.load x1.pick x1.drop x2.aL x2.bg x2.split x2.a3 x2.now x2.off)),(aT .i64 i 1))))) (some (.inr (.inl l)))
def jr(x0:ae):Option Bool:=aG (oY x0) fun r=>br r (aG (cO x0) fun r1=>br (bU (aB r1) 0) (aG (kU) fun r2=>some r2) (aG (nA x0) fun r3=>aG (nz r3.1) fun r4=>aG (o_ x0) fun r5=>aG (o_ r5.1) fun r6=>br ((((bK r3.2 0)||(bK r4.2 0))||(bK r5.2 0))||(bK r6.2 0)) (some false) (aG (gh r3.1 r4.1) fun r7=>br r7 (aG (gh r5.1 r6.1) fun r8=>br (((!r8)||(bK (aB r3.1.aj) (aB x0.aj)))||(bU (aB r5.1.b8.aI) (aB x0.b8.aI))) (some false) (aG (aF (fun s=>iA x0 r3 s.1 s.2) (r3.1.aj,0)) (fun e=>jB e (fun l1=>aG (gh (ae.mk r3.1.b8 r3.1.types l1 r3.1.cb r3.1.before) x0) fun r9=>br r9 (aG (kU) fun M3=>some M3) (some false)) (fun zj=>some zj)))) (some false)))) (aG (kU) fun Ny=>some Ny)
def oW(Γ:a5)(rv:Bool)(cf:Cf):Prop:=Go Tryz.prog Tryz.f7 [] Γ (one (.bool rv)) [] cf
def uB(Γ:a5)(rv:Bool)(x0:ae)(r3:ae×Int)(l:List ab)(i:Int):Prop:=oW Γ rv ⟨[.c 4084,.l 4084,.b 0,.c 511],⟨158,[vP 1 0 6,vP 3 1 6,vI 11 i],[oX 6 30 (ae.enc x0),oX 6 30 [lL 1 r3.1.b8.av bR,lL 6 r3.1.b8.aI al.enc,lL 14 r3.1.types ag.enc,lO 2 16 l ab.enc,lL 2 r3.1.cb aA.enc,lL 2 r3.1.before aA.enc],oS 16 56 l ab.enc]⟩⟩
def tL(Γ:a5)(rv:Bool)(x0:ae)(r3:ae×Int)(l1:List ab):Prop:=oW Γ rv ⟨[.c 511],⟨158,[vP 1 0 6,vP 3 1 6],[oX 6 30 (ae.enc x0),oX 6 30 [lL 1 r3.1.b8.av bR,lL 6 r3.1.b8.aI al.enc,lL 14 r3.1.types ag.enc,lO 2 16 l1 ab.enc,lL 2 r3.1.cb aA.enc,lL 2 r3.1.before aA.enc],oS 16 56 l1 ab.enc]⟩⟩
theorem tM(Γ:a5)(rv:Bool){x0 r3}:∀⦃s:List ab × Int⦄ ⦃e:(List ab) ⊕(Bool)⦄,aF (fun s=>iA x0 r3 s.1 s.2) s = some e→jB e (fun e=>tL Γ rv x0 r3 e) (fun e=>e = rv)→uB Γ rv x0 r3 s.1 s.2:=by
 refine aY ?_
 rintro⟨l,i⟩ z_ h hI hE;simp only[iA,ay,an,ao]at h;rcases h with⟨iH,x1,kT,x2,mo,⟨oN,h⟩|⟨oN,h⟩⟩|⟨iH,h⟩
 ·obtain rfl:=(hE h:_ = rv);exact gr 17 [] [nL ab.enc l,bT iH,cE ab.enc kT,oO (eW mo),oO (eV ab.enc mo),rE ab.enc mo,rp 24 hP,rp 6 (oI ((aS x2.pick.aH x1.pick.aH) = false)),oR True ((aS x2.pick.aH x1.pick.aH) = false),rp 6 (oI (((aS x2.pick.aH x1.pick.aH) ||(bU x2.pick.aQ x1.pick.aQ)) = false)),oR True (((aS x2.pick.aH x1.pick.aH) ||(bU x2.pick.aQ x1.pick.aQ)) = false),rp 6 (oI ((((aS x2.pick.aH x1.pick.aH) ||(bU x2.pick.aQ x1.pick.aQ)) ||(aS x2.drop.aH x1.drop.aH)) = false)),oR True ((((aS x2.pick.aH x1.pick.aH) ||(bU x2.pick.aQ x1.pick.aQ)) ||(aS x2.drop.aH x1.drop.aH)) = false),bT oN]
 ·exact gn 24 [1,3,11] [0,1,2] [nL ab.enc l,bT iH,cE ab.enc kT,oO (eW mo),oO (eV ab.enc mo),rE ab.enc mo,rp 24 hP,rp 6 (oI ((aS x2.pick.aH x1.pick.aH) = false)),oR True ((aS x2.pick.aH x1.pick.aH) = false),rp 6 (oI (((aS x2.pick.aH x1.pick.aH) ||(bU x2.pick.aQ x1.pick.aQ)) = false)),oR True (((aS x2.pick.aH x1.pick.aH) ||(bU x2.pick.aQ x1.pick.aQ)) = false),rp 6 (oI ((((aS x2.pick.aH x1.pick.aH) ||(bU x2.pick.aQ x1.pick.aQ)) ||(aS x2.drop.aH x1.drop.aH)) = false)),oR True ((((aS x2.pick.aH x1.pick.aH) ||(bU x2.pick.aQ x1.pick.aQ)) ||(aS x2.drop.aH x1.drop.aH)) = false),bF oN,oO (eW mo),oO (eV ab.enc mo),rE ab.enc mo,hH (.rows ((fi l i (ab.mk x2.name x2.load x1.pick x1.drop x2.aL x2.bg x2.split x2.a3 x2.now x2.off)).map ab.enc)),hH (.re 2 ((fi l i (ab.mk x2.name x2.load x1.pick x1.drop x2.aL x2.bg x2.split x2.a3 x2.now x2.off)).map ab.enc).length),oO (C7 ab.enc l i (ab.mk x2.name x2.load x1.pick x1.drop x2.aL x2.bg x2.split x2.a3 x2.now x2.off)),rp 4 (oO (oV ab.enc l i (ab.mk x2.name x2.load x1.pick x1.drop x2.aL x2.bg x2.split x2.a3 x2.now x2.off)))] (hI h)
 ·exact gn 5 [1,3] [0,1,2] [nL ab.enc l,bF iH] (hE h)
def Qcn(x0:ae)(r3:ae×Int):SS:=⟨158,[vP 1 0 6,vP 3 1 6,vI 4 r3.2],[oX 6 30 (ae.enc x0),oX 6 30 [lL 1 r3.1.b8.av bR,lL 6 r3.1.b8.aI al.enc,lL 14 r3.1.types ag.enc,lO 2 16 r3.1.aj ab.enc,lL 2 r3.1.cb aA.enc,lL 2 r3.1.before aA.enc],oS 16 56 r3.1.aj ab.enc]⟩
def Z5(x0:ae)(r3:ae×Int):KL:=[(1,.one (.op 0 6 0 0),.one (.ip (ae.enc x0) 0)),(3,.one (.op 1 6 0 0),.one (.ip (ae.enc r3.1) 0)),(4,.one (lI r3.2),.one (lI r3.2))]
theorem vR{x0}{rv:Bool}(U8:rv = true)(h:jr x0 = some rv):dd Tryz.prog 7 [.agg (ae.enc x0)] [] (one (.bool rv)) []:=by
 subst U8;refine aP Tryz.func7 fun Γ=>?_
 simp only[jr,ay,an,ao]at h;rcases h with⟨r,h0,⟨h1,r1,h2,⟨h3,r2,h4,h⟩|⟨h3,r3,h5,r4,h6,r5,h7,r6,h8,⟨h9,h⟩|⟨h9,r7,dq,⟨fM,r8,fN,⟨gC,h⟩|⟨gC,e0,p8,h⟩⟩|⟨fM,h⟩⟩⟩⟩|⟨h1,Ny,AL,h⟩⟩
 ·obtain rfl:=oK h;exact gr 8 [] [cC (rK h0),nF h1,nF h1,cC (vo h2),nF h1,nL aa.enc r1,nF h1,nF h1,bT h3,cC (pQ h4)]
 ·cases h
 ·cases h
 ·refine gn 9 [1,3,4] [0,2,1] [cC (rK h0),nF h1,nF h1,cC (vo h2),nF h1,nL aa.enc r1,nF h1,nF h1,bF h3,cC (BD h5)] (go_lend (k:=[.c 15]) (k':=[.c 4084,.l 4084,.b 0,.c 511]) (σ:=Qcn x0 r3) (Z5 x0 r3) [(11,.one (lI 0))] ?_ (by intro e he;simp at he;subst he;rfl) (fun v Γ2 R hΓ hg=>?_) (gn 0 [1,3,11] [0,1,2] [] (tM Γ true p8 ?_)))
  ·intro e he;simp only[Z5,List.mem_cons,List.not_mem_nil,or_false]at he;rcases he with rfl|rfl|rfl
   ·exact⟨rfl,_,rfl,by simp [cA,bS]⟩
   ·exact⟨rfl,_,rfl,by simp [cA,bS]⟩
   ·exact⟨rfl,_,rfl,by simp [cA,bS]⟩
  ·exact gnR 16 [1,3,4,11] [] [cC (uX h6),cC (wZ h7),cC (wZ h8),rp 9 hP,oI ((bK r3.2 0) = false),oR True ((bK r3.2 0) = false),oI (((bK r3.2 0) ||(bK r4.2 0)) = false),oR True (((bK r3.2 0) ||(bK r4.2 0)) = false),oI ((((bK r3.2 0) ||(bK r4.2 0)) ||(bK r5.2 0)) = false),oR True ((((bK r3.2 0) ||(bK r4.2 0)) ||(bK r5.2 0)) = false),rp 3 (bF h9),cC (qA dq),bF h9,bF h9,rp 3 (nF fM),cC (qA fN),rp 2 (nF fM),hP,hP,hP,rp 2 (oI ((!r8) = false)),nL ab.enc r3.1.aj,hP,hP,hP,rp 2 (oI ((!r8) = false)),nL ab.enc x0.aj,rp 6 hP,rp 2 (oI ((!r8) = false)),oR True ((!r8) = false),rp 3 (oI (((!r8) ||(bK (aB r3.1.aj) (aB x0.aj))) = false)),nL al.enc r5.1.b8.aI,rp 4 hP,rp 3 (oI (((!r8) ||(bK (aB r3.1.aj) (aB x0.aj))) = false)),nL al.enc x0.b8.aI,hP,hP,rp 2 (oI (((!r8) ||(bK (aB r3.1.aj) (aB x0.aj))) = false)),oR True (((!r8) ||(bK (aB r3.1.aj) (aB x0.aj))) = false),bF gC] hΓ hg
  rcases e0 with l1|zj
  ·simp only[iB,ay,an,ao]at h;rcases h with⟨r9,rk,⟨rl,M3,xI,h⟩|⟨rl,h⟩⟩
   ·obtain rfl:=oK h;exact gr 2 [] [eL l1 ab.enc,cC (qA rk),bT rl,cC (pQ xI),bT rl]
   ·cases h
  ·exact oK h
 ·cases h
 ·obtain rfl:=oK h;exact gr 8 [] [cC (rK h0),rp 5 (nT h1),tT,cC (pQ AL)]
end
section
variable {x : ae}
theorem Kh(hI:wk x)(hF:Ji x)(h:cO x=some []):jx x=some true∧gU x:=by
 obtain⟨b,b1,⟨rr,b2,b3⟩,b4⟩:=UK hI hF;rw[h]at b2;cases b2;have:b=true:=by rw[b3];rfl
 subst this;exact⟨b1,b4 rfl⟩
theorem SR:nA x=nz x:=rfl
theorem OE(r3:ae×Int):(fun s:List ab×Int=>iA x r3 s.1 s.2)=fun s=>tN x s.1 s.2:=rfl
theorem DC(hI:wk x):jr x=some true:=by
 unfold jr;rw[Vl];obtain⟨b,h1,h2⟩:=PE hI;rw[h1,ax];cases b with
 |false=>rfl
 |true =>
  have h3:=h2 rfl;have hF:=h3.Qba;obtain⟨rr,hr,hP⟩:=FV hI;rw[bu rfl,hr,ax];cases rr with
  |cons f l=>rw[bu (by simp [aB])];rfl
  |nil =>
   have hx:=hP rfl;obtain⟨r1,_⟩:=Kh hI hF hr;obtain⟨r2,hxt⟩:=Kh (RN hI) (RM hF) (by rw[NT hx];exact hr)
   have hFa:Ji (iZ x):=⟨hF.av,Nat.le_trans (List.length_filter_le ..) hF.aI,fun a ha=>hF.cz a (List.mem_filter.1 ha).1,hF.types,hF.aj⟩
   obtain⟨r3,hxa⟩:=Kh (Ts hI) hFa (RV (p:=Ew x) hI hF hx hr);have e1:=Kz hxt (RM hF) r2;rw[Nj hx hxt]at e1;have e2:=Lb hxa r3;rw[NJ hx hxa.b8]at e2;have YQ:(eU x).aj.length=x.aj.length:=by show(x.aj.map (dB x)).length=_;rw[List.length_map]
   have WV:(iZ x).b8.aI.length≤x.b8.aI.length:=List.length_filter_le ..;rw[bm (show bU (aB ([]:List aa)) 0=false by decide),SR,Kz hx hF r1,ax,e1,ax,Lb hx r1,ax,e2,ax,
    bm (show(((bK (0:Int) 0||bK (0:Int) 0)||bK (0:Int) 0)||bK (0:Int) 0)=false by decide),show gh (eU x,(0:Int)).1 (eU x,(0:Int)).1=some true from MG (RN hI),ax,de,
    show gh (iZ x,(0:Int)).1 (iZ x,(0:Int)).1=some true from MG (Ts hI),ax,
    bm (by
     simp only[Ja,Bool.not_true,LJ,kO,aB];refine⟨⟨trivial,?_⟩,?_⟩
     ·show((eU x).aj.length:Int)=x.aj.length;omega
     ·show((iZ x).b8.aI.length:Int)≤x.b8.aI.length;omega)]
   rw[OE,eg (show aF (fun s=>tN x s.1 s.2) ((eU x,(0:Int)).1.aj,0)=some (.inl x.aj)from OD hx),iB,
    show gh (ae.mk (eU x,(0:Int)).1.b8 (eU x,(0:Int)).1.types x.aj (eU x,(0:Int)).1.cb (eU x,(0:Int)).1.before) x=some true from MG hI,ax,de]
   rfl
end
end
end Go.Proofs.YtbilkblifgaflaaGreatDoor
