/- Part MQ. -/
import Derived.Test.YtbilkblifgaflaaGreatDoorMP
set_option linter.unusedSimpArgs false
set_option linter.unusedVariables false
set_option linter.unusedSectionVars false
namespace Go.Proofs.YtbilkblifgaflaaGreatDoor
noncomputable section
section
variable (n : ak) (t : ag) (aG : List aM)
def runK:List Bool→Nat→au→au×Int
 | [],_,l=>(l,0)
 |b ::r,k,l=>if(wI n t aG l k b).2≠0 then(XJ,(wI n t aG l k b).2)else runK r (k+1) (wI n t aG l k b).1
def Zx:List Bool→Nat→au→List Int
 | [],_,_=>[]
 |b ::r,k,l=>(wI n t aG l k b).1.gw ::Zx r (k+1) (wI n t aG l k b).1
def uA(aH:Int):au:=au.mk (max t.bm aH) 0 ud
def Kh(aH:Int)(aP:List Bool):aQ×Int:=
 if(runK n t aG aP 0 (uA t aH)).2≠0 then(ud,(runK n t aG aP 0 (uA t aH)).2)else((runK n t aG aP 0 (uA t aH)).1.dD,0)
end
section
variable {n : ak} {t : ag} {aG : List aM} {l : au} {k : Nat} {b : Bool}
theorem RT(h:qk n t aG){aH:Int}(hs:0≤aH∧aH≤4096):Ew 0 (uA t aH):=by
 have h1:=h.XV;have h2:=h.bp;refine⟨?_,?_,Int.le_refl _,by show(0:Int)≤4096;omega,Int.le_refl _,Int.le_refl _,rfl⟩
 ·show 0≤max t.bm aH;omega
 ·show max t.bm aH≤8192;omega
theorem run_eq{p:bw}(h:qk p.x.bG p.t p.aG)(hs:0≤p.r.aH∧p.r.aH≤4096){aP:List Bool}(hr:aP.length=p.aG.length+1):rJ p aP=some (Kh p.x.bG p.t p.aG p.r.aH aP):=by
 have QpL:=h.few;apply post.eq;unfold rJ;have Qlh:ir p=some (uA p.t p.r.aH):=by
  unfold ir uA;rw[Bn];rfl
 show post (aS (ir p) _) _;rw[Qlh,ai];refine b_ (R:=fun e:au⊕(aQ×Int)=>e=(if(runK p.x.bG p.t p.aG aP 0 (uA p.t p.r.aH)).2≠0 then .inr (ud,(runK p.x.bG p.t p.aG aP 0 (uA p.t p.r.aH)).2)else .inl (runK p.x.bG p.t p.aG aP 0 (uA p.t p.r.aH)).1)) ?_ ?_
 ·refine fj (fun s=>∃(k:Nat) (l:au),k≤aP.length∧s=(p.t.de,l,(k:Int))∧(k≤p.aG.length→Ew k l)∧runK p.x.bG p.t p.aG (aP.drop k) k l=runK p.x.bG p.t p.aG aP 0 (uA p.t p.r.aH)) (fun s=>aP.length-s.2.2.toNat) ⟨0,_,Nat.zero_le _,rfl,fun _=>RT h hs,rfl⟩ (by simp;omega) ?_
  rintro _ ⟨k,l,hk,rfl,hL,hf⟩;show post (qF p aP _ p.t.de l (k:Int)) _;unfold qF;refine bA (fun hb=>?_) (fun hb=>ef ?_)
  ·simp only[fS,aC]at hb;have wP:k<aP.length:=by omega
   have e1:aP[k]?=some aP[k]:=List.getElem?_eq_getElem wP;rw[bt e1,ai,inc wP (by omega)]
   rw[List.drop_eq_getElem_cons wP]at hf;simp only[runK]at hf;show post (aS (mu p l (k:Int) aP[k]) _) _;rw[QcJ h (hL (by omega)) (by omega),ai]
   generalize aP[k]=b at *;refine bA (fun hc=>ef ?_) (fun hc=>fO ⟨⟨k+1,(wI p.x.bG p.t p.aG l k b).1,by omega,rfl,fun h'=>?_,?_⟩,by simp;omega⟩)
   ·simp only[wk]at hc;rw[if_pos hc]at hf;rw[←hf,if_pos hc];rfl
   ·simp only[J0]at hc;exact ON h (hL (by omega)) (by omega) hc
   ·simp only[J0]at hc;rwa [if_neg (by simpa using hc)]at hf
  ·simp only[jG,aC]at hb;rw[List.drop_eq_nil_of_le (by omega)]at hf
   simp only[runK]at hf;rw[←hf,if_neg (by simp)]
 ·rintro e rfl;unfold Kh;split
  ·rw[q7];exact bg.2 rfl
  ·rw[en];exact bg.2 rfl
theorem step_eq{x:ae}{s:bB}(hn:tj x.bG)(ht:NA s.v_)(hd:0≤s.gy∧s.gy≤4096)(hm:0≤s.cT∧s.cT≤1000000)(dE bp late:Int):
  kK x t s dE bp late=some (if(goN x.bG t.aj s.place dE s.v_).2.2≠0 then(s,12)else if bp<(goN x.bG t.aj s.place dE s.v_).1 then(s,late)
   else if t.kC<s.gy+(goN x.bG t.aj s.place dE s.v_).1-s.v_ then(s,16)
   else(bB.mk dE (goN x.bG t.aj s.place dE s.v_).1 (s.gy+(goN x.bG t.aj s.place dE s.v_).1-s.v_) (s.cT+(goN x.bG t.aj s.place dE s.v_).2.1),0)):=by
 unfold kK yq;show aS (aS (tV x.bG t.aj s.place dE s.v_) _) _=_;rw[Zr hn _ _ _ ht,ai,ai];by_cases h0:(goN x.bG t.aj s.place dE s.v_).2.2=0
 ·have hb:=Jg hn ht h0;unfold NA at ht;rw[bl (by simpa using h0),if_neg (by simpa using h0)]
  simp(disch:=omega) only[ig,v9,NK,qi];split
  ·rfl
  ·split <;> rfl
 ·rw[a_ (by simpa using h0),if_pos h0]
def stS(t:ag)(aG:List aM)(l:au)(k:Nat)(b:Bool):bB:=bB.mk (fD t aG k) (jh t l b) (uY l b) l.dD.cT
theorem Qbb{ts:List aX}{a m d:Int}{e:Bool}{dep:Int}:patch (ts++[aX.mk a m d e]) ts.length dep b=ts++[aX.mk a m dep b]:=by
 unfold patch;rw[List.getElem?_append_right (Nat.le_refl _),Nat.sub_self];show(ts++[aX.mk a m d e]).set ts.length (aX.mk a m dep b)=_;rw[List.set_append_right _ _ (Nat.le_refl _),Nat.sub_self];rfl
theorem QjA{x:ae}{r:ay}(hp:rq x r=true)(hk:k<r.ar.length):∃v,r.ar[k]?=some v∧kL x v=some (cV t (bh x r) k,true):=by
 obtain⟨v,h1,h2⟩:=KD hp (Aq (t:=t) (by rw[tX];exact hk))
 exact⟨v,h1,by rw[Re,h2]⟩
theorem ZO{x:ae}{dE bp late:Int}(hx:cD x)(hT:qk x.bG t aG)(hL:Ew k l)(hk:k≤20)(h1:(cV t aG k).place=dE)(h2:(cV t aG k).bp=bp)(h3:(if k<aG.length then 14 else 15)=late):
  ∃X,kK x t (stS t aG l k b) dE bp late=some X∧X.2=(wI x.bG t aG l k b).2∧
   ((wI x.bG t aG l k b).2=0→X=(bB.mk dE (goN x.bG t.aj (fD t aG k) (cV t aG k).place (jh t l b)).1 (uY l b+(goN x.bG t.aj (fD t aG k) (cV t aG k).place (jh t l b)).1-jh t l b) (l.dD.cT+(goN x.bG t.aj (fD t aG k) (cV t aG k).place (jh t l b)).2.1),0)):=by
 have ry:=SA (rest:=b) hT hL;have hsn:0≤uY l b∧uY l b≤4096:=by have:=hL.Xu;have:=hL.Qbo;unfold uY;split <;> omega
 have hm0:=hL.Qe;have hm1:=hL.Qf;have Vn:=step_eq (t:=t) (s:=stS t aG l k b) hx.bG ry hsn ⟨hm0,by show l.dD.cT≤1000000;omega⟩ dE bp late
 subst h1 h2 h3;refine⟨_,Vn,?_,fun h0=>?_⟩
 ·unfold wI W4;show(if(goN x.bG t.aj (fD t aG k) (cV t aG k).place (jh t l b)).2.2≠0 then _ else if(cV t aG k).bp<(goN x.bG t.aj (fD t aG k) (cV t aG k).place (jh t l b)).1 then _ else if t.kC<uY l b+(goN x.bG t.aj (fD t aG k) (cV t aG k).place (jh t l b)).1-jh t l b then _ else _:bB×Int).2=_
  split
  ·rfl
  ·split
   ·rfl
   ·split <;> rfl
 ·obtain⟨g0,g1,g2,g3⟩:=Ei hT hL h0;show(if(goN x.bG t.aj (fD t aG k) (cV t aG k).place (jh t l b)).2.2≠0 then _ else if(cV t aG k).bp<(goN x.bG t.aj (fD t aG k) (cV t aG k).place (jh t l b)).1 then _ else if t.kC<uY l b+(goN x.bG t.aj (fD t aG k) (cV t aG k).place (jh t l b)).1-jh t l b then _ else _:bB×Int)=_
  rw[if_neg (by simpa using g0),if_neg (by omega),if_neg (by omega)]
  rfl
theorem Qbi{x:ae}{r:ay}{aP:List Bool}(hx:cD x)(hv:r.ar.length≤1048576):rY x r aP = some (if rq x r = true∧aP.length = r.ar.length + 1 then
      ((Kh x.bG (bU x r) (bh x r) r.aH aP).1,if(Kh x.bG (bU x r) (bh x r) r.aH aP).2 = 0 then Zx x.bG (bU x r) (bh x r) aP 0 (uA (bU x r) r.aH)else [],(Kh x.bG (bU x r) (bh x r) r.aH aP).2)else(ud,[],2)):= by
  unfold rY;show aS (iS x r) _ = _;rw[QcP,ai];have qf:aY .i64 (aC r.ar) 1 =(r.ar.length:Int) + 1:= by unfold aC;exact ig (by omega) (by omega)
  rw[qf];by_cases hc:rq x r = true∧aP.length = r.ar.length + 1
  · obtain⟨hp,hr⟩:= hc;have h5:= of_decide_eq_true (wx hp);have hT:= TU hx hp;rw[if_pos ⟨hp,hr⟩,hp,a_ (by simp only[Bool.not_true,Bool.false_or,J0,aC];omega),(Sb (wx hp)).1,ai]
    have e0:aP[0]? = some (aP[0]'(by omega)):= List.getElem?_eq_getElem _
    rw[show bq aP 0 = some (aP[0]'(by omega))from bt (k:= 0) e0,ai]
    have hL0:= RT hT ⟨h5.2.2.1,h5.2.2.2.1⟩;have YZ: ∀(s:bB) (b:Bool),0≤s.v_∧s.v_≤20000→qq (bU x r) s b = some (bB.mk s.place (s.v_ +(if b = true then(bU x r).de else 0)) (if b = true then 0 else s.gy) s.cT):= by
      intro s b hs;have:= hT.rest;unfold qq;cases b with
      |true => rw[dc,ig (by omega) (by omega)];rfl
      |false => rw[cL];simp
    have hmx:zz (bU x r).bm r.aH =(uA (bU x r) r.aH).ready:= by rw[Bn];rfl
    rw[hmx,YZ _ _ ⟨hL0.Tt,by have:= hL0.Xg;show(uA (bU x r) r.aH).ready≤20000;omega⟩,ai]
    generalize hb0:aP[0]'(by omega) = b0 at e0
    have Qqu:bB.mk (bU x r).aE ((uA (bU x r) r.aH).ready +(if b0 = true then(bU x r).de else 0)) (if b0 = true then 0 else 0) 0 = stS (bU x r) (bh x r) (uA (bU x r) r.aH) 0 b0:= rfl
    show aS (aK _ ([],[],bB.mk (bU x r).aE ((uA (bU x r) r.aH).ready +(if b0 = true then(bU x r).de else 0)) (if b0 = true then 0 else 0) 0,jh (bU x r) (uA (bU x r) r.aH) b0,0)) _ = _
    rw[Qqu];apply post.eq;have S0:= tX (x:= x) (r:= r)
    -- Qhu V7 loop over V7 ar comes to
    refine b_ (R:= fun e:(List Int × List aX × bB × Int) ⊕(aQ × List Int × Int) =>
      (∃IK,IK≠0∧e = .inr (ud,[],IK)∧(runK x.bG (bU x r) (bh x r) aP 0 (uA (bU x r) r.aH)).2 = IK)∨
      (∃(l:au) (b:Bool) (dr:List Int) (dep:Int),Ew r.ar.length l∧e = .inl (dr,w4 l r.ar.length (jh (bU x r) l b) b,stS (bU x r) (bh x r) l r.ar.length b,dep)∧dr.length = r.ar.length∧
        (if r.ar.length = 0 then b else l.dD.de) = b0∧(if r.ar.length = 0 then jh (bU x r) l b else l.dD.cF) = dep∧
        runK x.bG (bU x r) (bh x r) [b] r.ar.length l = runK x.bG (bU x r) (bh x r) aP 0 (uA (bU x r) r.aH)∧
        dr ++ Zx x.bG (bU x r) (bh x r) [b] r.ar.length l = Zx x.bG (bU x r) (bh x r) aP 0 (uA (bU x r) r.aH))) ?_ ?_
    · refine fj (fun s => ∃(k:Nat) (l:au) (b:Bool) (dr:List Int) (dep:Int),k≤r.ar.length∧Ew k l∧aP[k]? = some b∧s =(dr,w4 l k (jh (bU x r) l b) b,stS (bU x r) (bh x r) l k b,dep,(k:Int))∧dr.length = k∧
        (if k = 0 then b else l.dD.de) = b0∧(if k = 0 then jh (bU x r) l b else l.dD.cF) = dep∧
        runK x.bG (bU x r) (bh x r) (aP.drop k) k l = runK x.bG (bU x r) (bh x r) aP 0 (uA (bU x r) r.aH)∧
        dr ++ Zx x.bG (bU x r) (bh x r) (aP.drop k) k l = Zx x.bG (bU x r) (bh x r) aP 0 (uA (bU x r) r.aH)) (fun s => r.ar.length - s.2.2.2.2.toNat)
        ⟨0,_,b0,[],_,Nat.zero_le _,hL0,e0,rfl,rfl,rfl,rfl,rfl,rfl⟩ (by simp;omega) ?_
      rintro _ ⟨k,l,b,dr,dep,hk,hL,hbk,rfl,hdr,hq1,hq2,hf,PX⟩;show post (qS x r aP (bU x r) b0 dr (w4 l k (jh (bU x r) l b) b) (stS (bU x r) (bh x r) l k b) dep (k:Int)) _;unfold qS;have hkr:k < aP.length:=(List.getElem?_eq_some_iff.1 hbk).1;have YV:aP.drop k = b ::aP.drop (k + 1):= by
        rw[List.drop_eq_getElem_cons hkr];congr 1;rw[List.getElem?_eq_getElem hkr]at hbk;exact Option.some.inj hbk
      refine bA (fun hb => ?_) (fun hb => ef (.inr ?_))
      · simp only[fS,aC]at hb;have wP:k < r.ar.length:= by omega
        obtain⟨v,hv1,S1⟩:= QjA (t:= bU x r) hp wP;rw[YV]at hf PX;simp only[runK,Zx]at hf PX;rw[bt hv1,ai];show post (aS (kL x v) fun r3 => aS (kK x (bU x r) (stS (bU x r) (bh x r) l k b) r3.1.place r3.1.bp 14) _) _
        have ry:= SA (rest:= b) hT hL;have hsn:0≤uY l b∧uY l b≤4096:= by have:= hL.Xu;have:= hL.Qbo;unfold uY;split <;> omega
        have hm0:= hL.Qe;have hm1:= hL.Qf;obtain⟨X,hX1,hX2,hX3⟩:= ZO (b:= b) hx hT hL (by have:= h5.2.2.2.2;omega) (dE:=(cV (bU x r) (bh x r) k).place) (bp:=(cV (bU x r) (bh x r) k).bp) (late:= 14) rfl rfl (by rw[if_pos (by rw[S0];exact wP)])
        rw[S1,ai,hX1,ai];by_cases h0:(wI x.bG (bU x r) (bh x r) l k b).2 = 0
        · obtain⟨g0,g1,g2,g3⟩:= Ei hT hL h0;have hL':= ON hT hL (by rw[S0];exact wP) h0
          have hX4:= hX3 h0;rw[if_neg (by simpa using h0)]at hf
          have XO:aP[k + 1]? = some (aP[k + 1]'(by omega)):= List.getElem?_eq_getElem _
          have hgb:= Jg hx.bG ry g0;have hS:= hT.cV k;have h51:= hS.VL;have h52:= hS.Th;have XN:= hS.bp;have h54:= hS.TF;have Um:= hS.ZE;have QpU:= ry;unfold NA at QpU;rw[a_ (by rw[hX2];simpa using h0),hX4]
          simp only;have XQ:k <(bh x r).length:= by rw[S0];exact wP
          have QaP:fD (bU x r) (bh x r) (k + 1) =(cV (bU x r) (bh x r) k).place:= by
            show((bh x r).getD k Mu).place =((bh x r).getD k (Uj (bU x r))).place;rw[List.getD_eq_getElem?_getD,List.getD_eq_getElem?_getD,List.getElem?_eq_getElem XQ];rfl
          generalize hgg:goN x.bG (bU x r).aj (fD (bU x r) (bh x r) k) (cV (bU x r) (bh x r) k).place (jh (bU x r) l b) = g at *;generalize PY:(wI x.bG (bU x r) (bh x r) l k b).1 = l' at *;have Qnl:(dr ++ [uY l b + g.1 - jh (bU x r) l b]).length = k + 1:= by rw[List.length_append,hdr];rfl
          refine dd (cW (by rw[Qnl];omega)) ?_
          rw[inc (n:= r.ar.length) wP (by omega),show(k:Int) + 1 =((k + 1:Nat):Int) by omega,bt XO,ai]
          generalize aP[k + 1]'(by omega) = b' at XO
          rw[Bn,ig (by omega) (by omega),YZ _ _ ⟨by show 0≤max g.1 _ + _;omega,by show max g.1 _ + _≤20000;omega⟩,ai]
          refine dd (cW (by rw[List.length_append,CE,hL.je];simp;omega)) (fO ⟨⟨k + 1,l',b',dr ++ [uY l b + g.1 - jh (bU x r) l b],dep,by omega,hL',XO, ?_,Qnl, ?_, ?_,hf, ?_⟩,by simp;omega⟩)
          · rw[g3];have ht1:(w4 l k (jh (bU x r) l b) b).length = k:= by rw[CE,hL.je]
            have ht2:w4 (au.mk (max g.1 (cV (bU x r) (bh x r) k).bm +(cV (bU x r) (bh x r) k).bz) (uY l b + g.1 - jh (bU x r) l b) (shS (bU x r) (bh x r) l k b (jh (bU x r) l b) g)) (k + 1) (max g.1 (cV (bU x r) (bh x r) k).bm +(cV (bU x r) (bh x r) k).bz +(if b' = true then(bU x r).de else 0)) b' =
                w4 l k (jh (bU x r) l b) b ++ [aX.mk g.1 (max g.1 (cV (bU x r) (bh x r) k).bm) (max g.1 (cV (bU x r) (bh x r) k).bm +(cV (bU x r) (bh x r) k).bz +(if b' = true then(bU x r).de else 0)) b']:= by
              show patch (if k <(bh x r).length then w4 l k (jh (bU x r) l b) b ++ [aX.mk g.1 (max g.1 (cV (bU x r) (bh x r) k).bm) 0 false]else _) k _ b' = _
              rw[if_pos XQ];have:= Qbb (b:= b') (ts:= w4 l k (jh (bU x r) l b) b) (a:= g.1) (m:= max g.1 (cV (bU x r) (bh x r) k).bm) (d:= 0) (e:= false) (dep:= max g.1 (cV (bU x r) (bh x r) k).bm +(cV (bU x r) (bh x r) k).bz +(if b' = true then(bU x r).de else 0))
              rw[ht1]at this;exact this
            show(_,_,_,_,_) =(_,w4 _ (k + 1) (max g.1 (cV (bU x r) (bh x r) k).bm +(cV (bU x r) (bh x r) k).bz +(if b' = true then(bU x r).de else 0)) b',_,_,_)
            rw[ht2];unfold stS;rw[QaP];rfl
          · rw[if_neg (by omega),g3];exact hq1
          · rw[if_neg (by omega),g3];exact hq2
          · rw[←PX,List.append_assoc,g3];rfl
        · rw[bl (by rw[hX2];simpa using h0),hX2]
          rw[if_pos h0]at hf;exact ef (.inl ⟨_,h0,rfl,by rw[←hf]⟩)
      · simp only[jG,aC]at hb;have hkv:k = r.ar.length:= by omega
        subst hkv;have hd1:aP.drop (r.ar.length + 1) = []:= List.drop_eq_nil_of_le (by omega)
        rw[YV,hd1]at hf PX;exact⟨l,b,dr,dep,hL,rfl,hdr,hq1,hq2,hf,PX⟩
    · unfold Kh;rintro e (⟨IK,h1,rfl,h2⟩ |⟨l,b,dr,dep,hL,rfl,hdr,hq1,hq2,hf,PX⟩)
      · rw[q7,h2,if_pos h1];refine bg.2 ?_
        simp only;rw[if_neg h1]
      · rw[en];obtain⟨X,hX1,hX2,hX3⟩:= ZO (b:= b) hx hT hL (by have:= h5.2.2.2.2;omega) (dE:=(bU x r).dE) (bp:=(bU x r).bp) (late:= 15) (by rw[vA (by rw[S0];omega)];rfl) (by rw[vA (by rw[S0];omega)];rfl) (by rw[if_neg (by rw[S0];omega)])
        show post (aS (kK x (bU x r) (stS (bU x r) (bh x r) l r.ar.length b) (bU x r).dE (bU x r).bp 15) _) _;rw[hX1,ai];simp only[runK,Zx]at hf PX;by_cases h0:(wI x.bG (bU x r) (bh x r) l r.ar.length b).2 = 0
        · obtain⟨g0,g1,g2,g3⟩:= Ei hT hL h0;rw[if_neg (by simpa using h0)]at hf
          rw[a_ (by rw[hX2];simpa using h0),hX3 h0,←hf,←PX]
          refine dd (cW (by simp;omega)) (bg.2 ?_)
          simp only[ne_eq,not_true_eq_false,if_false,if_true];rw[g3];unfold shS;have hnl: ¬r.ar.length <(bh x r).length:= by rw[S0];omega
          rw[hq1,hq2,if_neg hnl,if_neg hnl]
        · rw[if_pos h0]at hf;rw[bl (by rw[hX2];simpa using h0),←hf,hX2]
          refine bg.2 ?_
          simp only;rw[if_pos h0,if_neg h0];rfl
  · rw[if_neg hc];rw[bl]
    · rfl
    · by_cases hp:rq x r = true
      · simp only[hp,Bool.not_true,Bool.false_or,wk,aC];intro h;exact hc ⟨hp,by omega⟩
      · simp [hp]
end
section
variable {n : ak} {t : ag} {aG : List aM} {aH : Int} {aP : List Bool}
theorem Qd_{l:au}{k:Nat}{b:Bool}:(wI n t aG l k b).1.dD.je.length≤l.dD.je.length+1:=by
 unfold wI W4;split
 ·exact Nat.zero_le _
 ·split
  ·exact Nat.zero_le _
  ·split
   ·exact Nat.zero_le _
   ·show(if k<aG.length then _ else _:List aX).length≤_
    split
    ·rw[List.length_append,CE];exact Nat.le_refl _
    ·rw[CE];omega
theorem Tz:∀(aP:List Bool) (k:Nat) (l:au),(runK n t aG aP k l).1.dD.je.length≤l.dD.je.length+aP.length
 | [],k,l=>by simp [runK]
 |b ::r,k,l=>by
  simp only[runK];split
  ·exact Nat.zero_le _
  ·have h1:=Tz r (k+1) (wI n t aG l k b).1;have h2:=Qd_ (n:=n) (t:=t) (aG:=aG) (l:=l) (k:=k) (b:=b);simp only[List.length_cons];omega
end
def Qmc(x:ae)(r:ay)(aP:List Bool):aQ×Int:=if rq x r=true∧aP.length=r.ar.length+1 then Kh x.bG (bU x r) (bh x r) r.aH aP else(ud,2)
theorem Qbh{x:ae}{r:ay}{aP:List Bool}(hx:cD x)(hv:r.ar.length≤1048576):lY x r aP=some (Qmc x r aP):=by
 unfold lY Qmc;show aS (rY x r aP) _=_;rw[Qbi hx hv,ai];split <;> rfl
theorem Qk:∀(n:Nat) (l:List Nat),l.Nodup→(∀x∈l,x<n)→l.length≤n
 |0,l,_,h=>by
  cases l with
  |nil=>exact Nat.le_refl _
  |cons x r=>exact absurd (h x (by simp)) (by omega)
 |n+1,l,hd,h=>by
  have h1:=Qk n (l.erase n) (hd.erase n) (fun x hx=>by
   have CJ:=(List.Nodup.mem_erase_iff hd).1 hx;have:=h x CJ.2;have:=CJ.1;omega)
  have h2:l.length≤(l.erase n).length+1:=by rw[List.length_erase];split <;> omega
  omega
section
variable (lk : Int) (np : Nat)
def di(s:List Int)(v:Nat):Int:=s.getD v (-1)
def DL(s:List Int)(a:aw):List Int:=
 if a.aj=lk∧0≤di s a.aE.toNat∧(di s a.dE.toNat<0∨zN a (di s a.aE.toNat)<di s a.dE.toNat)then s.set a.dE.toNat (zN a (di s a.aE.toNat))else s
def mF(bj:List aw)(s:List Int)(k:Nat):List Int:=(bj.take k).foldl (DL lk) s
def pass(bj:List aw)(s:List Int):List Int:=mF lk bj s bj.length
def iter(bj:List aw)(s:List Int):Nat→List Int
 |0=>s
 |j+1=>pass lk bj (iter bj s j)
structure X2 (B C:Int) (a:aw):Prop where
 Vc:0≤a.aE
 Vd:a.aE<np
 to0:0≤a.dE
 to1:a.dE<np
 ge:∀t,0≤t→t≤B→t≤zN a t
 le:∀t,0≤t→t≤B→zN a t≤t+C
end
theorem Wm{s:List Int}{d v:Nat}{x:Int}(h:d<s.length):di (s.set d x) v=if v=d then x else di s v:=by
 unfold di;rw[List.getD_eq_getElem?_getD,List.getD_eq_getElem?_getD,List.getElem?_set];by_cases hv:d=v
 ·subst hv;rw[if_pos rfl,if_pos h,if_pos rfl];rfl
 ·rw[if_neg hv,if_neg (fun e=>hv e.symm)]
theorem zC{lk:Int}{bj:List aw}{s:List Int}{k:Nat}{a:aw}(h:bj[k]?=some a):mF lk bj s (k+1)=DL lk (mF lk bj s k) a:=by
 unfold mF;rw[List.take_add_one,h,List.foldl_append];rfl
section
variable {lk : Int} {np : Nat} {B C t0 : Int} {bj : List aw}
def UH(lk:Int)(s:List Int)(a:aw):Prop:=a.aj=lk→0≤di s a.aE.toNat→0≤di s a.dE.toNat∧di s a.dE.toNat≤zN a (di s a.aE.toNat)
structure Inv (lk:Int) (np:Nat) (C t0:Int) (bj:List aw) (p k:Nat) (s:List Int) (level:Nat→Nat) (path:Nat→List Nat):Prop where
 len:s.length=np
 nodup:∀v,0≤di s v→(path v).Nodup
 head:∀v,0≤di s v→v∈path v
 elems:∀v,0≤di s v→∀u∈path v,u<np∧0≤di s u∧di s u≤di s v
 QiZ:∀v,0≤di s v→level v+1≤(path v).length
 val:∀v,0≤di s v→di s v+C≤t0+C*(path v).length
 r1:∀a∈bj,level a.aE.toNat+2≤p→UH lk s a
 r2:∀(i:Nat) (a:aw),i<k→bj[i]?=some a→level a.aE.toNat+1≤p→UH lk s a
theorem Inv.Qon{p k:Nat}{s:List Int}{level:Nat→Nat}{path:Nat→List Nat}(h:Inv lk np C t0 bj p k s level path){v:Nat}(hv:0≤di s v):(path v).length≤np:=Qk np _ (h.nodup v hv) (fun x hx=>(h.elems v hv x hx).1)
theorem Inv.step{p k:Nat}{s:List Int}{level:Nat→Nat}{path:Nat→List Nat}(h:Inv lk np C t0 bj p k s level path)(hC:0≤C)(hB:t0+C*np≤B){a:aw}(ha:bj[k]?=some a)(hg:X2 np B C a):
  ∃QlW Qom,Inv lk np C t0 bj p (k+1) (DL lk s a) QlW Qom∧(np≤p→DL lk s a=s):=by
 unfold DL;by_cases hc:a.aj=lk∧0≤di s a.aE.toNat∧(di s a.dE.toNat<0∨zN a (di s a.aE.toNat)<di s a.dE.toNat)
 ·rw[if_pos hc];obtain⟨h1,h2,h3⟩:=hc;have hd:a.dE.toNat<s.length:=by rw[h.len];have:=hg.to1;have:=hg.to0;omega
  obtain⟨u,hu⟩:∃u,u=a.aE.toNat:=⟨_,rfl⟩;obtain⟨v,hv⟩:∃v,v=a.dE.toNat:=⟨_,rfl⟩;rw[←hu]at h2 h3 ⊢;rw[←hv]at h3 hd ⊢;have AK:=h.Qon h2;have QaQ:=h.val u h2;have hCl:C*(path u).length≤C*np:=Int.mul_le_mul_of_nonneg_left (by omega) hC
  have QW:=hg.ge (di s u) h2 (by omega)
  have hle:=hg.le (di s u) h2 (by omega)
  obtain⟨x,hx⟩:∃x,x=zN a (di s u):=⟨_,rfl⟩;rw[←hx]at h3 QW hle ⊢;have Qs4:p≤level u+1:=by
   rcases Nat.lt_or_ge (level u+1) p with mj|QpO
   ·have:=h.r1 a (List.mem_of_getElem? ha) (by rw[←hu];omega) h1 (by rw[←hu];exact h2)
    rw[←hu,←hv,←hx]at this;omega
   ·exact QpO
  have hvn:v ∉ path u:=fun hm=>by
   have:=h.elems u h2 v hm;omega
  have Qrt:=h.QiZ u h2;have huv:u≠v:=fun e=>hvn (e▸h.head u h2)
  have QnX:v<np:=by rw[←h.len];exact hd
  have hnd:(v ::path u).Nodup:=List.nodup_cons.2 ⟨hvn,h.nodup u h2⟩;have Qkd:(v ::path u).length≤np:=Qk np _ hnd (fun y hy=>by
   rcases List.mem_cons.1 hy with rfl|hy
   ·exact QnX
   ·exact(h.elems u h2 y hy).1)
  rw[List.length_cons]at Qkd;have hA:∀w,di (s.set v x) w=if w=v then x else di s w:=fun w=>Wm hd
  have hAv:di (s.set v x) v=x:=by rw[hA,if_pos rfl]
  have hAo:∀w,w≠v→di (s.set v x) w=di s w:=fun w hw=>by rw[hA,if_neg hw]
  -- Qhu a place on a path holds now
  have hold:∀w,0≤di s w→0≤di (s.set v x) w∧di (s.set v x) w≤di s w:=fun w hw=>by
   by_cases Nz:w=v
   ·subst Nz;rw[hAv];omega
   ·rw[hAo w Nz];omega
  have Qj_:∀a':aw,a'.aE.toNat≠v→UH lk s a'→UH lk (s.set v x) a':=fun a' sR hD hp hs=>by
   rw[hAo _ sR]at hs ⊢;have:=hD hp hs;have:=hold _ this.1;omega
  refine⟨fun w=>if w=v then p else level w,fun w=>if w=v then v ::path u else path w,?_,fun hnp=>absurd Qkd (by omega)⟩
  refine⟨by rw[List.length_set];exact h.len,fun w hw=>?_,fun w hw=>?_,fun w hw y hy=>?_,fun w hw=>?_,fun w hw=>?_,fun a' ha' hl=>?_,fun i a' hi ha' hl=>?_⟩
  ·by_cases Nz:w=v
   ·simp only[Nz,if_true];exact hnd
   ·simp only[Nz,if_false];rw[hAo w Nz]at hw;exact h.nodup w hw
  ·by_cases Nz:w=v
   ·simp only[Nz,if_true];exact List.mem_cons_self
   ·simp only[Nz,if_false];rw[hAo w Nz]at hw;exact h.head w hw
  ·by_cases Nz:w=v
   ·subst Nz;simp only[if_true]at hy;rw[hAv];rcases List.mem_cons.1 hy with rfl|hy
    ·rw[hAv];exact⟨QnX,by omega,by omega⟩
    ·have he:=h.elems u h2 y hy;have hyv:y≠w:=fun e=>hvn (e▸hy)
     rw[hAo y hyv];exact⟨he.1,he.2.1,by omega⟩
   ·simp only[Nz,if_false]at hy;rw[hAo w Nz]at hw ⊢;have he:=h.elems w hw y hy;have ho:=hold y he.2.1;exact⟨he.1,ho.1,by omega⟩
  ·by_cases Nz:w=v
   ·simp only[Nz,if_true,List.length_cons];omega
   ·simp only[Nz,if_false];rw[hAo w Nz]at hw;exact h.QiZ w hw
  ·by_cases Nz:w=v
   ·subst Nz;simp only[if_true,List.length_cons];rw[hAv];have:C*((path u).length+1:Nat)=C*(path u).length+C:=by
     rw[Int.natCast_add,Int.mul_add];simp
    rw[this];omega
   ·simp only[Nz,if_false];rw[hAo w Nz]at hw ⊢;exact h.val w hw
  ·by_cases Nz:a'.aE.toNat=v
   ·simp only[Nz,if_true]at hl;omega
   ·simp only[Nz,if_false]at hl;exact Qj_ a' Nz (h.r1 a' ha' hl)
  ·by_cases Nz:a'.aE.toNat=v
   ·simp only[Nz,if_true]at hl;omega
   ·simp only[Nz,if_false]at hl;rcases Nat.lt_or_ge i k with hik|hik
    ·exact Qj_ a' Nz (h.r2 i a' hik ha' hl)
    ·have Qls:i=k:=by omega
     subst Qls;have:a'=a:=Option.some.inj (ha'.symm.trans ha);subst this;intro _ _;rw[←hu,←hv,hAv,hAo u huv,←hx];omega
 ·rw[if_neg hc];refine⟨level,path,⟨h.len,h.nodup,h.head,h.elems,h.QiZ,h.val,h.r1,fun i a' hi ha' hl=>?_⟩,fun _=>rfl⟩
  rcases Nat.lt_or_ge i k with hik|hik
  ·exact h.r2 i a' hik ha' hl
  ·have Qls:i=k:=by omega
   subst Qls;have:a'=a:=Option.some.inj (ha'.symm.trans ha);subst this;intro hp hs;have:¬(di s a'.dE.toNat<0∨zN a' (di s a'.aE.toNat)<di s a'.dE.toNat):=fun hh=>hc ⟨hp,hs,hh⟩
   omega
theorem Inv.steps{p:Nat}{s:List Int}(hC:0≤C)(hB:t0+C*np≤B)(hg:∀a∈bj,X2 np B C a)(h0:∃level path,Inv lk np C t0 bj p 0 s level path):
  ∀k,k≤bj.length→(∃level path,Inv lk np C t0 bj p k (mF lk bj s k) level path)∧(np≤p→mF lk bj s k=s)
 |0,_=>⟨h0,fun _=>rfl⟩
 |k+1,hk=>by
  obtain⟨⟨level,path,h⟩,hs⟩:=Inv.steps hC hB hg h0 k (by omega)
  have ha:bj[k]?=some (bj[k]'(by omega)):=List.getElem?_eq_getElem (by omega)
  obtain⟨l',p',h',Qll⟩:=h.step hC hB ha (hg _ (List.mem_of_getElem? ha));rw[zC ha];exact⟨⟨l',p',h'⟩,fun hnp=>by rw[Qll hnp,hs hnp]⟩
theorem Inv.Qg2{s:List Int}(hC:0≤C)(hB:t0+C*np≤B)(hg:∀a∈bj,X2 np B C a)(h0:∃level path,Inv lk np C t0 bj 1 0 s level path):
  ∀j,(∃level path,Inv lk np C t0 bj (j+1) 0 (iter lk bj s j) level path)∧(np≤j+1→iter lk bj s (j+1)=iter lk bj s j)
 |0=>⟨h0,fun hnp=>(Inv.steps hC hB hg h0 bj.length (Nat.le_refl _)).2 hnp⟩
 |j+1=>by
  obtain⟨⟨level,path,h⟩,_⟩:=Inv.Qg2 hC hB hg h0 j;obtain⟨⟨l',p',h'⟩,_⟩:=Inv.steps hC hB hg ⟨level,path,h⟩ bj.length (Nat.le_refl _);have Qkh:∃level path,Inv lk np C t0 bj (j+1+1) 0 (iter lk bj s (j+1)) level path:=by
   refine⟨l',p',h'.len,h'.nodup,h'.head,h'.elems,h'.QiZ,h'.val,fun a ha hl=>?_,fun i a hi=>absurd hi (by omega)⟩
   obtain⟨i,hi⟩:=List.getElem?_of_mem ha;exact h'.r2 i a (List.getElem?_eq_some_iff.1 hi).1 hi (by omega)
  exact⟨Qkh,fun hnp=>(Inv.steps hC hB hg Qkh bj.length (Nat.le_refl _)).2 hnp⟩
end
theorem Qm3{np:Nat}{B:Int}{a:aw}(h:Hh np a):X2 np B 73728 a:=
 ⟨h.Vc,h.Vd,h.to0,h.to1,fun t _ _=>NG h t,fun t h0 _=>QbO h h0⟩
def use(lk:Int)(s:List Int)(a:aw):Prop:=a.aj=lk∧0≤di s a.aE.toNat∧(di s a.dE.toNat<0∨zN a (di s a.aE.toNat)<di s a.dE.toNat)
instance(lk:Int)(s:List Int)(a:aw):Decidable (use lk s a):=inferInstanceAs (Decidable (_∧_∧_))
theorem BG{lk:Int}{s:List Int}{a:aw}(h:use lk s a):DL lk s a=s.set a.dE.toNat (zN a (di s a.aE.toNat)):=if_pos h
theorem vn{lk:Int}{s:List Int}{a:aw}(h:¬use lk s a):DL lk s a=s:=if_neg h
theorem K5{lk:Int}{s:List Int}{a:aw}:(DL lk s a).length=s.length:=by unfold DL;split <;> simp
theorem Qo{lk:Int}{bj:List aw}{s:List Int}{k:Nat}:(mF lk bj s k).length=s.length:=by
 unfold mF;generalize bj.take k=l;induction l generalizing s with
 |nil=>rfl
 |cons a l ih=>rw[List.foldl_cons,ih,K5]
theorem Qhr{lk:Int}{s:List Int}{a:aw}{np:Nat}(hl:s.length=np)(ha:Hh np a)(h:use lk s a):DL lk s a≠s:=fun e=>by
 rw[BG h]at e;have h1:=Wm (s:=s) (d:=a.dE.toNat) (v:=a.dE.toNat) (x:=zN a (di s a.aE.toNat)) (by have:=ha.to0;have:=ha.to1;omega)
 rw[if_pos rfl,e]at h1;have h2:=NG ha (di s a.aE.toNat);obtain⟨_,h3,h4⟩:=h;omega
theorem wg{s:List Int}{i:Int}(h0:0≤i)(h1:i<s.length):bq s i=some (di s i.toNat):=by
 rw[Dg h0 h1];unfold di;rw[List.getD_eq_getElem?_getD,List.getElem?_eq_getElem];rfl
def Mt(lk:Int)(bj:List aw)(s:List Int):Nat→Bool
 |0=>false
 |k+1=>Mt lk bj s k||(match bj[k]? with
  |some a=>decide (use lk (mF lk bj s k) a)
  |none=>false)
theorem Ri{lk:Int}{bj:List aw}{s:List Int}:∀k,Mt lk bj s k=false→mF lk bj s k=s
 |0,_=>rfl
 |k+1,h=>by
  simp only[Mt,Ql]at h;have ih:=Ri k h.1;cases ha:bj[k]? with
  |none =>
   unfold mF at ih ⊢;rw[List.take_of_length_le (by have:=List.getElem?_eq_none_iff.1 ha;omega)]at ih ⊢
   exact ih
  |some a =>
   have h2:=h.2;rw[ha]at h2;rw[zC ha,vn (of_decide_eq_false h2),ih]
theorem V_{lk:Int}{bj:List aw}{s:List Int}{np:Nat}(hl:s.length=np)(mA:∀a∈bj,Hh np a):∀k,(∀j,j≤k→mF lk bj s j=s)→Mt lk bj s k=false
 |0,_=>rfl
 |k+1,h=>by
  simp only[Mt,Ql];refine⟨V_ hl mA k fun j hj=>h j (by omega),?_⟩
  cases ha:bj[k]? with
  |none=>rfl
  |some a =>
   refine decide_eq_false fun hu=>?_
   have h1:=h (k+1) (by omega)
   have h2:=h k (by omega)
   rw[zC ha,h2]at h1;rw[h2]at hu;exact Qhr hl (mA a (List.mem_of_getElem? ha)) hu h1
section
variable {n : ak} {aj aE t : Int}
def aH(np:Nat)(aE t:Int):List Int:=(List.replicate np (-1)).set aE.toNat t
theorem Pm{np v:Nat}(h0:0≤aE)(h1:aE<np):di (aH np aE t) v=if v=aE.toNat then t else -1:=by
 unfold aH;rw[Wm (by simp;omega)]
 congr 1;unfold di;rw[List.getD_eq_getElem?_getD,List.getElem?_replicate];split <;> rfl
theorem QeE{bj:List aw}{np:Nat}(h0:0≤aE)(h1:aE<np)(ht:0≤t):∃level path,Inv aj np 73728 t bj 1 0 (aH np aE t) level path:=by
 have key:∀v,0≤di (aH np aE t) v→v=aE.toNat∧di (aH np aE t) v=t:=fun v hv=>by
  rw[Pm h0 h1]at hv ⊢;split at hv
  ·rename_i h;exact⟨h,by rw[if_pos h]⟩
  ·omega
 refine⟨fun _=>0,fun v=>[v],by simp [aH],fun v _=>by simp,fun v _=>by simp,fun v hv u hu=>?_,fun v _=>by simp,fun v hv=>?_,fun a _ h=>by omega,fun i a h=>by omega⟩
 ·simp only[List.mem_singleton]at hu;subst hu;have:=(key u hv).1;exact⟨by omega,hv,Int.le_refl _⟩
 ·rw[(key v hv).2];simp
theorem K3(mA:tj n)(h0:0≤aE)(h1:aE<n.aD.length)(ht:0≤t)(QZ:t≤1048576)(j k:Nat)(hk:k≤n.bj.length):
  (∀v,0≤di (mF aj n.bj (iter aj n.bj (aH n.aD.length aE t) j) k) v→NA (di (mF aj n.bj (iter aj n.bj (aH n.aD.length aE t) j) k) v))∧
  (n.aD.length≤j+1→mF aj n.bj (iter aj n.bj (aH n.aD.length aE t) j) k=iter aj n.bj (aH n.aD.length aE t) j):=by
 have hg:∀a∈n.bj,X2 n.aD.length 1073741824 73728 a:=fun a ha=>Qm3 (mA.all a ha)
 have hp:=mA.aD;have hB:t+73728*(n.aD.length:Int)≤1073741824:=by omega
 obtain⟨hI,_⟩:=Inv.Qg2 (lk:=aj) (by omega) hB hg (QeE (aj:=aj) (bj:=n.bj) h0 h1 ht) j
 obtain⟨⟨level,path,h⟩,Qll⟩:=Inv.steps (by omega) hB hg hI k hk
 refine⟨fun v hv=>⟨hv,?_⟩,Qll⟩
 have h2:=h.val v hv;have h3:=h.Qon hv;have:73728*((path v).length:Int)≤73728*(n.aD.length:Int):=by omega
 omega
theorem Jp{bj:List aw}{s:List Int}:∀j,(iter aj bj s j).length=s.length
 |0=>rfl
 |j+1=>by show(mF _ _ _ _).length=_;rw[Qo,Jp j]
theorem Y0{bj:List aw}{s:List Int}{j:Nat}(h:pass aj bj (iter aj bj s j)=iter aj bj s j):∀d,iter aj bj s (j+d)=iter aj bj s j
 |0=>rfl
 |d+1=>by show pass aj bj (iter aj bj s (j+d))=_;rw[Y0 h d,h]
theorem Qg7{s:List Int}(mA:tj n)(hl:s.length=n.aD.length)(hT:∀k,k≤n.bj.length→∀v,0≤di (mF aj n.bj s k) v→NA (di (mF aj n.bj s k) v))(r:Int):
  aK (fun x=>hY n aj aE r x.1 x.2) (s,0)=some (pass aj n.bj s):=by
 have hal:=mA.bj;refine dj (B:=fun x:List Int×Int=>hY n aj aE r x.1 x.2) n.bj.length (fun i=>(mF aj n.bj s i,(i:Int))) (by omega) (fun i hi=>?_) ?_
 ·have e1:n.bj[i]?=some n.bj[i]:=List.getElem?_eq_getElem hi;have ha:=mA.all _ (List.getElem_mem hi);show hY n aj aE r (mF aj n.bj s i) (i:Int)=some (.inl (mF aj n.bj s (i+1),((i+1:Nat):Int)));rw[zC e1];unfold hY;rw[bl (by simp [aC];exact hi),bt e1,ai,inc (n:=n.bj.length) hi (by omega)]
  have hv:=hT i (by omega)
  generalize n.bj[i]=a at *;have hlen:(mF aj n.bj s i).length=n.aD.length:=by rw[Qo,hl]
  generalize mF aj n.bj s i=u at *;have g1:=wg (s:=u) ha.Vc (by rw[hlen];exact ha.Vd)
  have g2:=wg (s:=u) ha.to0 (by rw[hlen];exact ha.to1)
  have YU:((i+1:Nat):Int)=(i:Int)+1:=by omega
  rw[YU];by_cases c1:a.aj=aj
  ·rw[bl (by simpa using c1),g1,ai]
   by_cases c2:0≤di u a.aE.toNat
   ·rw[bl (by simpa using c2),Hv ha (hv _ c2),ai,g2,ai]
    by_cases c3:di u a.dE.toNat<0
    ·rw[bl (by simpa using c3),BG ⟨c1,c2,.inl c3⟩];rfl
    ·rw[a_ (by simpa using c3)]
     by_cases c4:zN a (di u a.aE.toNat)<di u a.dE.toNat
     ·rw[bl (by simpa using c4),BG ⟨c1,c2,.inr c4⟩];rfl
     ·rw[a_ (by simpa using c4),vn (fun h=>by rcases h.2.2 with h|h;exact c3 h;exact c4 h)]
   ·rw[a_ (by simpa using c2),vn (fun h=>c2 h.2.1)]
  ·rw[a_ (by simpa using c1),vn (fun h=>c1 h.1)]
 ·show hY n aj aE r _ (n.bj.length:Int)=_;unfold hY;rw[a_ (by simp [aC])]
  rfl
theorem Qem{s l0:List Int}(mA:tj n)(hl:s.length=n.aD.length)(hT:∀k,k≤n.bj.length→∀v,0≤di (mF aj n.bj s k) v→NA (di (mF aj n.bj s k) v)):
  aK (fun x=>gL n aj aE l0 x.1 x.2.1 x.2.2) (s,false,0)=some (pass aj n.bj s,Mt aj n.bj s n.bj.length):=by
 have hal:=mA.bj;refine dj (B:=fun x:List Int×Bool×Int=>gL n aj aE l0 x.1 x.2.1 x.2.2) n.bj.length (fun i=>(mF aj n.bj s i,Mt aj n.bj s i,(i:Int))) (by omega) (fun i hi=>?_) ?_
 ·have e1:n.bj[i]?=some n.bj[i]:=List.getElem?_eq_getElem hi;have ha:=mA.all _ (List.getElem_mem hi);show gL n aj aE l0 (mF aj n.bj s i) (Mt aj n.bj s i) (i:Int)=some (.inl (mF aj n.bj s (i+1),Mt aj n.bj s i||(match n.bj[i]? with
   |some a=>decide (use aj (mF aj n.bj s i) a)
   |none=>false),((i+1:Nat):Int)))
  rw[zC e1];unfold gL;rw[bl (by simp [aC];exact hi),bt e1,ai,inc (n:=n.bj.length) hi (by omega),e1]
  simp only;have hv:=hT i (by omega)
  generalize n.bj[i]=a at *;have hlen:(mF aj n.bj s i).length=n.aD.length:=by rw[Qo,hl]
  generalize mF aj n.bj s i=u at *;generalize Mt aj n.bj s i=b;have g1:=wg (s:=u) ha.Vc (by rw[hlen];exact ha.Vd)
  have g2:=wg (s:=u) ha.to0 (by rw[hlen];exact ha.to1)
  have YU:((i+1:Nat):Int)=(i:Int)+1:=by omega
  rw[YU,Cq,ai,Cq,ai,bl (show f_ n a.aE=true from decide_eq_true ⟨ha.Vc,ha.Vd⟩),bl (show f_ n a.dE=true from decide_eq_true ⟨ha.to0,ha.to1⟩)];have yes:use aj u a→(decide (use aj u a))=true:=decide_eq_true;have no:¬use aj u a→(decide (use aj u a))=false:=decide_eq_false;by_cases c1:a.aj=aj
  ·rw[a_ (by simpa using c1),g1,ai]
   by_cases c2:0≤di u a.aE.toNat
   ·rw[a_ (by simpa using c2),Sg ha (hv _ c2),ai,g2,ai]
    by_cases c3:di u a.dE.toNat<0
    ·rw[bl (by simpa using c3),BG ⟨c1,c2,.inl c3⟩,yes ⟨c1,c2,.inl c3⟩,Bool.or_true];rfl
    ·rw[a_ (by simpa using c3)]
     by_cases c4:zN a (di u a.aE.toNat)<di u a.dE.toNat
     ·rw[bl (by simpa using c4),BG ⟨c1,c2,.inr c4⟩,yes ⟨c1,c2,.inr c4⟩,Bool.or_true];rfl
     ·have hn:¬use aj u a:=fun h=>by rcases h.2.2 with h|h;exact c3 h;exact c4 h
      rw[a_ (by simpa using c4),vn hn,no hn,Bool.or_false]
   ·have hn:¬use aj u a:=fun h=>c2 h.2.1
    rw[bl (by simpa using c2),vn hn,no hn,Bool.or_false]
  ·have hn:¬use aj u a:=fun h=>c1 h.1
   rw[bl (by simpa using c1),vn hn,no hn,Bool.or_false]
 ·show gL n aj aE l0 _ _ (n.bj.length:Int)=_;unfold gL;rw[a_ (by simp [aC])]
  rfl
theorem QiX{S E:Type}{B:S→Option (S⊕E)}(C:Nat→S→Prop)(Q:E→Prop)
  (h:∀m s,C m s→post (B s) fun x=>(∀s',x=.inl s'→∃m',m'<m∧C m' s')∧∀e,x=.inr e→Q e):∀(n m:Nat) (s:S),C m s→m<n→post (uh B n s) Q:=by
 intro n;induction n with
 |zero=>intro m s _ hm;omega
 |succ n ih =>
  intro m s hs hm;obtain⟨x,hx,h1,h2⟩:=h m s hs;simp only[uh,hx];cases x with
  |inl s' =>
   obtain⟨m',h3,h4⟩:=h1 s' rfl;exact ih m' s' h4 (by omega)
  |inr e=>exact⟨e,rfl,h2 e rfl⟩
theorem Zl{S E:Type}{B:S→Option (S⊕E)}(C:Nat→S→Prop){Q:E→Prop}{s:S}(m:Nat)(hs:C m s)(hm:m<18446744073709551616)
  (h:∀m s,C m s→post (B s) fun x=>(∀s',x=.inl s'→∃m',m'<m∧C m' s')∧∀e,x=.inr e→Q e):post (aK B s) Q:=QiX C Q h _ m s hs hm
def sF(n:ak)(aj aE t:Int):List Int:=
 if f_ n aE=true then iter aj n.bj (aH n.aD.length aE t) n.aD.length else List.replicate n.aD.length (-1)
theorem all_none{bj:List aw}(np k:Nat):mF aj bj (List.replicate np (-1)) k=List.replicate np (-1):=by
 unfold mF;generalize bj.take k=l;induction l with
 |nil=>rfl
 |cons a l ih =>
  rw[List.foldl_cons,vn,ih];intro h;have h1:=h.2.1;unfold di at h1;rw[List.getD_eq_getElem?_getD,List.getElem?_replicate]at h1;split at h1 <;> simp at h1
theorem X6(np v:Nat):di (List.replicate np (-1)) v=-1:=by
 unfold di;rw[List.getD_eq_getElem?_getD,List.getElem?_replicate];split <;> rfl
theorem QT(mA:tj n)(ht:0≤t)(QZ:t≤1048576):pt n aj aE t=some (sF n aj aE t):=by
 have hp:=mA.aD;unfold pt;rw[show KY (aC n.aD) (aC n.aD) 8 (0:Int)=some (List.replicate n.aD.length 0) by unfold KY aC;rw[if_pos (by omega)];simp,ai]
 have l1:aK (fun s=>gK n aj aE t (List.replicate n.aD.length 0) s.1 s.2) (List.replicate n.aD.length 0,0)=some (List.replicate n.aD.length (-1)):=by
  have:=dj (B:=fun s:List Int×Int=>gK n aj aE t (List.replicate n.aD.length 0) s.1 s.2) (e:=List.replicate n.aD.length (-1)) n.aD.length (fun i=>(List.replicate i (-1)++List.replicate (n.aD.length-i) 0,(i:Int))) (by omega) (fun i hi=>?_) ?_
  ·simpa using this
  ·show gK n aj aE t _ (List.replicate i (-1)++List.replicate (n.aD.length-i) 0) (i:Int)=some (.inl (List.replicate (i+1) (-1)++List.replicate (n.aD.length-(i+1)) 0,((i+1:Nat):Int)));unfold gK;have hd:List.replicate (n.aD.length-i) (0:Int)=0 ::List.replicate (n.aD.length-(i+1)) 0:=by
    rw[show n.aD.length-i=(n.aD.length-(i+1))+1 by omega];rfl
   have hl:(List.replicate i (-1:Int)).length=i:=by simp
   have e1:(List.replicate i (-1:Int)++List.replicate (n.aD.length-i) 0)[i]?=some 0:=by rw[List.getElem?_append_right (by omega),hl,Nat.sub_self,hd];rfl
   rw[bl (by simp [aC];exact hi),bt e1,ai,inc (n:=n.aD.length) hi (by omega)]
   unfold gZ;rw[Int.toNat_natCast,List.set_append_right _ _ (by omega),hl,Nat.sub_self,hd,List.set_cons_zero,List.replicate_succ' (n:=i)]
   simp
  ·show gK n aj aE t _ _ (n.aD.length:Int)=_;unfold gK;rw[a_ (by simp [aC])]
   simp
 rw[l1,ai,Cq,ai];unfold sF;by_cases hf:f_ n aE=true
 ·rw[if_pos hf,bl hf];obtain⟨h0,h1⟩:=of_decide_eq_true hf;rw[wg h0 (by simpa using h1),ai]
  apply post.eq;refine tW ?_
  have nr:gZ (List.replicate n.aD.length (-1)) aE t=aH n.aD.length aE t:=rfl;rw[nr];have hlen:∀j,(iter aj n.bj (aH n.aD.length aE t) j).length=n.aD.length:=fun j=>by rw[Jp];simp [aH]
  refine Zl (fun m s=>∃j:Nat,j≤n.aD.length∧s.1=iter aj n.bj (aH n.aD.length aE t) j∧(s.2=true→j<n.aD.length)∧(s.2=false→pass aj n.bj s.1=s.1)∧m=(n.aD.length-j)+(if s.2=true then 1 else 0)) (n.aD.length+1)
   ⟨0,Nat.zero_le _,rfl,fun _=>by omega,fun h=>by(cases h),by simp⟩ (by omega) ?_
  rintro m ⟨l,b⟩ ⟨j,hj,hl,hb,WH,hm⟩;simp only at hl hb WH hm;subst hl;show post (oh n aj aE _ _ b) _;unfold oh;have hpk:=K3 (aj:=aj) (t:=t) mA h0 h1 ht QZ j;cases b with
  |true =>
   have Vk:=hb rfl;rw[dc,Qem mA (hlen j) (fun k hk=>(hpk k hk).1),ai]
   refine⟨_,rfl,fun s' hs=>?_,fun _ h=>by cases h⟩
   cases hs;refine⟨_,?_,j+1,by omega,rfl,fun hu=>?_,fun hu=>?_,rfl⟩
   ·rw[hm];simp only[if_true];split <;> omega
   ·rcases Nat.lt_or_ge (j+1) n.aD.length with h|h
    ·exact h
    ·exfalso;have h2:=V_ (lk:=aj) (hlen j) mA.all n.bj.length (fun i hi=>(hpk i hi).2 h)
     simp only at hu;rw[h2]at hu;cases hu
   ·have h2:=Ri _ hu;have h3:pass aj n.bj (iter aj n.bj (aH n.aD.length aE t) j)=iter aj n.bj (aH n.aD.length aE t) j:=h2;simp only;rw[h3,h3]
  |false =>
   refine ef ?_
   have h2:=Y0 (WH rfl) (n.aD.length-j);rw[show j+(n.aD.length-j)=n.aD.length by omega]at h2
   show post (some (iter aj n.bj (aH n.aD.length aE t) j)) _;rw[h2];exact bg.2 rfl
 ·rw[if_neg hf,a_ (by simpa using hf)]
theorem AA(mA:tj n)(ht:0≤t)(QZ:t≤1048576):rD n aj aE t=some (sF n aj aE t):=by
 have hp:=mA.aD;unfold rD;have l1:aK (fun s=>hU n aj aE t s.1 s.2) ([],0)=some (if f_ n aE=true then aH n.aD.length aE t else List.replicate n.aD.length (-1)):=by
  let f:Nat→Int:=fun v=>if(v:Int)=aE then t else -1
  have:=dj (B:=fun s:List Int×Int=>hU n aj aE t s.1 s.2) (e:=(List.range n.aD.length).map f) n.aD.length (fun i=>((List.range i).map f,(i:Int))) (by omega) (fun i hi=>?_) ?_
  ·rw[show([]:List Int)=(List.range 0).map f from rfl,show(0:Int)=((0:Nat):Int)from rfl,this];congr 1;apply List.ext_getElem?;intro v;by_cases hv:v<n.aD.length
   ·rw[List.getElem?_map,List.getElem?_range hv];show some (f v)=_;by_cases hf:f_ n aE=true
    ·obtain⟨h0,h1⟩:=of_decide_eq_true hf;rw[if_pos hf];unfold aH;rw[List.getElem?_set];by_cases hc:(v:Int)=aE
     ·rw[if_pos (by omega),if_pos (by simp;omega)];simp [f,hc]
     ·rw[if_neg (by omega),List.getElem?_replicate,if_pos hv];simp [f,hc]
    ·rw[if_neg hf,List.getElem?_replicate,if_pos hv];have hc:(v:Int)≠aE:=fun h=>hf (decide_eq_true ⟨by omega,by omega⟩)
     simp [f,hc]
   ·rw[List.getElem?_eq_none (by simp;omega),List.getElem?_eq_none]
    split
    ·simp [aH];omega
    ·simp;omega
  ·show hU n aj aE t ((List.range i).map f) (i:Int)=some (.inl ((List.range (i+1)).map f,((i+1:Nat):Int)));unfold hU;rw[bl (by simp [aC];exact hi),inc (n:=n.aD.length) hi (by omega),List.range_succ,List.map_append]
   by_cases hc:(i:Int)=aE
   ·rw[bl (by simpa using hc),ch (cW (by simp;omega))]
    simp [f,hc]
   ·rw[a_ (by simpa using hc),ch (cW (by simp;omega))]
    simp [f,hc]
  ·show hU n aj aE t _ (n.aD.length:Int)=_;unfold hU;rw[a_ (by simp [aC])]
 rw[l1,ai];have key:∀s0:List Int,s0.length=n.aD.length→(∀j k,k≤n.bj.length→∀v,0≤di (mF aj n.bj (iter aj n.bj s0 j) k) v→NA (di (mF aj n.bj (iter aj n.bj s0 j) k) v))→
   aK (fun s=>hX n aj aE s.1 s.2) (s0,0)=some (iter aj n.bj s0 n.aD.length):=by
  intro s0 hl hT;refine dj (B:=fun s:List Int×Int=>hX n aj aE s.1 s.2) n.aD.length (fun i=>(iter aj n.bj s0 i,(i:Int))) (by omega) (fun i hi=>?_) ?_
  ·show hX n aj aE (iter aj n.bj s0 i) (i:Int)=some (.inl (iter aj n.bj s0 (i+1),((i+1:Nat):Int)));unfold hX;rw[bl (by simp [aC];exact hi),Qg7 mA (by rw[Jp];exact hl) (fun k hk=>hT i k hk),ai,inc (n:=n.aD.length) hi (by omega)]
   rfl
  ·show hX n aj aE _ (n.aD.length:Int)=_;unfold hX;rw[a_ (by simp [aC])]
 unfold sF;by_cases hf:f_ n aE=true
 ·obtain⟨h0,h1⟩:=of_decide_eq_true hf;rw[if_pos hf,if_pos hf,key _ (by simp [aH]) (fun j k hk=>(K3 mA h0 h1 ht QZ j k hk).1),ai]
 ·have hit:∀j,iter aj n.bj (List.replicate n.aD.length (-1)) j=List.replicate n.aD.length (-1):=fun j=>by
   induction j with
   |zero=>rfl
   |succ j ih=>show mF _ _ (iter _ _ _ j) _=_;rw[ih,all_none]
  rw[if_neg hf,if_neg hf,key _ (by simp) (fun j k hk v hv=>by rw[hit,all_none,X6]at hv;omega),hit,ai]
end
def rA(b:List Bool):Nat:=b.foldl (fun v c=>2*v+(if c=true then 1 else 0)) 0
theorem BH(b:List Bool)(c:Bool):rA (b++[c])=2*rA b+(if c=true then 1 else 0):=by simp [rA,List.foldl_append]
theorem QjJ(b:List Bool):rA b<2 ^ b.length:=by
 have:∀(b:List Bool) (v:Nat),b.foldl (fun v c=>2*v+(if c=true then 1 else 0)) v<(v+1)*2 ^ b.length:=by
  intro b;induction b with
  |nil=>intro v;simp
  |cons c b ih =>
   intro v;have:=ih (2*v+(if c=true then 1 else 0))
   rw[List.foldl_cons,List.length_cons,Nat.pow_succ];refine Nat.lt_of_lt_of_le this ?_
   rw[show(v+1)*(2 ^ b.length*2)=(2*v+2)*2 ^ b.length by rw[Nat.mul_comm (2 ^ b.length) 2,←Nat.mul_assoc];congr 1;omega]
   exact Nat.mul_le_mul_right _ (by split <;> omega)
 simpa [rA]using this b 0
section
variable (n : ak) (t : ag) (aG : List aM) (aH : Int)
def preB(b:List Bool):au×Int:=runK n t aG b 0 (uA t aH)
def okB(b:List Bool):Prop:=(preB n t aG aH b).2=0
def pL(b:List Bool):au:=(preB n t aG aH b).1
def C_(d b:List Bool):Prop:=(pL n t aG aH d).ready=(pL n t aG aH b).ready∧(pL n t aG aH d).gw≤(pL n t aG aH b).gw
open Classical in
def q9(out:List (List Bool))(b:List Bool):List (List Bool):=if okB n t aG aH b∧¬∃d∈out,C_ n t aG aH d b then out++[b]else out
end
section
variable {n : ak} {t : ag} {aG : List aM} {aH : Int}
theorem K6:∀(b:List Bool) (k:Nat) (l:au) (c:Bool),(runK n t aG b k l).2=0→runK n t aG (b++[c]) k l=if(wI n t aG (runK n t aG b k l).1 (k+b.length) c).2≠0 then(XJ,(wI n t aG (runK n t aG b k l).1 (k+b.length) c).2)else((wI n t aG (runK n t aG b k l).1 (k+b.length) c).1,0)
 | [],k,l,c,_=>rfl
 |a ::b,k,l,c,h=>by
  by_cases h0:(wI n t aG l k a).2=0
  ·have e:∀r,runK n t aG (a ::r) k l=runK n t aG r (k+1) (wI n t aG l k a).1:=fun r=>by
    simp only[runK];rw[if_neg (by simpa using h0)]
   rw[e]at h;have:=K6 b (k+1) _ c h;rw[List.cons_append,e,e,this,List.length_cons,show k+1+b.length=k+(b.length+1) by omega]
  ·simp only[runK]at h;rw[if_pos h0]at h;exact absurd h h0
theorem Zy:∀(b:List Bool) (k:Nat) (l:au) (c:Bool),(runK n t aG b k l).2≠0→(runK n t aG (b++[c]) k l).2≠0
 | [],k,l,c,h=>by simp [runK]at h
 |a ::b,k,l,c,h=>by
  simp only[runK,List.cons_append]at h ⊢;by_cases h0:(wI n t aG l k a).2=0
  ·rw[if_neg (by simpa using h0)]at h ⊢
   exact Zy b (k+1) _ c h
  ·rw[if_pos h0];exact h0
theorem yA{b:List Bool}{c:Bool}:okB n t aG aH (b++[c])↔okB n t aG aH b∧(wI n t aG (pL n t aG aH b) b.length c).2=0:=by
 unfold okB pL preB;constructor
 ·intro h;by_cases h0:(runK n t aG b 0 (uA t aH)).2=0
  ·refine⟨h0,?_⟩;rw[K6 b 0 _ c h0,Nat.zero_add]at h;split at h
   ·rename_i h1;exact absurd h h1
   ·rename_i h1;simpa using h1
  ·exact absurd h (Zy b 0 _ c h0)
 ·rintro⟨h0,h1⟩;rw[K6 b 0 _ c h0,Nat.zero_add,if_neg (by simpa using h1)]
theorem Js{b:List Bool}{c:Bool}(h:okB n t aG aH (b++[c])):pL n t aG aH (b++[c])=(wI n t aG (pL n t aG aH b) b.length c).1:=by
 obtain⟨h0,h1⟩:=yA.1 h;unfold pL preB at *;unfold okB preB at h0;rw[K6 b 0 _ c h0,Nat.zero_add,if_neg (by simpa using h1)]
theorem VY(hT:qk n t aG):∀(b:List Bool) (k:Nat) (l:au),Ew k l→k+b.length≤aG.length→(runK n t aG b k l).2=0→Ew (k+b.length) (runK n t aG b k l).1
 | [],k,l,hl,_,_=>hl
 |a ::b,k,l,hl,hk,h=>by
  simp only[runK]at h ⊢;simp only[List.length_cons]at hk;by_cases h0:(wI n t aG l k a).2=0
  ·rw[if_neg (by simpa using h0)]at h ⊢
   have:=VY hT b (k+1) _ (ON hT hl (by omega) h0) (by omega) h
   rwa [List.length_cons,show k+(b.length+1)=k+1+b.length by omega]
  ·rw[if_pos h0]at h;exact absurd h h0
theorem Oo(hT:qk n t aG)(hs:0≤aH∧aH≤4096){b:List Bool}(hb:b.length≤aG.length)(h:okB n t aG aH b):Ew b.length (pL n t aG aH b):=by
 have:=VY hT b 0 (uA t aH) (RT hT hs) (by omega) h
 rwa [Nat.zero_add]at this
theorem Qi_(hT:qk n t aG){k:Nat}{l m:au}{c:Bool}(hl:Ew k l)(hm:Ew k m)(h1:l.ready=m.ready)(h2:l.gw≤m.gw)(h:(wI n t aG m k c).2=0):
  (wI n t aG l k c).2=0∧(wI n t aG l k c).1.ready=(wI n t aG m k c).1.ready∧(wI n t aG l k c).1.gw≤(wI n t aG m k c).1.gw:=by
 obtain⟨g0,g1,g2,g3⟩:=Ei hT hm h;have hd:jh t l c=jh t m c:=by unfold jh;rw[h1]
 have hs:uY l c≤uY m c:=by unfold uY;split <;> omega
 have h0:(wI n t aG l k c).2=0:=by
  unfold wI W4;rw[hd,if_neg (by simpa using g0),if_neg (by omega),if_neg (by omega)]
 obtain⟨_,_,_,k3⟩:=Ei hT hl h0;refine⟨h0,?_,?_⟩
 ·rw[k3,g3,hd]
 ·rw[k3,g3,hd];show uY l c+_-_≤uY m c+_-_;omega
theorem Qdp(hT:qk n t aG)(hs:0≤aH∧aH≤4096){a b:List Bool}{c:Bool}(hl:a.length=b.length)(hb:b.length≤aG.length)(ha:okB n t aG aH a)(h:okB n t aG aH (b++[c]))(T4:C_ n t aG aH a b):
  okB n t aG aH (a++[c])∧C_ n t aG aH (a++[c]) (b++[c]):=by
 obtain⟨h0,h1⟩:=yA.1 h;have la:=Oo hT hs (by omega) ha
 have lb:=Oo hT hs hb h0;rw[hl]at la;obtain⟨d1,d2,d3⟩:=Qi_ hT la lb T4.1 T4.2 h1;have ho:okB n t aG aH (a++[c]):=yA.2 ⟨ha,by rw[hl];exact d1⟩
 refine⟨ho,?_⟩;unfold C_;rw[Js ho,Js h,hl];exact⟨d2,d3⟩
theorem UP{a:List Bool}:C_ n t aG aH a a:=⟨rfl,Int.le_refl _⟩
theorem Qaj{a b c:List Bool}(h:C_ n t aG aH a b)(h':C_ n t aG aH b c):C_ n t aG aH a c:=⟨h.1.trans h'.1,Int.le_trans h.2 h'.2⟩
theorem WC:∀(items out:List (List Bool)),(∀b∈out,okB n t aG aH b)→out.Pairwise (fun a b=>rA a<rA b)→items.Pairwise (fun a b=>rA a<rA b)→(∀a∈out,∀b∈items,rA a<rA b)→
  (∀b∈items.foldl (q9 n t aG aH) out,okB n t aG aH b∧(b∈out∨b∈items))∧(items.foldl (q9 n t aG aH) out).Pairwise (fun a b=>rA a<rA b)∧(∀b∈out,b∈items.foldl (q9 n t aG aH) out)∧
  (∀b∈items,okB n t aG aH b→∃d∈items.foldl (q9 n t aG aH) out,rA d≤rA b∧C_ n t aG aH d b)
 | [],out,h1,h2,_,_=>⟨fun b hb=>⟨h1 b hb,.inl hb⟩,h2,fun b hb=>hb,fun b hb=>by simp at hb⟩
 |x ::items,out,h1,h2,h3,h4=>by
  rw[List.pairwise_cons]at h3;rw[List.foldl_cons];by_cases hx:okB n t aG aH x∧¬∃d∈out,C_ n t aG aH d x
  ·have nr:q9 n t aG aH out x=out++[x]:=if_pos hx;rw[nr];have key:=WC items (out++[x]) (fun b hb=>by
    rcases List.mem_append.1 hb with h|h
    ·exact h1 b h
    ·rw[List.mem_singleton.1 h];exact hx.1) (by
    rw[List.pairwise_append];exact⟨h2,List.pairwise_singleton _ _,fun a ha b hb=>by rw[List.mem_singleton.1 hb];exact h4 a ha x (by simp)⟩) h3.2 (fun a ha b hb=>by
    rcases List.mem_append.1 ha with h|h
    ·exact h4 a h b (by simp [hb])
    ·rw[List.mem_singleton.1 h];exact h3.1 b hb)
   obtain⟨k1,k2,k3,k4⟩:=key;refine⟨fun b hb=>⟨(k1 b hb).1,?_⟩,k2,fun b hb=>k3 b (by simp [hb]),fun b hb mA=>?_⟩
   ·rcases(k1 b hb).2 with h|h
    ·rcases List.mem_append.1 h with h'|h'
     ·exact .inl h'
     ·rw[List.mem_singleton.1 h'];exact .inr (by simp)
    ·exact .inr (by simp [h])
   ·rcases List.mem_cons.1 hb with rfl|hb
    ·exact⟨b,k3 b (by simp),Nat.le_refl _,UP⟩
    ·exact k4 b hb mA
  ·have nr:q9 n t aG aH out x=out:=if_neg hx;rw[nr];obtain⟨k1,k2,k3,k4⟩:=WC items out h1 h2 h3.2 (fun a ha b hb=>h4 a ha b (by simp [hb]))
   refine⟨fun b hb=>⟨(k1 b hb).1,?_⟩,k2,k3,fun b hb mA=>?_⟩
   ·rcases(k1 b hb).2 with h|h
    ·exact .inl h
    ·exact .inr (by simp [h])
   ·rcases List.mem_cons.1 hb with rfl|hb
    ·obtain⟨d,hd,T4⟩:∃d∈out,C_ n t aG aH d b:=Classical.byContradiction fun h=>hx ⟨mA,h⟩
     exact⟨d,k3 d hd,Nat.le_of_lt (h4 d hd b (by simp)),T4⟩
    ·exact k4 b hb mA
end
section
variable (aP : List Bool)
def EF(k:Nat):List Bool:=match aP[k]? with
 |some b=>[b]
 |none=>[false,true]
def YF(b:List Bool):Prop:=∀i x,b[i]?=some x→x∈EF aP i
def D2(P:List (List Bool))(k:Nat):List (List Bool):=P.flatMap fun a=>(EF aP k).map fun c=>a++[c]
end
section
variable {n : ak} {t : ag} {aG : List aM} {aH : Int} {aP : List Bool}
structure StB (n:ak) (t:ag) (aG:List aM) (aH:Int) (aP:List Bool) (k:Nat) (P:List (List Bool)):Prop where
 ok:∀b∈P,okB n t aG aH b∧b.length=k∧YF aP b
 inc:P.Pairwise (fun a b=>rA a<rA b)
 cov:∀b,b.length=k→YF aP b→okB n t aG aH b→∃a∈P,rA a≤rA b∧C_ n t aG aH a b
theorem Qh5(k:Nat):(EF aP k).Pairwise (fun a b=>(if a=true then 1 else 0:Nat)<(if b=true then 1 else 0)):=by
 unfold EF;split
 ·exact List.pairwise_singleton _ _
 ·simp
theorem YH{b:List Bool}{c:Bool}:YF aP (b++[c])↔YF aP b∧c∈EF aP b.length:=by
 unfold YF;constructor
 ·intro h;refine⟨fun i x hx=>h i x (by rw[List.getElem?_append_left (List.getElem?_eq_some_iff.1 hx).1];exact hx),h b.length c (by simp)⟩
 ·rintro⟨h1,h2⟩ i x hx;rcases Nat.lt_or_ge i b.length with hi|hi
  ·rw[List.getElem?_append_left hi]at hx;exact h1 i x hx
  ·rw[List.getElem?_append_right hi]at hx;have:i-b.length=0:=by
    have:=(List.getElem?_eq_some_iff.1 hx).1;simp at this;omega
   rw[this]at hx;have Uo:i=b.length:=by omega
   subst Uo;have:c=x:=by simpa using hx
   rw[←this];exact h2
theorem QdZ{P:List (List Bool)}(k:Nat)(h:P.Pairwise (fun a b=>rA a<rA b)):(D2 aP P k).Pairwise (fun a b=>rA a<rA b):=by
 unfold D2;induction P with
 |nil=>simp
 |cons a P ih =>
  rw[List.pairwise_cons]at h;rw[List.flatMap_cons,List.pairwise_append];refine⟨?_,ih h.2,?_⟩
  ·rw[List.pairwise_map];exact(Qh5 (aP:=aP) k).imp fun hab=>by rw[BH,BH];omega
  ·intro x hx y hy;obtain⟨c,_,rfl⟩:=List.mem_map.1 hx;obtain⟨b,hb,hy⟩:=List.mem_flatMap.1 hy;obtain⟨d,_,rfl⟩:=List.mem_map.1 hy;have:=h.1 b hb;rw[BH,BH];split <;> split <;> omega
theorem StB.zero:StB n t aG aH aP 0 [[]]:=
 ⟨fun b hb=>by rw[List.mem_singleton.1 hb];exact⟨rfl,rfl,fun i x hx=>by simp at hx⟩,List.pairwise_singleton _ _,fun b hb _ _=>⟨[],by simp,by rw[List.length_eq_zero_iff.1 hb];exact Nat.le_refl _,by rw[List.length_eq_zero_iff.1 hb];exact UP⟩⟩
theorem StB.next(hT:qk n t aG)(hs:0≤aH∧aH≤4096){k:Nat}{P:List (List Bool)}(h:StB n t aG aH aP k P)(hk:k≤aG.length):StB n t aG aH aP (k+1) ((D2 aP P k).foldl (q9 n t aG aH) []):=by
 obtain⟨k1,k2,k3,k4⟩:=WC (n:=n) (t:=t) (aG:=aG) (aH:=aH) (D2 aP P k) [] (fun b hb=>by simp at hb) List.Pairwise.nil (QdZ k h.inc) (fun a ha=>by simp at ha)
 refine⟨fun b hb=>⟨(k1 b hb).1,?_⟩,k2,fun b hb hf mA=>?_⟩
 ·rcases(k1 b hb).2 with h'|h'
  ·simp at h'
  ·obtain⟨a,ha,hx⟩:=List.mem_flatMap.1 h';obtain⟨c,hc,rfl⟩:=List.mem_map.1 hx;obtain⟨_,q2,q3⟩:=h.ok a ha;exact⟨by simp [q2],YH.2 ⟨q3,by rw[q2];exact hc⟩⟩
 ·obtain⟨b0,c,rfl⟩:∃b0 c,b=b0++[c]:=by
   rcases List.eq_nil_or_concat b with rfl|⟨b0,c,rfl⟩
   ·simp at hb
   ·exact⟨b0,c,by simp⟩
  have hb0:b0.length=k:=by simpa using hb
  obtain⟨f1,f2⟩:=YH.1 hf;obtain⟨o1,o2⟩:=yA.1 mA;obtain⟨a,ha,hv,T4⟩:=h.cov b0 hb0 f1 o1;obtain⟨q1,q2,q3⟩:=h.ok a ha;obtain⟨r1,r2⟩:=Qdp hT hs (by omega) (by omega) q1 mA T4
  have tZ:a++[c]∈D2 aP P k:=List.mem_flatMap.2 ⟨a,ha,List.mem_map.2 ⟨c,by rw[←hb0];exact f2,rfl⟩⟩
  obtain⟨d,hd,hdv,hdb⟩:=k4 _ tZ r1;refine⟨d,hd,?_,Qaj hdb r2⟩;rw[BH]at hdv ⊢;omega
end
theorem Uf{L:List au}{c:au}(hL:L.length≤1048576):post (cP L c) fun b=>(b=true↔∃m∈L,m.ready=c.ready∧m.gw≤c.gw):=by
 unfold cP ez;show post (aS (aS (aK (fun s=>bE L c s) 0) _) _) _
 have h:post (aK (fun s=>bE L c s) 0) fun e=>(∃u,e=.inl u∧¬∃m∈L,m.ready=c.ready∧m.gw≤c.gw)∨(∃i:Nat,e=.inr (i:Int)∧∃m∈L,m.ready=c.ready∧m.gw≤c.gw):=by
  refine BE (B:=fun s=>bE L c s) L.length _ (fun i=>∀m,L[i]?=some m→¬(m.ready=c.ready∧m.gw≤c.gw)) (by omega) (fun i hi=>?_) ?_
  ·show post (bE L c (i:Int)) _;unfold bE;have e1:L[i]?=some L[i]:=List.getElem?_eq_getElem hi;rw[bl (by simp [aC];omega),bt e1,ai,inc hi hL]
   show post (aS (qC L[i] c) _) _;have hb:qC L[i] c=some (bP L[i].ready c.ready&&jD L[i].gw c.gw):=rfl;rw[hb,ai];refine bA (fun h=>bg.2 (.inr ⟨_,rfl,.inr ⟨i,rfl,L[i],List.getElem_mem hi,?_⟩⟩)) (fun h=>bg.2 (.inl ⟨rfl,fun m hm=>?_⟩))
   ·simpa only[BK,pJ,ui]using h
   ·rw[e1]at hm;cases hm;intro hh;have:(bP L[i].ready c.ready&&jD L[i].gw c.gw)=true:=by simp only[BK,pJ,ui];exact hh
    rw[this]at h;cases h
  ·show post (bE L c (L.length:Int)) _;unfold bE;rw[a_ (by simp [aC])]
   refine bg.2 ⟨_,rfl,fun h=>.inl ⟨_,rfl,?_⟩⟩
   rintro⟨m,hm,hh⟩;obtain⟨i,hi⟩:=List.getElem?_of_mem hm;exact h i (List.getElem?_eq_some_iff.1 hi).1 m hi hh
 obtain⟨e,he,h⟩:=h;rw[he,ai];rcases h with⟨u,rfl,h⟩|⟨i,rfl,h⟩
 ·rw[en,ai];refine bg.2 ⟨fun hh=>?_,fun hh=>absurd hh h⟩
  simp only[kP]at hh;omega
 ·rw[q7,ai];refine bg.2 ⟨fun _=>h,fun _=>?_⟩
  simp only[kP];omega
theorem Qcu:∀{P:List (List Bool)} {lo hi:Nat},P.Pairwise (fun a b=>rA a<rA b)→(∀b∈P,lo≤rA b∧rA b<hi)→P.length+lo≤hi∨P=[]
 | [],_,_,_,_=>.inr rfl
 |a ::P,lo,hi,h,hb=>by
  rw[List.pairwise_cons]at h;have ha:=hb a (by simp)
  rcases Qcu (P:=P) (lo:=lo+1) (hi:=hi) h.2 (fun b WH=>⟨by have:=h.1 b WH;omega,(hb b (by simp [WH])).2⟩)with h1|h1
  ·left;simp only[List.length_cons];omega
  ·left;rw[h1];simp only[List.length_singleton];omega
section
variable {n : ak} {t : ag} {aG : List aM} {aH : Int} {aP : List Bool}
theorem StB.len{k:Nat}{P:List (List Bool)}(h:StB n t aG aH aP k P):P.length≤2 ^ k:=by
 rcases Qcu (lo:=0) (hi:=2 ^ k) h.inc (fun b hb=>⟨Nat.zero_le _,by have:=QjJ b;rwa [(h.ok b hb).2.1]at this⟩)with h1|h1
 ·omega
 ·rw[h1];exact Nat.zero_le _
theorem QeH{out:List (List Bool)}{b:List Bool}:(q9 n t aG aH out b).length≤out.length+1:=by unfold q9;split <;> simp
theorem SL:∀{items out:List (List Bool)},(items.foldl (q9 n t aG aH) out).length≤out.length+items.length
 | [],out=>by simp
 |x ::items,out=>by
  rw[List.foldl_cons];have h1:=SL (items:=items) (out:=q9 n t aG aH out x);have h2:=QeH (n:=n) (t:=t) (aG:=aG) (aH:=aH) (out:=out) (b:=x);simp only[List.length_cons];omega
theorem QbS(k:Nat):(EF aP k).length≤2:=by unfold EF;split <;> simp
theorem Qaw{P:List (List Bool)}{k:Nat}{out:List (List Bool)}:(D2 aP P k).foldl (q9 n t aG aH) out=P.foldl (fun out a=>((EF aP k).map fun c=>a++[c]).foldl (q9 n t aG aH) out) out:=by
 unfold D2;induction P generalizing out with
 |nil=>rfl
 |cons a P ih=>rw[List.flatMap_cons,List.foldl_append,ih,List.foldl_cons]
theorem Vb{k:Nat}:∀{P:List (List Bool)} {out:List (List Bool)},(P.foldl (fun out a=>((EF aP k).map fun c=>a++[c]).foldl (q9 n t aG aH) out) out).length≤out.length+2*P.length
 | [],out=>by simp
 |a ::P,out=>by
  rw[List.foldl_cons];have h1:=Vb (k:=k) (P:=P) (out:=((EF aP k).map fun c=>a++[c]).foldl (q9 n t aG aH) out)
  have h2:=SL (n:=n) (t:=t) (aG:=aG) (aH:=aH) (items:=(EF aP k).map fun c=>a++[c]) (out:=out)
  have h3:=QbS (aP:=aP) k;rw[List.length_map]at h2;simp only[List.length_cons];omega
theorem Qio{p:bw}(hT:qk p.x.bG p.t p.aG)(hs:0≤aH∧aH≤4096){k:Nat}{P:List (List Bool)}(hP:StB p.x.bG p.t p.aG aH p.r.aP k P)(hk:k≤p.aG.length)(h9:p.aG.length≤9)(hr:p.r.aP.length≤1048576):
  nO p (P.map (pL p.x.bG p.t p.aG aH)) k=some (((D2 p.r.aP P k).foldl (q9 p.x.bG p.t p.aG aH) []).map (pL p.x.bG p.t p.aG aH)):=by
 have hPl:P.length≤512:=Nat.le_trans hP.len (Nat.le_trans (Nat.pow_le_pow_right (by omega) (show k≤9 by omega)) (by omega))
 have hJ:mN p (P.map (pL p.x.bG p.t p.aG aH)) k (EF p.r.aP k)=some (((D2 p.r.aP P k).foldl (q9 p.x.bG p.t p.aG aH) []).map (pL p.x.bG p.t p.aG aH)):=by
  unfold mN;rw[Qaw];have EJ:aK (fun s=>g_ p (P.map (pL p.x.bG p.t p.aG aH)) k (EF p.r.aP k) s.1 s.2) ([],0)=some ((P.foldl (fun out a=>((EF p.r.aP k).map fun c=>a++[c]).foldl (q9 p.x.bG p.t p.aG aH) out) []).map (pL p.x.bG p.t p.aG aH)):=by
   have e:=dj (B:=fun s:List au×Int=>g_ p (P.map (pL p.x.bG p.t p.aG aH)) k (EF p.r.aP k) s.1 s.2) (e:=(P.foldl (fun out a=>((EF p.r.aP k).map fun c=>a++[c]).foldl (q9 p.x.bG p.t p.aG aH) out) []).map (pL p.x.bG p.t p.aG aH))
    P.length (fun v=>(((P.take v).foldl (fun out a=>((EF p.r.aP k).map fun c=>a++[c]).foldl (q9 p.x.bG p.t p.aG aH) out) []).map (pL p.x.bG p.t p.aG aH),(v:Int))) (by omega) (fun v hv=>?_) ?_
   ·exact e
   ·have e1:P[v]?=some P[v]:=List.getElem?_eq_getElem hv;obtain⟨q1,q2,q3⟩:=hP.ok _ (List.getElem_mem hv);have hQl:=Vb (n:=p.x.bG) (t:=p.t) (aG:=p.aG) (aH:=aH) (aP:=p.r.aP) (k:=k) (P:=P.take v) (out:=[]);rw[List.length_take,List.length_nil]at hQl;have hLI:=Oo hT hs (by omega) q1
    rw[q2]at hLI;rw[List.take_add_one,e1];simp only[Option.toList,List.foldl_append,List.foldl_cons,List.foldl_nil];generalize(P.take v).foldl (fun out a=>((EF p.r.aP k).map fun c=>a++[c]).foldl (q9 p.x.bG p.t p.aG aH) out) []=Q at hQl
    show g_ p (P.map (pL p.x.bG p.t p.aG aH)) k (EF p.r.aP k) (Q.map (pL p.x.bG p.t p.aG aH)) (v:Int)=_;unfold g_;rw[bl (by simp [aC];exact hv),bt (show(P.map (pL p.x.bG p.t p.aG aH))[v]?=some (pL p.x.bG p.t p.aG aH P[v]) by rw[List.getElem?_map,e1];rfl),ai,inc (n:=P.length) hv (by omega)]
    generalize P[v]=a at *;have IM:=QbS (aP:=p.r.aP) k;have hl2:aK (fun s=>hG p (P.map (pL p.x.bG p.t p.aG aH)) k (EF p.r.aP k) v (pL p.x.bG p.t p.aG aH a) s.1 s.2) (Q.map (pL p.x.bG p.t p.aG aH),0)=some ((((EF p.r.aP k).map fun c=>a++[c]).foldl (q9 p.x.bG p.t p.aG aH) Q).map (pL p.x.bG p.t p.aG aH)):=by
     have e2:=dj (B:=fun s:List au×Int=>hG p (P.map (pL p.x.bG p.t p.aG aH)) k (EF p.r.aP k) v (pL p.x.bG p.t p.aG aH a) s.1 s.2) (e:=(((EF p.r.aP k).map fun c=>a++[c]).foldl (q9 p.x.bG p.t p.aG aH) Q).map (pL p.x.bG p.t p.aG aH))
      (EF p.r.aP k).length (fun i=>(((((EF p.r.aP k).take i).map fun c=>a++[c]).foldl (q9 p.x.bG p.t p.aG aH) Q).map (pL p.x.bG p.t p.aG aH),(i:Int))) (by omega) (fun i hi=>?_) ?_
     ·exact e2
     ·have e3:(EF p.r.aP k)[i]?=some (EF p.r.aP k)[i]:=List.getElem?_eq_getElem hi;have Un:=SL (n:=p.x.bG) (t:=p.t) (aG:=p.aG) (aH:=aH) (items:=((EF p.r.aP k).take i).map fun c=>a++[c]) (out:=Q)
      rw[List.length_map,List.length_take]at Un;rw[List.take_add_one,e3];simp only[Option.toList,List.map_append,List.map_cons,List.map_nil,List.foldl_append,List.foldl_cons,List.foldl_nil];generalize(((EF p.r.aP k).take i).map fun c=>a++[c]).foldl (q9 p.x.bG p.t p.aG aH) Q=R at Un
      show hG p (P.map (pL p.x.bG p.t p.aG aH)) k (EF p.r.aP k) v (pL p.x.bG p.t p.aG aH a) (R.map (pL p.x.bG p.t p.aG aH)) (i:Int)=_;unfold hG;rw[bl (by simp [aC];exact hi),bt e3,ai,inc (n:=(EF p.r.aP k).length) hi (by omega)]
      generalize(EF p.r.aP k)[i]=c at *;show aS (mu p (pL p.x.bG p.t p.aG aH a) k c) _=_;rw[QcJ hT hLI hk,ai];have YU:((i+1:Nat):Int)=(i:Int)+1:=by omega
      rw[YU];by_cases h0:(wI p.x.bG p.t p.aG (pL p.x.bG p.t p.aG aH a) k c).2=0
      ·have mA:okB p.x.bG p.t p.aG aH (a++[c]):=yA.2 ⟨q1,by rw[q2];exact h0⟩
       have hlb:=Js mA;rw[q2]at hlb;rw[bl (by simpa using h0)]
       obtain⟨bb,XO,XP⟩:=Uf (L:=R.map (pL p.x.bG p.t p.aG aH)) (c:=(wI p.x.bG p.t p.aG (pL p.x.bG p.t p.aG aH a) k c).1) (by rw[List.length_map];omega)
       show aS (cP (R.map (pL p.x.bG p.t p.aG aH)) (wI p.x.bG p.t p.aG (pL p.x.bG p.t p.aG aH a) k c).1) _=_;rw[XO,ai];have QpS:(∃m∈R.map (pL p.x.bG p.t p.aG aH),m.ready=(wI p.x.bG p.t p.aG (pL p.x.bG p.t p.aG aH a) k c).1.ready∧m.gw≤(wI p.x.bG p.t p.aG (pL p.x.bG p.t p.aG aH a) k c).1.gw)↔∃d∈R,C_ p.x.bG p.t p.aG aH d (a++[c]):=by
        unfold C_;rw[hlb];constructor
        ·rintro⟨m,hm,h1⟩;obtain⟨d,hd,rfl⟩:=List.mem_map.1 hm;exact⟨d,hd,h1⟩
        ·rintro⟨d,hd,h1⟩;exact⟨_,List.mem_map.2 ⟨d,hd,rfl⟩,h1⟩
       rw[QpS]at XP;cases bb with
       |true =>
        have nr:q9 p.x.bG p.t p.aG aH R (a++[c])=R:=if_neg (fun h=>h.2 (XP.1 rfl))
        rw[dc,nr]
       |false =>
        have nr:q9 p.x.bG p.t p.aG aH R (a++[c])=R++[a++[c]]:=if_pos ⟨mA,fun h=>by have:=XP.2 h;cases this⟩
        rw[cL,nr,ch (cW (by simp;omega)),List.map_append,List.map_cons,List.map_nil,hlb]
      ·have WO:¬okB p.x.bG p.t p.aG aH (a++[c]):=fun h=>by have:=(yA.1 h).2;rw[q2]at this;exact h0 this
       have nr:q9 p.x.bG p.t p.aG aH R (a++[c])=R:=if_neg (fun h=>WO h.1)
       rw[a_ (by simpa using h0),nr]
     ·show hG p _ k (EF p.r.aP k) v _ _ ((EF p.r.aP k).length:Int)=_;unfold hG;rw[a_ (by simp [aC]),List.take_length]
    rw[hl2,ai,show((v+1:Nat):Int)=(v:Int)+1 by omega]
   ·show g_ p (P.map (pL p.x.bG p.t p.aG aH)) k (EF p.r.aP k) _ (P.length:Int)=_;unfold g_;rw[a_ (by simp [aC]),List.take_length]
  rw[EJ,ai]
 unfold nO;by_cases hkr:k<p.r.aP.length
 ·have e1:p.r.aP[k]?=some p.r.aP[k]:=List.getElem?_eq_getElem hkr;have hch:EF p.r.aP k=[p.r.aP[k]]:=by unfold EF;rw[e1]
  have S0:vw p.r.aP (k:Int) (aY .i64 (k:Int) 1)=some [p.r.aP[k]]:=by
   rw[inc hkr hr];unfold vw;rw[if_pos ⟨by omega,by omega,by omega⟩,show((k:Int)+1).toNat-(k:Int).toNat=1 by omega,Int.toNat_natCast,List.drop_eq_getElem_cons hkr]
   rfl
  rw[bl (by simp [aC];exact hkr),S0,ai,←hch]
  exact hJ
 ·have hch:EF p.r.aP k=[false,true]:=by unfold EF;rw[List.getElem?_eq_none (by omega)]
  rw[a_ (by simp [aC];omega),←hch]
  exact hJ
end
section
variable (n : ak) (t : ag) (aG : List aM) (aH : Int) (aP : List Bool)
def CA:Nat→List (List Bool)
 |0=>[[]]
 |k+1=>(D2 aP (CA k) k).foldl (q9 n t aG aH) []
def y3(b:List Bool):Prop:=b.length=aG.length+1∧YF aP b∧okB n t aG aH b
def wc(b:List Bool):Int:=(pL n t aG aH b).dD.lE
def Uu(b:List Bool):Prop:=∀q,y3 n t aG aH aP q→wc n t aG aH b≤wc n t aG aH q∧(wc n t aG aH q=wc n t aG aH b→rA b≤rA q)
end
section
variable {n : ak} {t : ag} {aG : List aM} {aH : Int} {aP : List Bool}
theorem TP(hT:qk n t aG)(hs:0≤aH∧aH≤4096):∀k,k≤aG.length+1→StB n t aG aH aP k (CA n t aG aH aP k)
 |0,_=>StB.zero
 |k+1,hk=>StB.next hT hs (TP hT hs k (by omega)) (by omega)
theorem U6(hT:qk n t aG)(hs:0≤aH∧aH≤4096){b:List Bool}(hl:b.length=aG.length+1)(mA:okB n t aG aH b):wc n t aG aH b=(pL n t aG aH b).ready:=by
 obtain⟨b0,c,rfl⟩:∃b0 c,b=b0++[c]:=by
  rcases List.eq_nil_or_concat b with rfl|⟨b0,c,rfl⟩
  ·simp at hl
  ·exact⟨b0,c,by simp⟩
 have hb0:b0.length=aG.length:=by simpa using hl
 obtain⟨o1,o2⟩:=yA.1 mA;have hL:=Oo hT hs (by omega) o1
 obtain⟨g0,g1,g2,g3⟩:=Ei hT hL o2;have ry:=SA (rest:=c) hT hL;have hg:=(Jg hT.bG ry g0).1;unfold NA at ry;unfold wc;rw[Js mA,g3];have hn:¬b0.length<aG.length:=by omega
 rw[vA hn]at hg ⊢;show(if b0.length<aG.length then _ else _:Int)=max _ (0:Int)+0
 rw[if_neg hn];omega
theorem VN(e:List Bool→Int):∀(items S:List (List Bool)) (b:List Bool),b∈S→(∀q∈S,e b≤e q∧(e q=e b→rA b≤rA q))→(∀s∈S,∀q∈items,rA s<rA q)→items.Pairwise (fun a b=>rA a<rA b)→
  (items.foldl (fun b q=>if e q<e b then q else b) b)∈S++items∧∀q∈S++items,e (items.foldl (fun b q=>if e q<e b then q else b) b)≤e q∧(e q=e (items.foldl (fun b q=>if e q<e b then q else b) b)→rA (items.foldl (fun b q=>if e q<e b then q else b) b)≤rA q)
 | [],S,b,hb,hm,_,_=>by simpa using⟨hb,hm⟩
 |x ::items,S,b,hb,hm,hv,hp=>by
  rw[List.pairwise_cons]at hp;have e1:S++x ::items=(S++[x])++items:=by simp
  rw[List.foldl_cons,e1];refine VN e items (S++[x]) _ ?_ ?_ (fun s hs q hq=>?_) hp.2
  ·split
   ·simp
   ·simp [hb]
  ·intro q hq;rcases List.mem_append.1 hq with h|h
   ·have:=hm q h;split
    ·exact⟨by omega,fun h2=>by omega⟩
    ·exact this
   ·rw[List.mem_singleton.1 h];split
    ·exact⟨Int.le_refl _,fun _=>Nat.le_refl _⟩
    ·exact⟨by omega,fun _=>Nat.le_of_lt (hv b hb x (by simp))⟩
  ·rcases List.mem_append.1 hs with h|h
   ·exact hv s h q (by simp [hq])
   ·rw[List.mem_singleton.1 h];exact hp.1 q hq
theorem UQ{x:ae}{r:ay}(hx:cD x)(hR:mM r)(h9:¬(9<r.ar.length∧r.ar.length≤20)):
  post (zp x r) fun res=>(¬(rq x r=true∧r.aP.length≤r.ar.length+1)∧res=(ud,2))∨
   ((rq x r=true∧r.aP.length≤r.ar.length+1)∧((∃ b,y3 x.bG (bU x r) (bh x r) r.aH r.aP b∧Uu x.bG (bU x r) (bh x r) r.aH r.aP b∧res=((pL x.bG (bU x r) (bh x r) r.aH b).dD,0)) ∨
    ((∀b,¬y3 x.bG (bU x r) (bh x r) r.aH r.aP b)∧res=Kh x.bG (bU x r) (bh x r) r.aH (r.aP++List.replicate (r.ar.length+1-r.aP.length) false)))):=by
 have hv:=hR.ar;have hr:=hR.aP;unfold zp;show post (aS (zq x r) _) _;have qf:aY .i64 (aC r.ar) 1=((r.ar.length+1:Nat):Int):=by unfold aC;rw[ig (by omega) (by omega)];omega
 rw[Qjg,ai,qf];by_cases hp:rq x r=true
 ·rw[if_pos hp];have h5:=of_decide_eq_true (wx hp);have S0:=tX (x:=x) (r:=r);have hT:=TU hx hp;have hs:0≤r.aH∧r.aH≤4096:=⟨h5.2.2.1,h5.2.2.2.1⟩;by_cases hc:r.aP.length≤r.ar.length+1
  ·rw[a_ (by simp only[Bool.not_true,Bool.false_or,nq,aC];omega)]
   generalize hpp:bw.mk x (bU x r) r (bh x r)=p;have Qlh:ir p=some (uA (bU x r) r.aH):=by
    rw[←hpp];unfold ir uA;rw[Bn];rfl
   show post (aS (ir p) _) _;rw[Qlh,ai];have QpX:([uA (bU x r) r.aH]:List au)=(CA x.bG (bU x r) (bh x r) r.aH r.aP 0).map (pL x.bG (bU x r) (bh x r) r.aH):=rfl;have Qns:∀k,k≤r.ar.length→nO p ((CA x.bG (bU x r) (bh x r) r.aH r.aP k).map (pL x.bG (bU x r) (bh x r) r.aH)) (k:Int)=some ((CA x.bG (bU x r) (bh x r) r.aH r.aP (k+1)).map (pL x.bG (bU x r) (bh x r) r.aH)):=fun k hk=>by
    have:=Qio (p:=bw.mk x (bU x r) r (bh x r)) (aH:=r.aH) hT hs (TP hT hs k (by omega)) (by show k≤(bh x r).length;omega) (by show(bh x r).length≤9;omega) hr
    rw[hpp]at this;rw[←hpp]at this ⊢;exact this
   have EJ:aK (fun s=>lK r (p,true) s.1 s.2) ((CA x.bG (bU x r) (bh x r) r.aH r.aP 0).map (pL x.bG (bU x r) (bh x r) r.aH),0)=some ((CA x.bG (bU x r) (bh x r) r.aH r.aP (r.ar.length+1)).map (pL x.bG (bU x r) (bh x r) r.aH)):=by
    refine dj (B:=fun s:List au×Int=>lK r (p,true) s.1 s.2) (r.ar.length+1) (fun k=>((CA x.bG (bU x r) (bh x r) r.aH r.aP k).map (pL x.bG (bU x r) (bh x r) r.aH),(k:Int))) (by omega) (fun k hk=>?_) ?_
    ·show lK r (p,true) ((CA x.bG (bU x r) (bh x r) r.aH r.aP k).map (pL x.bG (bU x r) (bh x r) r.aH)) (k:Int)=some (.inl ((CA x.bG (bU x r) (bh x r) r.aH r.aP (k+1)).map (pL x.bG (bU x r) (bh x r) r.aH),((k+1:Nat):Int)));unfold lK;rw[qf,bl (by simp only[fS];omega)]
     show aS (nO p _ (k:Int)) _=_;rw[Qns k (by omega),ai,inc (n:=r.ar.length+1) hk (by omega)]
     rfl
    ·show lK r (p,true) _ ((r.ar.length+1:Nat):Int)=_;unfold lK;rw[qf,a_ (by simp)]
   show post (aS (aK (fun s=>lK r (p,true) s.1 s.2) ([uA (bU x r) r.aH],0)) _) _
   rw[QpX,EJ,ai];have hSt:=TP (aP:=r.aP) hT hs (r.ar.length+1) (by omega)
   generalize CA x.bG (bU x r) (bh x r) r.aH r.aP (r.ar.length+1)=P at hSt;have hPl:P.length≤1024:=Nat.le_trans hSt.len (Nat.le_trans (Nat.pow_le_pow_right (by omega) (show r.ar.length+1≤10 by omega)) (by omega))
   refine bA (fun hb=>?_) (fun hb=>?_)
   ·simp only[pJ,aC,List.length_map]at hb;have hP0:P=[]:=List.length_eq_zero_iff.1 (by omega)
    have hmk:KY ((r.ar.length+1:Nat):Int) ((r.ar.length+1:Nat):Int) 1 false=some (List.replicate (r.ar.length+1) false):=by
     unfold KY;rw[if_pos (by omega)];simp
    have Qli:HA (List.replicate (r.ar.length+1) false) r.aP=r.aP++List.replicate (r.ar.length+1-r.aP.length) false:=by
     unfold HA PI;rw[List.length_replicate,Nat.min_eq_left hc,List.take_length,List.drop_replicate]
    rw[hmk,ai];have ec:=run_eq (p:=bw.mk x (bU x r) r (bh x r)) (aP:=r.aP++List.replicate (r.ar.length+1-r.aP.length) false) hT hs (by show _=(bh x r).length+1;simp;omega)
    rw[hpp]at ec;show post (aS (rJ p (HA (List.replicate (r.ar.length+1) false) r.aP)) _) _;rw[Qli,ec,ai];refine bg.2 (.inr ⟨⟨hp,hc⟩,.inr ⟨fun b hb=>?_,?_⟩⟩)
    ·obtain⟨a,ha,_⟩:=hSt.cov b (by rw[hb.1];omega) hb.2.1 hb.2.2
     rw[hP0]at ha;simp at ha
    ·rw[←hpp]
   ·simp only[xC,aC,List.length_map]at hb;obtain⟨b0,tl,rfl⟩:∃b0 tl,P=b0 ::tl:=by
     cases P with
     |nil=>exact absurd rfl hb
     |cons a b=>exact⟨a,b,rfl⟩
    have Qlu:=hSt.inc;rw[List.pairwise_cons]at Qlu;rw[List.map_cons,show bq (pL x.bG (bU x r) (bh x r) r.aH b0 ::tl.map (pL x.bG (bU x r) (bh x r) r.aH)) 0=some (pL x.bG (bU x r) (bh x r) r.aH b0)from bt (k:=0) rfl,ai];have Qqs:vw (pL x.bG (bU x r) (bh x r) r.aH b0 ::tl.map (pL x.bG (bU x r) (bh x r) r.aH)) 1 (aC (pL x.bG (bU x r) (bh x r) r.aH b0 ::tl.map (pL x.bG (bU x r) (bh x r) r.aH)))=some (tl.map (pL x.bG (bU x r) (bh x r) r.aH)):=by
     unfold vw aC;rw[if_pos ⟨by omega,by simp only[List.length_cons];omega,Int.le_refl _⟩,show(1:Int).toNat=1 from rfl,Int.toNat_natCast,List.drop_one,List.tail_cons,List.length_cons,Nat.add_sub_cancel,List.take_length]
    rw[Qqs,ai];obtain⟨pk1,pk2⟩:=VN (wc x.bG (bU x r) (bh x r) r.aH) tl [b0] b0 (by simp) (fun q hq=>by rw[List.mem_singleton.1 hq];exact⟨Int.le_refl _,fun _=>Nat.le_refl _⟩) (fun s jC q hq=>by rw[List.mem_singleton.1 jC];exact Qlu.1 q hq) Qlu.2
    have hl2:aK (fun s=>lM (tl.map (pL x.bG (bU x r) (bh x r) r.aH)) s.1 s.2) (pL x.bG (bU x r) (bh x r) r.aH b0,0)=some (pL x.bG (bU x r) (bh x r) r.aH (tl.foldl (fun b q=>if wc x.bG (bU x r) (bh x r) r.aH q<wc x.bG (bU x r) (bh x r) r.aH b then q else b) b0)):=by
     have e2:=dj (B:=fun s:au×Int=>lM (tl.map (pL x.bG (bU x r) (bh x r) r.aH)) s.1 s.2) (e:=pL x.bG (bU x r) (bh x r) r.aH (tl.foldl (fun b q=>if wc x.bG (bU x r) (bh x r) r.aH q<wc x.bG (bU x r) (bh x r) r.aH b then q else b) b0))
      tl.length (fun i=>(pL x.bG (bU x r) (bh x r) r.aH ((tl.take i).foldl (fun b q=>if wc x.bG (bU x r) (bh x r) r.aH q<wc x.bG (bU x r) (bh x r) r.aH b then q else b) b0),(i:Int))) (by simp only[List.length_cons]at hPl;omega) (fun i hi=>?_) ?_
     ·exact e2
     ·have e3:tl[i]?=some tl[i]:=List.getElem?_eq_getElem hi;rw[List.take_add_one,e3];simp only[Option.toList,List.foldl_append,List.foldl_cons,List.foldl_nil];generalize(tl.take i).foldl (fun b q=>if wc x.bG (bU x r) (bh x r) r.aH q<wc x.bG (bU x r) (bh x r) r.aH b then q else b) b0=bb
      show lM (tl.map (pL x.bG (bU x r) (bh x r) r.aH)) (pL x.bG (bU x r) (bh x r) r.aH bb) (i:Int)=_;unfold lM;rw[bl (by simp [aC];exact hi),bt (show(tl.map (pL x.bG (bU x r) (bh x r) r.aH))[i]?=some (pL x.bG (bU x r) (bh x r) r.aH tl[i]) by rw[List.getElem?_map,e3];rfl),ai,inc (n:=tl.length) hi (by simp only[List.length_cons]at hPl;omega),show((i+1:Nat):Int)=(i:Int)+1 by omega]
      generalize tl[i]=q;by_cases mj:wc x.bG (bU x r) (bh x r) r.aH q<wc x.bG (bU x r) (bh x r) r.aH bb
      ·rw[if_pos mj,bl (by simp only[fS];exact mj)]
      ·rw[if_neg mj,a_ (by simp only[jG];unfold wc at mj;omega)]
     ·show lM (tl.map (pL x.bG (bU x r) (bh x r) r.aH)) _ (tl.length:Int)=_;unfold lM;rw[a_ (by simp [aC]),List.take_length]
    show post (aS (aK (fun s=>lM (tl.map (pL x.bG (bU x r) (bh x r) r.aH)) s.1 s.2) (pL x.bG (bU x r) (bh x r) r.aH b0,0)) _) _
    rw[hl2,ai];generalize tl.foldl (fun b q=>if wc x.bG (bU x r) (bh x r) r.aH q<wc x.bG (bU x r) (bh x r) r.aH b then q else b) b0=bb at pk1 pk2
    rw[show [b0]++tl=b0 ::tl from rfl]at pk1 pk2;obtain⟨m1,m2,m3⟩:=hSt.ok bb pk1;refine bg.2 (.inr ⟨⟨hp,hc⟩,.inl ⟨bb,⟨by rw[m2];omega,m3,m1⟩,fun q hq=>?_,rfl⟩⟩)
    obtain⟨a,ha,hva,T4⟩:=hSt.cov q (by rw[hq.1];omega) hq.2.1 hq.2.2
    obtain⟨a1,a2,a3⟩:=hSt.ok a ha;have he:wc x.bG (bU x r) (bh x r) r.aH a=wc x.bG (bU x r) (bh x r) r.aH q:=by
     rw[U6 hT hs (by rw[a2];omega) a1,U6 hT hs hq.1 hq.2.2];exact T4.1
    have:=pk2 a ha;rw[he]at this;exact⟨this.1,fun h=>Nat.le_trans (this.2 h) hva⟩
  ·rw[bl (by simp only[Bool.not_true,Bool.false_or,qi,aC];omega)]
   exact bg.2 (.inl ⟨fun h=>hc h.2,rfl⟩)
 ·rw[if_neg hp,bl (by simp [Qhx])]
  exact bg.2 (.inl ⟨fun h=>hp h.1,rfl⟩)
end
theorem QlS{S E:Type}{B:S→Option (S⊕E)}(C:Nat→S→Prop)(Q:E→Prop)
  (h:∀m s,C m s→post (B s) fun x=>(∀s',x=.inl s'→∃m',m'<m∧C m' s')∧∀e,x=.inr e→Q e):∀(n m:Nat) (s:S),C m s→m<n→post (uh B n s) Q:=by
 intro n;induction n with
 |zero=>intro m s _ hm;omega
 |succ n ih =>
  intro m s hs hm;obtain⟨x,hx,h1,h2⟩:=h m s hs;simp only[uh,hx];cases x with
  |inl s' =>
   obtain⟨m',h3,h4⟩:=h1 s' rfl;exact ih m' s' h4 (by omega)
  |inr e=>exact⟨e,rfl,h2 e rfl⟩
theorem QlX{S E:Type}{B:S→Option (S⊕E)}(C:Nat→S→Prop){Q:E→Prop}{s:S}(m:Nat)(hs:C m s)(hm:m<18446744073709551616)
  (h:∀m s,C m s→post (B s) fun x=>(∀s',x=.inl s'→∃m',m'<m∧C m' s')∧∀e,x=.inr e→Q e):post (aK B s) Q:=QlS C Q h _ m s hs hm
def gv:Nat→Nat→List Bool
 |0,_=>[]
 |f+1,j=>gv f (j / 2)++[decide (j % 2=1)]
theorem KN:∀f j,(gv f j).length=f
 |0,_=>rfl
 |f+1,j=>by rw[gv,List.length_append,KN f];rfl
theorem IZ(f m:Nat):∀d,gv (f+d) (m*2 ^ d)=gv f m++List.replicate d false
 |0=>by simp
 |d+1=>by
  rw[show f+(d+1)=(f+d)+1 by omega,gv,Nat.pow_succ,←Nat.mul_assoc,Nat.mul_div_cancel _ (by omega),IZ f m d,List.replicate_succ',List.append_assoc]
  congr 3;rw[decide_eq_false];omega
theorem FP(f:Nat):gv f 0=List.replicate f false:=by
 have:=IZ 0 0 f;simpa [gv]using this
theorem FH(p:List Bool):∀f j,j<2 ^ f→rA (p++gv f j)=rA p*2 ^ f+j
 |0,j,h=>by simp at h;simp [gv,h]
 |f+1,j,h=>by
  rw[Nat.pow_succ]at h;rw[gv,←List.append_assoc,BH,FH p f (j / 2) (by omega),Nat.pow_succ,←Nat.mul_assoc]
  by_cases hj:j % 2=1
  ·rw[if_pos (decide_eq_true hj)];omega
  ·rw[if_neg (by simpa using hj)];omega
theorem NF:∀(f:Nat) (s:List Bool),s.length=f→∃j,j<2 ^ f∧s=gv f j
 |0,s,h=>⟨0,by simp,List.length_eq_zero_iff.1 h⟩
 |f+1,s,h=>by
  obtain⟨s0,c,rfl⟩:∃s0 c,s=s0++[c]:=by
   rcases List.eq_nil_or_concat s with rfl|⟨s0,c,rfl⟩
   ·simp at h
   ·exact⟨s0,c,by simp⟩
  obtain⟨j,hj,hs⟩:=NF f s0 (by simpa using h)
  subst hs;cases c with
  |true =>
   refine⟨2*j+1,by rw[Nat.pow_succ];omega,?_⟩
   rw[gv,show(2*j+1) / 2=j by omega,decide_eq_true (by omega)]
  |false =>
   refine⟨2*j,by rw[Nat.pow_succ];omega,?_⟩
   rw[gv,show(2*j) / 2=j by omega,decide_eq_false (by omega)]
theorem Qhs{a b:List Bool}(h:a.length=b.length)(hv:rA a=rA b):a=b:=by
 obtain⟨i,hi,ha⟩:=NF b.length a h;obtain⟨j,hj,hb⟩:=NF b.length b rfl;have h1:=FH [] b.length i hi;have h2:=FH [] b.length j hj;rw[List.nil_append,←ha]at h1;rw[List.nil_append,←hb]at h2;have h0:rA ([]:List Bool)=0:=rfl;rw[h0,Nat.zero_mul,Nat.zero_add]at h1 h2;have T5:i=j:=by rw[←h1,←h2];exact hv
 exact ha.trans (by rw[T5];exact hb.symm)
theorem Qju{α:Type}{a b:List α}{x y:α}:(a++x ::b).set a.length y=a++y ::b:=by
 rw[List.set_append_right _ _ (Nat.le_refl _),Nat.sub_self];rfl
theorem Zt{p:List Bool}{f j:Nat}(hl:p.length+f≤1048576)(hj:j<2 ^ f):nU (p++gv f j) (aC p)=some (if j+1<2 ^ f then(p++gv f (j+1),true)else([],false)):=by
 apply post.eq;unfold nU;have hlen:(p++gv f j).length=p.length+f:=by rw[List.length_append,KN]
 refine dd (cW (by rw[hlen];omega)) ?_
 have nr:dZ .i64 (aC (p++gv f j)) 1=((p.length+f:Nat):Int)-1:=by unfold aC;rw[hlen,v9 (by omega) (by omega)]
 rw[nr];refine b_ (R:=fun e=>e=if j+1<2 ^ f then .inr (p++gv f (j+1),true)else .inl ()) ?_ ?_
 ·refine fj (fun s=>∃g q d:Nat,f=g+d∧j+1=(q+1)*2 ^ d∧q<2 ^ g∧s=(p++(gv g q++List.replicate d false),((p.length+g:Nat):Int)-1)) (fun s=>(s.2+1-p.length).toNat) ⟨f,j,0,rfl,by simp,hj,by simp⟩ (by simp;omega) ?_
  rintro _ ⟨g,q,d,hf,hq,hqg,rfl⟩;show post (pX (aC p) (p++(gv g q++List.replicate d false)) (((p.length+g:Nat):Int)-1)) _;unfold pX;refine bA (fun hb=>?_) (fun hb=>ef ?_)
  ·simp only[kP,aC]at hb;obtain⟨g,rfl⟩:∃g',g=g'+1:=⟨g-1,by omega⟩
   have hi:((p.length+(g+1):Nat):Int)-1=((p.length+g:Nat):Int):=by omega
   have WR:p++(gv (g+1) q++List.replicate d false)=(p++gv g (q / 2))++decide (q % 2=1) ::List.replicate d false:=by
    rw[gv];simp
   have AK:(p++gv g (q / 2)).length=p.length+g:=by rw[List.length_append,KN]
   have Qf7:((p++gv g (q / 2))++decide (q % 2=1) ::List.replicate d false)[p.length+g]?=some (decide (q % 2=1)):=by
    rw[List.getElem?_append_right (by omega),AK,Nat.sub_self];rfl
   have P0:∀y,gZ ((p++gv g (q / 2))++decide (q % 2=1) ::List.replicate d false) ((p.length+g:Nat):Int) y=(p++gv g (q / 2))++y ::List.replicate d false:=fun y=>by
    unfold gZ;rw[Int.toNat_natCast,←AK,Qju]
   rw[hi,WR,bt Qf7,ai,P0,P0];refine bA (fun h1=>fO ⟨⟨g,q / 2,d+1,by omega,?_,by rw[Nat.pow_succ]at hqg;omega,?_⟩,?_⟩) (fun h1=>ef ?_)
   ·have h2:=of_decide_eq_true h1;rw[hq,Nat.pow_succ,show q+1=(q / 2+1)*2 by omega,Nat.mul_assoc,Nat.mul_comm 2]
   ·rw[v9 (by omega) (by omega)]
    simp [List.replicate_succ]
   ·rw[v9 (by omega) (by omega)];simp only;omega
   ·have h2:=of_decide_eq_false h1;rw[Nat.pow_succ]at hqg;have h3:q+1<2 ^ (g+1):=by rw[Nat.pow_succ];omega
    have h4:j+1<2 ^ f:=by
     rw[hq,hf,Nat.pow_add];exact Nat.mul_lt_mul_of_pos_right h3 (Nat.pow_pos (by omega))
    rw[if_pos h4,hq,hf,IZ,gv,show(q+1) / 2=q / 2 by omega,decide_eq_true (show(q+1) % 2=1 by omega)]
    simp
  ·simp only[Hk,aC]at hb;obtain rfl:g=0:=by omega
   have:q=0:=by simpa using hqg
   subst this;have h4:¬j+1<2 ^ f:=by rw[hq,hf];simp
   rw[if_neg h4]
 ·rintro e rfl;split
  ·rw[q7];exact bg.2 rfl
  ·rw[en];exact bg.2 rfl
section
variable {n : ak} {t : ag} {aG : List aM} {aH : Int} {aP : List Bool}
theorem ZA(b:List Bool):Kh n t aG aH b=if(preB n t aG aH b).2≠0 then(ud,(preB n t aG aH b).2)else((pL n t aG aH b).dD,0):=rfl
theorem TA{b:List Bool}(h:okB n t aG aH b):Kh n t aG aH b=((pL n t aG aH b).dD,0):=by rw[ZA,if_neg (show ¬(preB n t aG aH b).2≠0 from fun hh=>hh h)]
theorem Pa{b:List Bool}(h:¬okB n t aG aH b):(Kh n t aG aH b).2≠0∧Kh n t aG aH b=(ud,(Kh n t aG aH b).2):=by
 rw[ZA,if_pos (show(preB n t aG aH b).2≠0 from h)];exact⟨h,rfl⟩
theorem YG{f j:Nat}:YF aP (aP++gv f j):=fun i x hx=>by
 unfold EF;rcases Nat.lt_or_ge i aP.length with hi|hi
 ·rw[List.getElem?_append_left hi]at hx;rw[hx];simp
 ·rw[List.getElem?_eq_none hi];cases x <;> simp
theorem Qig{b:List Bool}{f:Nat}(hl:b.length=aP.length+f)(h:YF aP b):∃j,j<2 ^ f∧b=aP++gv f j:=by
 obtain⟨j,hj,hb⟩:=NF f (b.drop aP.length) (by rw[List.length_drop];omega)
 refine⟨j,hj,?_⟩;rw[←hb];have htk:b.take aP.length=aP:=by
  apply List.ext_getElem?;intro i;rcases Nat.lt_or_ge i aP.length with hi|hi
  ·rw[List.getElem?_take_of_lt hi];have e1:b[i]?=some (b[i]'(by omega)):=List.getElem?_eq_getElem _
   have:=h i _ e1;unfold EF at this;rw[List.getElem?_eq_getElem hi]at this;rw[e1,List.getElem?_eq_getElem hi];simpa using this
  ·rw[List.getElem?_eq_none (by rw[List.length_take];omega),List.getElem?_eq_none hi]
 conv=>lhs;rw[←List.take_append_drop aP.length b,htk]
end
def Qdd(n:ak)(t:ag)(aG:List aM)(aH:Int)(aP:List Bool)(f j:Nat)(sh:aQ)(fZ:Bool):Prop:=
 (fZ=false→∀i,i<j→¬okB n t aG aH (aP++gv f i))∧
 (fZ=true→∃ i,i<j∧okB n t aG aH (aP++gv f i)∧sh=(pL n t aG aH (aP++gv f i)).dD∧∀ i',i'<j→okB n t aG aH (aP++gv f i') →
  wc n t aG aH (aP++gv f i)≤wc n t aG aH (aP++gv f i')∧(wc n t aG aH (aP++gv f i')=wc n t aG aH (aP++gv f i)→i≤i'))
theorem UA{x:ae}{r:ay}(hx:cD x)(hR:mM r)(h9:¬(9<r.ar.length∧r.ar.length≤20)):
  post (qp x r) fun res=>(¬(rq x r=true∧r.aP.length≤r.ar.length+1)∧res=(ud,2))∨
   ((rq x r=true∧r.aP.length≤r.ar.length+1)∧((∃ b,y3 x.bG (bU x r) (bh x r) r.aH r.aP b∧Uu x.bG (bU x r) (bh x r) r.aH r.aP b∧res=((pL x.bG (bU x r) (bh x r) r.aH b).dD,0)) ∨
    ((∀b,¬y3 x.bG (bU x r) (bh x r) r.aH r.aP b)∧res=Kh x.bG (bU x r) (bh x r) r.aH (r.aP++List.replicate (r.ar.length+1-r.aP.length) false)))):=by
 have hv:=hR.ar;have hr:=hR.aP;unfold qp;show post (aS (iS x r) _) _;have qf:aY .i64 (aC r.ar) 1=((r.ar.length+1:Nat):Int):=by unfold aC;rw[ig (by omega) (by omega)];omega
 rw[QcP,ai,qf];by_cases hp:rq x r=true
 ·have h5:=of_decide_eq_true (wx hp);have S0:=tX (x:=x) (r:=r);by_cases hc:r.aP.length≤r.ar.length+1
  ·rw[hp,a_ (by simp only[Bool.not_true,Bool.false_or,nq,aC];omega)]
   have hmk:KY ((r.ar.length+1:Nat):Int) ((r.ar.length+1:Nat):Int) 1 false=some (List.replicate (r.ar.length+1) false):=by
    unfold KY;rw[if_pos (by omega)];simp
   obtain⟨f,hf⟩:∃f,f=r.ar.length+1-r.aP.length:=⟨_,rfl⟩;have hf2:2 ^ f≤1024:=Nat.le_trans (Nat.pow_le_pow_right (by omega) (show f≤10 by omega)) (by omega)
   have hf1:1≤2 ^ f:=Nat.one_le_two_pow;have Qli:HA (List.replicate (r.ar.length+1) false) r.aP=r.aP++gv f 0:=by
    rw[FP];unfold HA PI;rw[List.length_replicate,Nat.min_eq_left hc,List.take_length,List.drop_replicate,←hf]
   have hB:∀j,(r.aP++gv f j).length=r.ar.length+1:=fun j=>by rw[List.length_append,KN];omega
   have ec:∀j,lY x r (r.aP++gv f j)=some (Kh x.bG (bU x r) (bh x r) r.aH (r.aP++gv f j)):=fun j=>by
    rw[Qbh hx hv];unfold Qmc;rw[if_pos ⟨hp,hB j⟩]
   have hnx:∀j,j<2 ^ f→nU (r.aP++gv f j) (aC r.aP)=some (if j+1<2 ^ f then(r.aP++gv f (j+1),true)else([],false)):=fun j hj=>Zt (by omega) hj
   rw[hmk,ai,Qli,←hf,←FP];show post (aS (lY x r (r.aP++gv f 0)) _) _;rw[ec,ai,hnx 0 (by omega),ai]
   -- V7 first list
   have hB0:Qdd x.bG (bU x r) (bh x r) r.aH r.aP f 1 (Kh x.bG (bU x r) (bh x r) r.aH (r.aP++gv f 0)).1 (bP (Kh x.bG (bU x r) (bh x r) r.aH (r.aP++gv f 0)).2 0):=by
    refine⟨fun h i hi mA=>?_,fun h=>⟨0,by omega,?_,?_,fun i hi _=>?_⟩⟩
    ·obtain rfl:i=0:=by omega
     rw[TA mA]at h;simp [bP]at h
    ·exact Classical.byContradiction fun hn=>(Pa hn).1 (by simpa using h)
    ·have mA:okB x.bG (bU x r) (bh x r) r.aH (r.aP++gv f 0):=Classical.byContradiction fun hn=>(Pa hn).1 (by simpa using h)
     rw[TA mA]
    ·obtain rfl:i=0:=by omega
     exact⟨Int.le_refl _,fun _=>Nat.le_refl _⟩
   refine b_ (R:=fun e=>Qdd x.bG (bU x r) (bh x r) r.aH r.aP f (2 ^ f) e.1 e.2) ?_ ?_
   ·refine QlX (fun m s=>∃j:Nat,1≤j∧j≤2 ^ f∧s.1=r.aP∧(s.2.2.2.2=true→j<2 ^ f∧s.2.2.1=r.aP++gv f j)∧(s.2.2.2.2=false→j=2 ^ f)∧Qdd x.bG (bU x r) (bh x r) r.aH r.aP f j s.2.1 s.2.2.2.1∧m=2 ^ f-j+(if s.2.2.2.2=true then 1 else 0)) (2 ^ f-1+(if 0+1<2 ^ f then 1 else 0))
     ⟨1,Nat.le_refl _,hf1,rfl,fun h=>?_,fun h=>?_,hB0,?_⟩ (by split <;> omega) ?_
    ·by_cases h1:0+1<2 ^ f
     ·rw[if_pos h1]at h ⊢;exact⟨by omega,rfl⟩
     ·rw[if_neg h1]at h;cases h
    ·by_cases h1:0+1<2 ^ f
     ·rw[if_pos h1]at h;cases h
     ·omega
    ·by_cases h1:0+1<2 ^ f
     ·rw[if_pos h1,if_pos h1];rfl
     ·rw[if_neg h1,if_neg h1];rfl
    rintro m ⟨rs,sh,cur,fZ,more⟩ ⟨j,hj1,hj2,Pv,hmt,hmf,SW,hm⟩;simp only at Pv hmt hmf SW hm;subst Pv;show post (pW x r _ _ r.aP sh cur fZ more) _;unfold pW pV;cases more with
    |false =>
     have:=hmf rfl;subst this;exact⟨_,rfl,fun _ h=>by(cases h),fun e he=>by cases he;exact SW⟩
    |true =>
     obtain⟨hjl,QdM⟩:=hmt rfl;subst QdM;rw[dc];show post (aS (lY x r (r.aP++gv f j)) _) _;rw[ec,ai,hnx j hjl];have leaf:∀(sh':aQ) (fd:Bool),Qdd x.bG (bU x r) (bh x r) r.aH r.aP f (j+1) sh' fd→
       post (aS (some (if j+1<2 ^ f then(r.aP++gv f (j+1),true)else([],false))) fun r5=>some (Sum.inl (r.aP,sh',r5.1,fd,r5.2):(List Bool×aQ×List Bool×Bool×Bool)⊕(aQ×Bool))) fun y=>(∀s',y=.inl s'→∃m',m'<m∧∃j:Nat,1≤j∧j≤2 ^ f∧s'.1=r.aP∧(s'.2.2.2.2=true→j<2 ^ f∧s'.2.2.1=r.aP++gv f j)∧(s'.2.2.2.2=false→j=2 ^ f)∧Qdd x.bG (bU x r) (bh x r) r.aH r.aP f j s'.2.1 s'.2.2.2.1∧m'=2 ^ f-j+(if s'.2.2.2.2=true then 1 else 0))∧∀e,y=.inr e→Qdd x.bG (bU x r) (bh x r) r.aH r.aP f (2 ^ f) e.1 e.2:=by
      intro sh' fd WH;rw[ai];refine⟨_,rfl,fun s' jC=>?_,fun _ h=>by cases h⟩
      cases jC;simp only[if_true]at hm;by_cases h1:j+1<2 ^ f
      ·simp only[if_pos h1];exact⟨2 ^ f-(j+1)+1,by omega,j+1,by omega,by omega,trivial,fun _=>⟨h1,rfl⟩,fun h=>(by cases h),WH,by simp⟩
      ·simp only[if_neg h1];exact⟨0,by omega,j+1,by omega,by omega,trivial,fun h=>(by cases h),fun _=>by omega,WH,by simp;omega⟩
     by_cases mA:okB x.bG (bU x r) (bh x r) r.aH (r.aP++gv f j)
     ·rw[TA mA];refine bA (fun Ji=>leaf _ _ ⟨fun h=>by(cases h),fun _=>⟨j,by omega,mA,rfl,fun i hi hoi=>?_⟩⟩) (fun Ji=>leaf _ _ ?_)
      ·rcases Nat.lt_or_ge i j with T5|T5
       ·simp only[BK,XX,ntT,fS]at Ji;cases PX:fZ with
        |false=>exact absurd hoi (SW.1 PX i T5)
        |true =>
         obtain⟨i0,k1,k2,k3,k4⟩:=SW.2 PX;rcases Ji.2 with h|h
         ·rw[PX]at h;cases h
         ·rw[k3]at h;have:=(k4 i T5 hoi).1;unfold wc at this ⊢;exact⟨by omega,fun he=>by omega⟩
       ·obtain rfl:i=j:=by omega
        exact⟨Int.le_refl _,fun _=>Nat.le_refl _⟩
      ·have h0:bP (((pL x.bG (bU x r) (bh x r) r.aH (r.aP++gv f j)).dD,0):aQ×Int).2 0=true:=rfl;rw[h0,Bool.true_and]at Ji;simp only[Ql,ntF,jG]at Ji;obtain⟨PX,hle⟩:=Ji;refine⟨fun h=>by(rw[PX]at h;cases h),fun _=>?_⟩
       obtain⟨i0,k1,k2,k3,k4⟩:=SW.2 PX;refine⟨i0,by omega,k2,k3,fun i hi hoi=>?_⟩
       rcases Nat.lt_or_ge i j with T5|T5
       ·exact k4 i T5 hoi
       ·obtain rfl:i=j:=by omega
        rw[k3]at hle;exact⟨hle,fun _=>by omega⟩
     ·have WO:=Pa mA;refine bA (fun Ji=>?_) (fun _=>leaf _ _ ⟨fun h i hi=>?_,fun h=>?_⟩)
      ·simp only[BK,pJ]at Ji;exact absurd Ji.1 WO.1
      ·rcases Nat.lt_or_ge i j with T5|T5
       ·exact SW.1 h i T5
       ·obtain rfl:i=j:=by omega
        exact mA
      ·obtain⟨i0,k1,k2,k3,k4⟩:=SW.2 h;refine⟨i0,by omega,k2,k3,fun i hi hoi=>?_⟩
       rcases Nat.lt_or_ge i j with T5|T5
       ·exact k4 i T5 hoi
       ·obtain rfl:i=j:=by omega
        exact absurd hoi mA
   ·rintro⟨sh,fZ⟩ SW;have vb:∀b,y3 x.bG (bU x r) (bh x r) r.aH r.aP b→∃j,j<2 ^ f∧b=r.aP++gv f j:=fun b hb=>Qig (by rw[hb.1];omega) hb.2.1
    show post (br fZ _ _) _;cases PX:fZ with
    |true =>
     rw[dc];obtain⟨i0,k1,k2,k3,k4⟩:=SW.2 PX;refine bg.2 (.inr ⟨⟨rfl,hc⟩,.inl ⟨r.aP++gv f i0,⟨by rw[hB];omega,YG,k2⟩,fun q hq=>?_,by rw[←k3]⟩⟩)
     obtain⟨j,hj,rfl⟩:=vb q hq;have:=k4 j hj hq.2.2;refine⟨this.1,fun h=>?_⟩
     rw[FH _ _ _ k1,FH _ _ _ hj];have:=this.2 h;omega
    |false =>
     rw[cL];have Qck:∀b,¬y3 x.bG (bU x r) (bh x r) r.aH r.aP b:=fun b hb=>by
      obtain⟨j,hj,rfl⟩:=vb b hb;exact SW.1 PX j hj hb.2.2
     refine bg.2 (.inr ⟨⟨rfl,hc⟩,.inr ⟨Qck,?_⟩⟩);have WO:¬okB x.bG (bU x r) (bh x r) r.aH (r.aP++gv f 0):=SW.1 PX 0 (by omega)
     rw[←FP];exact(Pa WO).2.symm
  ·rw[bl (by simp only[XX,qi,aC];right;omega)]
   exact bg.2 (.inl ⟨fun h=>hc h.2,rfl⟩)
 ·rw[bl (by simp [hp])]
  exact bg.2 (.inl ⟨fun h=>hp h.1,rfl⟩)
theorem Y6{n:ak}{t:ag}{aG:List aM}{aH:Int}{aP a b:List Bool}(ha:y3 n t aG aH aP a)(hb:y3 n t aG aH aP b)(ma:Uu n t aG aH aP a)(mb:Uu n t aG aH aP b):a=b:=by
 have h1:=ma b hb;have h2:=mb a ha;have he:wc n t aG aH b=wc n t aG aH a:=by omega
 exact Qhs (by rw[ha.1,hb.1]) (by have:=h1.2 he;have:=h2.2 he.symm;omega)
theorem QgE{n:ak}{t:ag}{aG:List aM}{aH:Int}{b:List Bool}:(pL n t aG aH b).dD.je.length≤b.length:=by
 have:=Tz (n:=n) (t:=t) (aG:=aG) b 0 (uA t aH);have h0:(uA t aH).dD.je.length=0:=rfl;rw[h0,Nat.zero_add]at this;exact this
end
end Go.Proofs.YtbilkblifgaflaaGreatDoor
