/- Part MQ. -/
import Derived.Test.YtkcilfpbgjjjbaaGreatDoorMP
set_option linter.unusedSimpArgs false
set_option linter.unusedVariables false
set_option linter.unusedSectionVars false
namespace Go.Proofs.YtkcilfpbgjjjbaaGreatDoor
noncomputable section
section
variable (n : aD) (t : al) (aG : List a6)
def runK:List Bool→Nat→an→an×Int
 | [],_,l=>(l,0)
 |b ::r,k,l=>if(AS n t aG l k b).2≠0 then(Us,(AS n t aG l k b).2)else runK r (k+1) (AS n t aG l k b).1
def Wc:List Bool→Nat→an→List Int
 | [],_,_=>[]
 |b ::r,k,l=>(AS n t aG l k b).1.ff ::Wc r (k+1) (AS n t aG l k b).1
def te(aK:Int):an:=an.mk (max t.bJ aK) 0 rG
def F_(aK:Int)(aQ:List Bool):aX×Int:=
 if(runK n t aG aQ 0 (te t aK)).2≠0 then(rG,(runK n t aG aQ 0 (te t aK)).2)else((runK n t aG aQ 0 (te t aK)).1.c9,0)
end
section
variable {n : aD} {t : al} {aG : List a6} {l : an} {k : Nat} {b : Bool}
theorem S2(h:qw n t aG){aK:Int}(hs:0≤aK∧aK≤4096):Hc 0 (te t aK):=by
 have h1:=h.opn;have h2:=h.b9;refine⟨?_,?_,Int.le_refl _,by show(0:Int)≤4096;omega,Int.le_refl _,Int.le_refl _,rfl⟩
 ·show 0≤max t.bJ aK;omega
 ·show max t.bJ aK≤8192;omega
theorem run_eq{p:bp}(h:qw p.x.bG p.t p.aG)(hs:0≤p.r.aK∧p.r.aK≤4096){aQ:List Bool}(hr:aQ.length=p.aG.length+1):pF p aQ=some (F_ p.x.bG p.t p.aG p.r.aK aQ):=by
 have Ql2:=h.few;apply post.eq;unfold pF;have Qhl:fL p=some (te p.t p.r.aK):=by
  unfold fL te;rw[DN];rfl
 show post (aR (fL p) _) _;rw[Qhl,ak];refine ba (R:=fun e:an⊕(aX×Int)=>e=(if(runK p.x.bG p.t p.aG aQ 0 (te p.t p.r.aK)).2≠0 then .inr (rG,(runK p.x.bG p.t p.aG aQ 0 (te p.t p.r.aK)).2)else .inl (runK p.x.bG p.t p.aG aQ 0 (te p.t p.r.aK)).1)) ?_ ?_
 ·refine eJ (fun s=>∃(k:Nat) (l:an),k≤aQ.length∧s=(p.t.bY,l,(k:Int))∧(k≤p.aG.length→Hc k l)∧runK p.x.bG p.t p.aG (aQ.drop k) k l=runK p.x.bG p.t p.aG aQ 0 (te p.t p.r.aK)) (fun s=>aQ.length-s.2.2.toNat) ⟨0,_,Nat.zero_le _,rfl,fun _=>S2 h hs,rfl⟩ (by simp;omega) ?_
  rintro _ ⟨k,l,hk,rfl,hL,hf⟩;show post (oz p aQ _ p.t.bY l (k:Int)) _;unfold oz;refine a_ (fun hb=>?_) (fun hb=>b5 ?_)
  ·simp only[js,az]at hb;have rS:k<aQ.length:=by omega
   have e1:aQ[k]?=some aQ[k]:=List.getElem?_eq_getElem rS;rw[bC e1,ak,inc rS (by omega)]
   rw[List.drop_eq_getElem_cons rS]at hf;simp only[runK]at hf;show post (aR (jW p l (k:Int) aQ[k]) _) _;rw[ZC h (hL (by omega)) (by omega),ak]
   generalize aQ[k]=b at *;refine a_ (fun hc=>b5 ?_) (fun hc=>bZ ⟨⟨k+1,(AS p.x.bG p.t p.aG l k b).1,by omega,rfl,fun h'=>?_,?_⟩,by simp;omega⟩)
   ·simp only[xb]at hc;rw[if_pos hc]at hf;rw[←hf,if_pos hc];rfl
   ·simp only[yX]at hc;exact TU h (hL (by omega)) (by omega) hc
   ·simp only[yX]at hc;rwa [if_neg (by simpa using hc)]at hf
  ·simp only[jY,az]at hb;rw[List.drop_eq_nil_of_le (by omega)]at hf
   simp only[runK]at hf;rw[←hf,if_neg (by simp)]
 ·rintro e rfl;unfold F_;split
  ·rw[nQ];exact aP.2 rfl
  ·rw[dw];exact aP.2 rfl
theorem step_eq{x:ab}{s:b6}(hn:OV x.bG)(ht:Ou s.xF)(hd:0≤s.fS∧s.fS≤4096)(hm:0≤s.ed∧s.ed≤1000000)(fN b9 late:Int):
  lB x t s fN b9 late=some (if(goN x.bG t.aT s.place fN s.xF).2.2≠0 then(s,12)else if b9<(goN x.bG t.aT s.place fN s.xF).1 then(s,late)
   else if t.iJ<s.fS+(goN x.bG t.aT s.place fN s.xF).1-s.xF then(s,16)
   else(b6.mk fN (goN x.bG t.aT s.place fN s.xF).1 (s.fS+(goN x.bG t.aT s.place fN s.xF).1-s.xF) (s.ed+(goN x.bG t.aT s.place fN s.xF).2.1),0)):=by
 unfold lB FQ;show aR (aR (xH x.bG t.aT s.place fN s.xF) _) _=_;rw[V9 hn _ _ _ ht,ak,ak];by_cases h0:(goN x.bG t.aT s.place fN s.xF).2.2=0
 ·have hb:=Iu hn ht h0;unfold Ou at ht;rw[bD (by simpa using h0),if_neg (by simpa using h0)]
  simp(disch:=omega) only[fp,wT,JI,w4];split
  ·rfl
  ·split <;> rfl
 ·rw[bq (by simpa using h0),if_pos h0]
def stS(t:al)(aG:List a6)(l:an)(k:Nat)(b:Bool):b6:=b6.mk (jX t aG k) (ka t l b) (sv l b) l.c9.ed
theorem Yi{ts:List bg}{a m d:Int}{e:Bool}{dep:Int}:patch (ts++[bg.mk a m d e]) ts.length dep b=ts++[bg.mk a m dep b]:=by
 unfold patch;rw[List.getElem?_append_right (Nat.le_refl _),Nat.sub_self];show(ts++[bg.mk a m d e]).set ts.length (bg.mk a m dep b)=_;rw[List.set_append_right _ _ (Nat.le_refl _),Nat.sub_self];rfl
theorem Qfx{x:ab}{r:ay}(hp:s_ x r=true)(hk:k<r.aq.length):∃v,r.aq[k]?=some v∧lC x v=some (du t (a7 x r) k,true):=by
 obtain⟨v,h1,h2⟩:=Wy hp (Lo (t:=t) (by rw[uI];exact hk))
 exact⟨v,h1,by rw[Nx,h2]⟩
theorem Ww{x:ab}{fN b9 late:Int}(hx:da x)(hT:qw x.bG t aG)(hL:Hc k l)(hk:k≤20)(h1:(du t aG k).place=fN)(h2:(du t aG k).b9=b9)(h3:(if k<aG.length then 14 else 15)=late):
  ∃X,lB x t (stS t aG l k b) fN b9 late=some X∧X.2=(AS x.bG t aG l k b).2∧
   ((AS x.bG t aG l k b).2=0→X=(b6.mk fN (goN x.bG t.aT (jX t aG k) (du t aG k).place (ka t l b)).1 (sv l b+(goN x.bG t.aT (jX t aG k) (du t aG k).place (ka t l b)).1-ka t l b) (l.c9.ed+(goN x.bG t.aT (jX t aG k) (du t aG k).place (ka t l b)).2.1),0)):=by
 have pq:=Tg (rest:=b) hT hL;have hsn:0≤sv l b∧sv l b≤4096:=by have:=hL.Ug;have:=hL.YB;unfold sv;split <;> omega
 have hm0:=hL.Ml;have hm1:=hL.Mm;have RZ:=step_eq (t:=t) (s:=stS t aG l k b) hx.bG pq hsn ⟨hm0,by show l.c9.ed≤1000000;omega⟩ fN b9 late
 subst h1 h2 h3;refine⟨_,RZ,?_,fun h0=>?_⟩
 ·unfold AS VU;show(if(goN x.bG t.aT (jX t aG k) (du t aG k).place (ka t l b)).2.2≠0 then _ else if(du t aG k).b9<(goN x.bG t.aT (jX t aG k) (du t aG k).place (ka t l b)).1 then _ else if t.iJ<sv l b+(goN x.bG t.aT (jX t aG k) (du t aG k).place (ka t l b)).1-ka t l b then _ else _:b6×Int).2=_
  split
  ·rfl
  ·split
   ·rfl
   ·split <;> rfl
 ·obtain⟨g0,g1,g2,g3⟩:=IP hT hL h0;show(if(goN x.bG t.aT (jX t aG k) (du t aG k).place (ka t l b)).2.2≠0 then _ else if(du t aG k).b9<(goN x.bG t.aT (jX t aG k) (du t aG k).place (ka t l b)).1 then _ else if t.iJ<sv l b+(goN x.bG t.aT (jX t aG k) (du t aG k).place (ka t l b)).1-ka t l b then _ else _:b6×Int)=_
  rw[if_neg (by simpa using g0),if_neg (by omega),if_neg (by omega)]
  rfl
theorem Yq{x:ab}{r:ay}{aQ:List Bool}(hx:da x)(hv:r.aq.length≤1048576):v_ x r aQ = some (if s_ x r = true∧aQ.length = r.aq.length + 1 then
      ((F_ x.bG (bI x r) (a7 x r) r.aK aQ).1,if(F_ x.bG (bI x r) (a7 x r) r.aK aQ).2 = 0 then Wc x.bG (bI x r) (a7 x r) aQ 0 (te (bI x r) r.aK)else [],(F_ x.bG (bI x r) (a7 x r) r.aK aQ).2)else(rG,[],2)):= by
  unfold v_;show aR (jT x r) _ = _;rw[ZI,ak];have AE:aU .i64 (az r.aq) 1 =(r.aq.length:Int) + 1:= by unfold az;exact fp (by omega) (by omega)
  rw[AE];by_cases hc:s_ x r = true∧aQ.length = r.aq.length + 1
  · obtain⟨hp,hr⟩:= hc;have h5:= of_decide_eq_true (Ab hp);have hT:= YJ hx hp;rw[if_pos ⟨hp,hr⟩,hp,bq (by simp only[Bool.not_true,Bool.false_or,yX,az];omega),(Un (Ab hp)).1,ak]
    have e0:aQ[0]? = some (aQ[0]'(by omega)):= List.getElem?_eq_getElem _
    rw[show bj aQ 0 = some (aQ[0]'(by omega))from bC (k:= 0) e0,ak]
    have hL0:= S2 hT ⟨h5.2.2.1,h5.2.2.2.1⟩;have Vz: ∀(s:b6) (b:Bool),0≤s.xF∧s.xF≤20000→tQ (bI x r) s b = some (b6.mk s.place (s.xF +(if b = true then(bI x r).bY else 0)) (if b = true then 0 else s.fS) s.ed):= by
      intro s b hs;have:= hT.rest;unfold tQ;cases b with
      |true => rw[fW,fp (by omega) (by omega)];rfl
      |false => rw[jg];simp
    have hmx:we (bI x r).bJ r.aK =(te (bI x r) r.aK).ready:= by rw[DN];rfl
    rw[hmx,Vz _ _ ⟨hL0.Yl,by have:= hL0.Ym;show(te (bI x r) r.aK).ready≤20000;omega⟩,ak]
    generalize hb0:aQ[0]'(by omega) = b0 at e0
    have QmO:b6.mk (bI x r).a8 ((te (bI x r) r.aK).ready +(if b0 = true then(bI x r).bY else 0)) (if b0 = true then 0 else 0) 0 = stS (bI x r) (a7 x r) (te (bI x r) r.aK) 0 b0:= rfl
    show aR (aL _ ([],[],b6.mk (bI x r).a8 ((te (bI x r) r.aK).ready +(if b0 = true then(bI x r).bY else 0)) (if b0 = true then 0 else 0) 0,ka (bI x r) (te (bI x r) r.aK) b0,0)) _ = _
    rw[QmO];apply post.eq;have Uy:= uI (x:= x) (r:= r)
    -- QfH Qu loop over Qu aq comes to
    refine ba (R:= fun e:(List Int × List bg × b6 × Int) ⊕(aX × List Int × Int) =>
      (∃Xw,Xw≠0∧e = .inr (rG,[],Xw)∧(runK x.bG (bI x r) (a7 x r) aQ 0 (te (bI x r) r.aK)).2 = Xw)∨
      (∃(l:an) (b:Bool) (dr:List Int) (dep:Int),Hc r.aq.length l∧e = .inl (dr,uk l r.aq.length (ka (bI x r) l b) b,stS (bI x r) (a7 x r) l r.aq.length b,dep)∧dr.length = r.aq.length∧
        (if r.aq.length = 0 then b else l.c9.bY) = b0∧(if r.aq.length = 0 then ka (bI x r) l b else l.c9.cF) = dep∧
        runK x.bG (bI x r) (a7 x r) [b] r.aq.length l = runK x.bG (bI x r) (a7 x r) aQ 0 (te (bI x r) r.aK)∧
        dr ++ Wc x.bG (bI x r) (a7 x r) [b] r.aq.length l = Wc x.bG (bI x r) (a7 x r) aQ 0 (te (bI x r) r.aK))) ?_ ?_
    · refine eJ (fun s => ∃(k:Nat) (l:an) (b:Bool) (dr:List Int) (dep:Int),k≤r.aq.length∧Hc k l∧aQ[k]? = some b∧s =(dr,uk l k (ka (bI x r) l b) b,stS (bI x r) (a7 x r) l k b,dep,(k:Int))∧dr.length = k∧
        (if k = 0 then b else l.c9.bY) = b0∧(if k = 0 then ka (bI x r) l b else l.c9.cF) = dep∧
        runK x.bG (bI x r) (a7 x r) (aQ.drop k) k l = runK x.bG (bI x r) (a7 x r) aQ 0 (te (bI x r) r.aK)∧
        dr ++ Wc x.bG (bI x r) (a7 x r) (aQ.drop k) k l = Wc x.bG (bI x r) (a7 x r) aQ 0 (te (bI x r) r.aK)) (fun s => r.aq.length - s.2.2.2.2.toNat)
        ⟨0,_,b0,[],_,Nat.zero_le _,hL0,e0,rfl,rfl,rfl,rfl,rfl,rfl⟩ (by simp;omega) ?_
      rintro _ ⟨k,l,b,dr,dep,hk,hL,hbk,rfl,hdr,hq1,hq2,hf,L8⟩;show post (wa x r aQ (bI x r) b0 dr (uk l k (ka (bI x r) l b) b) (stS (bI x r) (a7 x r) l k b) dep (k:Int)) _;unfold wa;have Uv:k < aQ.length:=(List.getElem?_eq_some_iff.1 hbk).1;have Vu:aQ.drop k = b ::aQ.drop (k + 1):= by
        rw[List.drop_eq_getElem_cons Uv];congr 1;rw[List.getElem?_eq_getElem Uv]at hbk;exact Option.some.inj hbk
      refine a_ (fun hb => ?_) (fun hb => b5 (.inr ?_))
      · simp only[js,az]at hb;have rS:k < r.aq.length:= by omega
        obtain⟨v,hv1,NL⟩:= Qfx (t:= bI x r) hp rS;rw[Vu]at hf L8;simp only[runK,Wc]at hf L8;rw[bC hv1,ak];show post (aR (lC x v) fun r3 => aR (lB x (bI x r) (stS (bI x r) (a7 x r) l k b) r3.1.place r3.1.b9 14) _) _
        have pq:= Tg (rest:= b) hT hL;have hsn:0≤sv l b∧sv l b≤4096:= by have:= hL.Ug;have:= hL.YB;unfold sv;split <;> omega
        have hm0:= hL.Ml;have hm1:= hL.Mm;obtain⟨X,hX1,hX2,hX3⟩:= Ww (b:= b) hx hT hL (by have:= h5.2.2.2.2;omega) (fN:=(du (bI x r) (a7 x r) k).place) (b9:=(du (bI x r) (a7 x r) k).b9) (late:= 14) rfl rfl (by rw[if_pos (by rw[Uy];exact rS)])
        rw[NL,ak,hX1,ak];by_cases h0:(AS x.bG (bI x r) (a7 x r) l k b).2 = 0
        · obtain⟨g0,g1,g2,g3⟩:= IP hT hL h0;have hL':= TU hT hL (by rw[Uy];exact rS) h0
          have hX4:= hX3 h0;rw[if_neg (by simpa using h0)]at hf
          have Oo:aQ[k + 1]? = some (aQ[k + 1]'(by omega)):= List.getElem?_eq_getElem _
          have hgb:= Iu hx.bG pq g0;have hS:= hT.du k;have h51:= hS.VX;have h52:= hS.Sq;have h53:= hS.b9;have h54:= hS.Wi;have h55:= hS.Wj;have Qmb:= pq;unfold Ou at Qmb;rw[bq (by rw[hX2];simpa using h0),hX4]
          simp only;have hkl:k <(a7 x r).length:= by rw[Uy];exact rS
          have XS:jX (bI x r) (a7 x r) (k + 1) =(du (bI x r) (a7 x r) k).place:= by
            show((a7 x r).getD k Lu).place =((a7 x r).getD k (Xv (bI x r))).place;rw[List.getD_eq_getElem?_getD,List.getD_eq_getElem?_getD,List.getElem?_eq_getElem hkl];rfl
          generalize hgg:goN x.bG (bI x r).aT (jX (bI x r) (a7 x r) k) (du (bI x r) (a7 x r) k).place (ka (bI x r) l b) = g at *;generalize EB:(AS x.bG (bI x r) (a7 x r) l k b).1 = l' at *;have Qjr:(dr ++ [sv l b + g.1 - ka (bI x r) l b]).length = k + 1:= by rw[List.length_append,hdr];rfl
          refine bW (dt (by rw[Qjr];omega)) ?_
          rw[inc (n:= r.aq.length) rS (by omega),show(k:Int) + 1 =((k + 1:Nat):Int) by omega,bC Oo,ak]
          generalize aQ[k + 1]'(by omega) = b' at Oo
          rw[DN,fp (by omega) (by omega),Vz _ _ ⟨by show 0≤max g.1 _ + _;omega,by show max g.1 _ + _≤20000;omega⟩,ak]
          refine bW (dt (by rw[List.length_append,An,hL.jv];simp;omega)) (bZ ⟨⟨k + 1,l',b',dr ++ [sv l b + g.1 - ka (bI x r) l b],dep,by omega,hL',Oo, ?_,Qjr, ?_, ?_,hf, ?_⟩,by simp;omega⟩)
          · rw[g3];have ht1:(uk l k (ka (bI x r) l b) b).length = k:= by rw[An,hL.jv]
            have ht2:uk (an.mk (max g.1 (du (bI x r) (a7 x r) k).bJ +(du (bI x r) (a7 x r) k).dn) (sv l b + g.1 - ka (bI x r) l b) (shS (bI x r) (a7 x r) l k b (ka (bI x r) l b) g)) (k + 1) (max g.1 (du (bI x r) (a7 x r) k).bJ +(du (bI x r) (a7 x r) k).dn +(if b' = true then(bI x r).bY else 0)) b' =
                uk l k (ka (bI x r) l b) b ++ [bg.mk g.1 (max g.1 (du (bI x r) (a7 x r) k).bJ) (max g.1 (du (bI x r) (a7 x r) k).bJ +(du (bI x r) (a7 x r) k).dn +(if b' = true then(bI x r).bY else 0)) b']:= by
              show patch (if k <(a7 x r).length then uk l k (ka (bI x r) l b) b ++ [bg.mk g.1 (max g.1 (du (bI x r) (a7 x r) k).bJ) 0 false]else _) k _ b' = _
              rw[if_pos hkl];have:= Yi (b:= b') (ts:= uk l k (ka (bI x r) l b) b) (a:= g.1) (m:= max g.1 (du (bI x r) (a7 x r) k).bJ) (d:= 0) (e:= false) (dep:= max g.1 (du (bI x r) (a7 x r) k).bJ +(du (bI x r) (a7 x r) k).dn +(if b' = true then(bI x r).bY else 0))
              rw[ht1]at this;exact this
            show(_,_,_,_,_) =(_,uk _ (k + 1) (max g.1 (du (bI x r) (a7 x r) k).bJ +(du (bI x r) (a7 x r) k).dn +(if b' = true then(bI x r).bY else 0)) b',_,_,_)
            rw[ht2];unfold stS;rw[XS];rfl
          · rw[if_neg (by omega),g3];exact hq1
          · rw[if_neg (by omega),g3];exact hq2
          · rw[←L8,List.append_assoc,g3];rfl
        · rw[bD (by rw[hX2];simpa using h0),hX2]
          rw[if_pos h0]at hf;exact b5 (.inl ⟨_,h0,rfl,by rw[←hf]⟩)
      · simp only[jY,az]at hb;have hkv:k = r.aq.length:= by omega
        subst hkv;have hd1:aQ.drop (r.aq.length + 1) = []:= List.drop_eq_nil_of_le (by omega)
        rw[Vu,hd1]at hf L8;exact⟨l,b,dr,dep,hL,rfl,hdr,hq1,hq2,hf,L8⟩
    · unfold F_;rintro e (⟨Xw,h1,rfl,h2⟩ |⟨l,b,dr,dep,hL,rfl,hdr,hq1,hq2,hf,L8⟩)
      · rw[nQ,h2,if_pos h1];refine aP.2 ?_
        simp only;rw[if_neg h1]
      · rw[dw];obtain⟨X,hX1,hX2,hX3⟩:= Ww (b:= b) hx hT hL (by have:= h5.2.2.2.2;omega) (fN:=(bI x r).fN) (b9:=(bI x r).b9) (late:= 15) (by rw[C3 (by rw[Uy];omega)];rfl) (by rw[C3 (by rw[Uy];omega)];rfl) (by rw[if_neg (by rw[Uy];omega)])
        show post (aR (lB x (bI x r) (stS (bI x r) (a7 x r) l r.aq.length b) (bI x r).fN (bI x r).b9 15) _) _;rw[hX1,ak];simp only[runK,Wc]at hf L8;by_cases h0:(AS x.bG (bI x r) (a7 x r) l r.aq.length b).2 = 0
        · obtain⟨g0,g1,g2,g3⟩:= IP hT hL h0;rw[if_neg (by simpa using h0)]at hf
          rw[bq (by rw[hX2];simpa using h0),hX3 h0,←hf,←L8]
          refine bW (dt (by simp;omega)) (aP.2 ?_)
          simp only[ne_eq,not_true_eq_false,if_false,if_true];rw[g3];unfold shS;have hnl: ¬r.aq.length <(a7 x r).length:= by rw[Uy];omega
          rw[hq1,hq2,if_neg hnl,if_neg hnl]
        · rw[if_pos h0]at hf;rw[bD (by rw[hX2];simpa using h0),←hf,hX2]
          refine aP.2 ?_
          simp only;rw[if_pos h0,if_neg h0];rfl
  · rw[if_neg hc];rw[bD]
    · rfl
    · by_cases hp:s_ x r = true
      · simp only[hp,Bool.not_true,Bool.false_or,xb,az];intro h;exact hc ⟨hp,by omega⟩
      · simp [hp]
end
section
variable {n : aD} {t : al} {aG : List a6} {aK : Int} {aQ : List Bool}
theorem QaQ{l:an}{k:Nat}{b:Bool}:(AS n t aG l k b).1.c9.jv.length≤l.c9.jv.length+1:=by
 unfold AS VU;split
 ·exact Nat.zero_le _
 ·split
  ·exact Nat.zero_le _
  ·split
   ·exact Nat.zero_le _
   ·show(if k<aG.length then _ else _:List bg).length≤_
    split
    ·rw[List.length_append,An];exact Nat.le_refl _
    ·rw[An];omega
theorem Qb:∀(aQ:List Bool) (k:Nat) (l:an),(runK n t aG aQ k l).1.c9.jv.length≤l.c9.jv.length+aQ.length
 | [],k,l=>by simp [runK]
 |b ::r,k,l=>by
  simp only[runK];split
  ·exact Nat.zero_le _
  ·have h1:=Qb r (k+1) (AS n t aG l k b).1;have h2:=QaQ (n:=n) (t:=t) (aG:=aG) (l:=l) (k:=k) (b:=b);simp only[List.length_cons];omega
end
def Qif(x:ab)(r:ay)(aQ:List Bool):aX×Int:=if s_ x r=true∧aQ.length=r.aq.length+1 then F_ x.bG (bI x r) (a7 x r) r.aK aQ else(rG,2)
theorem Yp{x:ab}{r:ay}{aQ:List Bool}(hx:da x)(hv:r.aq.length≤1048576):nv x r aQ=some (Qif x r aQ):=by
 unfold nv Qif;show aR (v_ x r aQ) _=_;rw[Yq hx hv,ak];split <;> rfl
section
variable {n : aD} {aT a8 t : Int}
theorem QeZ{S E:Type}{B:S→Option (S⊕E)}(C:Nat→S→Prop)(Q:E→Prop)
  (h:∀m s,C m s→post (B s) fun x=>(∀s',x=.inl s'→∃m',m'<m∧C m' s')∧∀e,x=.inr e→Q e):∀(n m:Nat) (s:S),C m s→m<n→post (qs B n s) Q:=by
 intro n;induction n with
 |zero=>intro m s _ hm;omega
 |succ n ih =>
  intro m s hs hm;obtain⟨x,hx,h1,h2⟩:=h m s hs;simp only[qs,hx];cases x with
  |inl s' =>
   obtain⟨m',h3,h4⟩:=h1 s' rfl;exact ih m' s' h4 (by omega)
  |inr e=>exact⟨e,rfl,h2 e rfl⟩
theorem V5{S E:Type}{B:S→Option (S⊕E)}(C:Nat→S→Prop){Q:E→Prop}{s:S}(m:Nat)(hs:C m s)(hm:m<18446744073709551616)
  (h:∀m s,C m s→post (B s) fun x=>(∀s',x=.inl s'→∃m',m'<m∧C m' s')∧∀e,x=.inr e→Q e):post (aL B s) Q:=QeZ C Q h _ m s hs hm
end
def ph(b:List Bool):Nat:=b.foldl (fun v c=>2*v+(if c=true then 1 else 0)) 0
theorem zr(b:List Bool)(c:Bool):ph (b++[c])=2*ph b+(if c=true then 1 else 0):=by simp [ph,List.foldl_append]
theorem QfD(b:List Bool):ph b<2 ^ b.length:=by
 have:∀(b:List Bool) (v:Nat),b.foldl (fun v c=>2*v+(if c=true then 1 else 0)) v<(v+1)*2 ^ b.length:=by
  intro b;induction b with
  |nil=>intro v;simp
  |cons c b ih =>
   intro v;have:=ih (2*v+(if c=true then 1 else 0))
   rw[List.foldl_cons,List.length_cons,Nat.pow_succ];refine Nat.lt_of_lt_of_le this ?_
   rw[show(v+1)*(2 ^ b.length*2)=(2*v+2)*2 ^ b.length by rw[Nat.mul_comm (2 ^ b.length) 2,←Nat.mul_assoc];congr 1;omega]
   exact Nat.mul_le_mul_right _ (by split <;> omega)
 simpa [ph]using this b 0
section
variable (n : aD) (t : al) (aG : List a6) (aK : Int)
def preB(b:List Bool):an×Int:=runK n t aG b 0 (te t aK)
def okB(b:List Bool):Prop:=(preB n t aG aK b).2=0
def n0(b:List Bool):an:=(preB n t aG aK b).1
def AU(d b:List Bool):Prop:=(n0 n t aG aK d).ready=(n0 n t aG aK b).ready∧(n0 n t aG aK d).ff≤(n0 n t aG aK b).ff
open Classical in
def oV(out:List (List Bool))(b:List Bool):List (List Bool):=if okB n t aG aK b∧¬∃d∈out,AU n t aG aK d b then out++[b]else out
end
section
variable {n : aD} {t : al} {aG : List a6} {aK : Int}
theorem G9:∀(b:List Bool) (k:Nat) (l:an) (c:Bool),(runK n t aG b k l).2=0→runK n t aG (b++[c]) k l=if(AS n t aG (runK n t aG b k l).1 (k+b.length) c).2≠0 then(Us,(AS n t aG (runK n t aG b k l).1 (k+b.length) c).2)else((AS n t aG (runK n t aG b k l).1 (k+b.length) c).1,0)
 | [],k,l,c,_=>rfl
 |a ::b,k,l,c,h=>by
  by_cases h0:(AS n t aG l k a).2=0
  ·have e:∀r,runK n t aG (a ::r) k l=runK n t aG r (k+1) (AS n t aG l k a).1:=fun r=>by
    simp only[runK];rw[if_neg (by simpa using h0)]
   rw[e]at h;have:=G9 b (k+1) _ c h;rw[List.cons_append,e,e,this,List.length_cons,show k+1+b.length=k+(b.length+1) by omega]
  ·simp only[runK]at h;rw[if_pos h0]at h;exact absurd h h0
theorem We:∀(b:List Bool) (k:Nat) (l:an) (c:Bool),(runK n t aG b k l).2≠0→(runK n t aG (b++[c]) k l).2≠0
 | [],k,l,c,h=>by simp [runK]at h
 |a ::b,k,l,c,h=>by
  simp only[runK,List.cons_append]at h ⊢;by_cases h0:(AS n t aG l k a).2=0
  ·rw[if_neg (by simpa using h0)]at h ⊢
   exact We b (k+1) _ c h
  ·rw[if_pos h0];exact h0
theorem wm{b:List Bool}{c:Bool}:okB n t aG aK (b++[c])↔okB n t aG aK b∧(AS n t aG (n0 n t aG aK b) b.length c).2=0:=by
 unfold okB n0 preB;constructor
 ·intro h;by_cases h0:(runK n t aG b 0 (te t aK)).2=0
  ·refine⟨h0,?_⟩;rw[G9 b 0 _ c h0,Nat.zero_add]at h;split at h
   ·rename_i h1;exact absurd h h1
   ·rename_i h1;simpa using h1
  ·exact absurd h (We b 0 _ c h0)
 ·rintro⟨h0,h1⟩;rw[G9 b 0 _ c h0,Nat.zero_add,if_neg (by simpa using h1)]
theorem FM{b:List Bool}{c:Bool}(h:okB n t aG aK (b++[c])):n0 n t aG aK (b++[c])=(AS n t aG (n0 n t aG aK b) b.length c).1:=by
 obtain⟨h0,h1⟩:=wm.1 h;unfold n0 preB at *;unfold okB preB at h0;rw[G9 b 0 _ c h0,Nat.zero_add,if_neg (by simpa using h1)]
theorem SB(hT:qw n t aG):∀(b:List Bool) (k:Nat) (l:an),Hc k l→k+b.length≤aG.length→(runK n t aG b k l).2=0→Hc (k+b.length) (runK n t aG b k l).1
 | [],k,l,hl,_,_=>hl
 |a ::b,k,l,hl,hk,h=>by
  simp only[runK]at h ⊢;simp only[List.length_cons]at hk;by_cases h0:(AS n t aG l k a).2=0
  ·rw[if_neg (by simpa using h0)]at h ⊢
   have:=SB hT b (k+1) _ (TU hT hl (by omega) h0) (by omega) h
   rwa [List.length_cons,show k+(b.length+1)=k+1+b.length by omega]
  ·rw[if_pos h0]at h;exact absurd h h0
theorem Kp(hT:qw n t aG)(hs:0≤aK∧aK≤4096){b:List Bool}(hb:b.length≤aG.length)(h:okB n t aG aK b):Hc b.length (n0 n t aG aK b):=by
 have:=SB hT b 0 (te t aK) (S2 hT hs) (by omega) h
 rwa [Nat.zero_add]at this
theorem Qfa(hT:qw n t aG){k:Nat}{l m:an}{c:Bool}(hl:Hc k l)(hm:Hc k m)(h1:l.ready=m.ready)(h2:l.ff≤m.ff)(h:(AS n t aG m k c).2=0):
  (AS n t aG l k c).2=0∧(AS n t aG l k c).1.ready=(AS n t aG m k c).1.ready∧(AS n t aG l k c).1.ff≤(AS n t aG m k c).1.ff:=by
 obtain⟨g0,g1,g2,g3⟩:=IP hT hm h;have hd:ka t l c=ka t m c:=by unfold ka;rw[h1]
 have hs:sv l c≤sv m c:=by unfold sv;split <;> omega
 have h0:(AS n t aG l k c).2=0:=by
  unfold AS VU;rw[hd,if_neg (by simpa using g0),if_neg (by omega),if_neg (by omega)]
 obtain⟨_,_,_,k3⟩:=IP hT hl h0;refine⟨h0,?_,?_⟩
 ·rw[k3,g3,hd]
 ·rw[k3,g3,hd];show sv l c+_-_≤sv m c+_-_;omega
theorem Z9(hT:qw n t aG)(hs:0≤aK∧aK≤4096){a b:List Bool}{c:Bool}(hl:a.length=b.length)(hb:b.length≤aG.length)(ha:okB n t aG aK a)(h:okB n t aG aK (b++[c]))(QA:AU n t aG aK a b):
  okB n t aG aK (a++[c])∧AU n t aG aK (a++[c]) (b++[c]):=by
 obtain⟨h0,h1⟩:=wm.1 h;have la:=Kp hT hs (by omega) ha
 have lb:=Kp hT hs hb h0;rw[hl]at la;obtain⟨d1,d2,d3⟩:=Qfa hT la lb QA.1 QA.2 h1;have ho:okB n t aG aK (a++[c]):=wm.2 ⟨ha,by rw[hl];exact d1⟩
 refine⟨ho,?_⟩;unfold AU;rw[FM ho,FM h,hl];exact⟨d2,d3⟩
theorem RG{a:List Bool}:AU n t aG aK a a:=⟨rfl,Int.le_refl _⟩
theorem Xm{a b c:List Bool}(h:AU n t aG aK a b)(h':AU n t aG aK b c):AU n t aG aK a c:=⟨h.1.trans h'.1,Int.le_trans h.2 h'.2⟩
theorem Tm:∀(items out:List (List Bool)),(∀b∈out,okB n t aG aK b)→out.Pairwise (fun a b=>ph a<ph b)→items.Pairwise (fun a b=>ph a<ph b)→(∀a∈out,∀b∈items,ph a<ph b)→
  (∀b∈items.foldl (oV n t aG aK) out,okB n t aG aK b∧(b∈out∨b∈items))∧(items.foldl (oV n t aG aK) out).Pairwise (fun a b=>ph a<ph b)∧(∀b∈out,b∈items.foldl (oV n t aG aK) out)∧
  (∀b∈items,okB n t aG aK b→∃d∈items.foldl (oV n t aG aK) out,ph d≤ph b∧AU n t aG aK d b)
 | [],out,h1,h2,_,_=>⟨fun b hb=>⟨h1 b hb,.inl hb⟩,h2,fun b hb=>hb,fun b hb=>by simp at hb⟩
 |x ::items,out,h1,h2,h3,h4=>by
  rw[List.pairwise_cons]at h3;rw[List.foldl_cons];by_cases hx:okB n t aG aK x∧¬∃d∈out,AU n t aG aK d x
  ·have kK:oV n t aG aK out x=out++[x]:=if_pos hx;rw[kK];have key:=Tm items (out++[x]) (fun b hb=>by
    rcases List.mem_append.1 hb with h|h
    ·exact h1 b h
    ·rw[List.mem_singleton.1 h];exact hx.1) (by
    rw[List.pairwise_append];exact⟨h2,List.pairwise_singleton _ _,fun a ha b hb=>by rw[List.mem_singleton.1 hb];exact h4 a ha x (by simp)⟩) h3.2 (fun a ha b hb=>by
    rcases List.mem_append.1 ha with h|h
    ·exact h4 a h b (by simp [hb])
    ·rw[List.mem_singleton.1 h];exact h3.1 b hb)
   obtain⟨k1,k2,k3,k4⟩:=key;refine⟨fun b hb=>⟨(k1 b hb).1,?_⟩,k2,fun b hb=>k3 b (by simp [hb]),fun b hb B3=>?_⟩
   ·rcases(k1 b hb).2 with h|h
    ·rcases List.mem_append.1 h with h'|h'
     ·exact .inl h'
     ·rw[List.mem_singleton.1 h'];exact .inr (by simp)
    ·exact .inr (by simp [h])
   ·rcases List.mem_cons.1 hb with rfl|hb
    ·exact⟨b,k3 b (by simp),Nat.le_refl _,RG⟩
    ·exact k4 b hb B3
  ·have kK:oV n t aG aK out x=out:=if_neg hx;rw[kK];obtain⟨k1,k2,k3,k4⟩:=Tm items out h1 h2 h3.2 (fun a ha b hb=>h4 a ha b (by simp [hb]))
   refine⟨fun b hb=>⟨(k1 b hb).1,?_⟩,k2,k3,fun b hb B3=>?_⟩
   ·rcases(k1 b hb).2 with h|h
    ·exact .inl h
    ·exact .inr (by simp [h])
   ·rcases List.mem_cons.1 hb with rfl|hb
    ·obtain⟨d,hd,QA⟩:∃d∈out,AU n t aG aK d b:=Classical.byContradiction fun h=>hx ⟨B3,h⟩
     exact⟨d,k3 d hd,Nat.le_of_lt (h4 d hd b (by simp)),QA⟩
    ·exact k4 b hb B3
end
section
variable (aQ : List Bool)
def B_(k:Nat):List Bool:=match aQ[k]? with
 |some b=>[b]
 |none=>[false,true]
def Vf(b:List Bool):Prop:=∀i x,b[i]?=some x→x∈B_ aQ i
def BA(P:List (List Bool))(k:Nat):List (List Bool):=P.flatMap fun a=>(B_ aQ k).map fun c=>a++[c]
end
section
variable {n : aD} {t : al} {aG : List a6} {aK : Int} {aQ : List Bool}
structure StB (n:aD) (t:al) (aG:List a6) (aK:Int) (aQ:List Bool) (k:Nat) (P:List (List Bool)):Prop where
 ok:∀b∈P,okB n t aG aK b∧b.length=k∧Vf aQ b
 inc:P.Pairwise (fun a b=>ph a<ph b)
 cov:∀b,b.length=k→Vf aQ b→okB n t aG aK b→∃a∈P,ph a≤ph b∧AU n t aG aK a b
theorem Qei(k:Nat):(B_ aQ k).Pairwise (fun a b=>(if a=true then 1 else 0:Nat)<(if b=true then 1 else 0)):=by
 unfold B_;split
 ·exact List.pairwise_singleton _ _
 ·simp
theorem Vh{b:List Bool}{c:Bool}:Vf aQ (b++[c])↔Vf aQ b∧c∈B_ aQ b.length:=by
 unfold Vf;constructor
 ·intro h;refine⟨fun i x hx=>h i x (by rw[List.getElem?_append_left (List.getElem?_eq_some_iff.1 hx).1];exact hx),h b.length c (by simp)⟩
 ·rintro⟨h1,h2⟩ i x hx;rcases Nat.lt_or_ge i b.length with hi|hi
  ·rw[List.getElem?_append_left hi]at hx;exact h1 i x hx
  ·rw[List.getElem?_append_right hi]at hx;have:i-b.length=0:=by
    have:=(List.getElem?_eq_some_iff.1 hx).1;simp at this;omega
   rw[this]at hx;have Pu:i=b.length:=by omega
   subst Pu;have:c=x:=by simpa using hx
   rw[←this];exact h2
theorem QaD{P:List (List Bool)}(k:Nat)(h:P.Pairwise (fun a b=>ph a<ph b)):(BA aQ P k).Pairwise (fun a b=>ph a<ph b):=by
 unfold BA;induction P with
 |nil=>simp
 |cons a P ih =>
  rw[List.pairwise_cons]at h;rw[List.flatMap_cons,List.pairwise_append];refine⟨?_,ih h.2,?_⟩
  ·rw[List.pairwise_map];exact(Qei (aQ:=aQ) k).imp fun hab=>by rw[zr,zr];omega
  ·intro x hx y hy;obtain⟨c,_,rfl⟩:=List.mem_map.1 hx;obtain⟨b,hb,hy⟩:=List.mem_flatMap.1 hy;obtain⟨d,_,rfl⟩:=List.mem_map.1 hy;have:=h.1 b hb;rw[zr,zr];split <;> split <;> omega
theorem StB.zero:StB n t aG aK aQ 0 [[]]:=
 ⟨fun b hb=>by rw[List.mem_singleton.1 hb];exact⟨rfl,rfl,fun i x hx=>by simp at hx⟩,List.pairwise_singleton _ _,fun b hb _ _=>⟨[],by simp,by rw[List.length_eq_zero_iff.1 hb];exact Nat.le_refl _,by rw[List.length_eq_zero_iff.1 hb];exact RG⟩⟩
theorem StB.next(hT:qw n t aG)(hs:0≤aK∧aK≤4096){k:Nat}{P:List (List Bool)}(h:StB n t aG aK aQ k P)(hk:k≤aG.length):StB n t aG aK aQ (k+1) ((BA aQ P k).foldl (oV n t aG aK) []):=by
 obtain⟨k1,k2,k3,k4⟩:=Tm (n:=n) (t:=t) (aG:=aG) (aK:=aK) (BA aQ P k) [] (fun b hb=>by simp at hb) List.Pairwise.nil (QaD k h.inc) (fun a ha=>by simp at ha)
 refine⟨fun b hb=>⟨(k1 b hb).1,?_⟩,k2,fun b hb hf B3=>?_⟩
 ·rcases(k1 b hb).2 with h'|h'
  ·simp at h'
  ·obtain⟨a,ha,hx⟩:=List.mem_flatMap.1 h';obtain⟨c,hc,rfl⟩:=List.mem_map.1 hx;obtain⟨_,q2,q3⟩:=h.ok a ha;exact⟨by simp [q2],Vh.2 ⟨q3,by rw[q2];exact hc⟩⟩
 ·obtain⟨b0,c,rfl⟩:∃b0 c,b=b0++[c]:=by
   rcases List.eq_nil_or_concat b with rfl|⟨b0,c,rfl⟩
   ·simp at hb
   ·exact⟨b0,c,by simp⟩
  have hb0:b0.length=k:=by simpa using hb
  obtain⟨f1,f2⟩:=Vh.1 hf;obtain⟨o1,o2⟩:=wm.1 B3;obtain⟨a,ha,hv,QA⟩:=h.cov b0 hb0 f1 o1;obtain⟨q1,q2,q3⟩:=h.ok a ha;obtain⟨r1,r2⟩:=Z9 hT hs (by omega) (by omega) q1 B3 QA
  have tZ:a++[c]∈BA aQ P k:=List.mem_flatMap.2 ⟨a,ha,List.mem_map.2 ⟨c,by rw[←hb0];exact f2,rfl⟩⟩
  obtain⟨d,hd,hdv,hdb⟩:=k4 _ tZ r1;refine⟨d,hd,?_,Xm hdb r2⟩;rw[zr]at hdv ⊢;omega
end
theorem QQ{L:List an}{c:an}(hL:L.length≤1048576):post (cb L c) fun b=>(b=true↔∃m∈L,m.ready=c.ready∧m.ff≤c.ff):=by
 unfold cb dy;show post (aR (aR (aL (fun s=>bw L c s) 0) _) _) _
 have h:post (aL (fun s=>bw L c s) 0) fun e=>(∃u,e=.inl u∧¬∃m∈L,m.ready=c.ready∧m.ff≤c.ff)∨(∃i:Nat,e=.inr (i:Int)∧∃m∈L,m.ready=c.ready∧m.ff≤c.ff):=by
  refine zp (B:=fun s=>bw L c s) L.length _ (fun i=>∀m,L[i]?=some m→¬(m.ready=c.ready∧m.ff≤c.ff)) (by omega) (fun i hi=>?_) ?_
  ·show post (bw L c (i:Int)) _;unfold bw;have e1:L[i]?=some L[i]:=List.getElem?_eq_getElem hi;rw[bD (by simp [az];omega),bC e1,ak,inc hi hL]
   show post (aR (ou L[i] c) _) _;have hb:ou L[i] c=some (cM L[i].ready c.ready&&fT L[i].ff c.ff):=rfl;rw[hb,ak];refine a_ (fun h=>aP.2 (.inr ⟨_,rfl,.inr ⟨i,rfl,L[i],List.getElem_mem hi,?_⟩⟩)) (fun h=>aP.2 (.inl ⟨rfl,fun m hm=>?_⟩))
   ·simpa only[Ih,kJ,yS]using h
   ·rw[e1]at hm;cases hm;intro hh;have:(cM L[i].ready c.ready&&fT L[i].ff c.ff)=true:=by simp only[Ih,kJ,yS];exact hh
    rw[this]at h;cases h
  ·show post (bw L c (L.length:Int)) _;unfold bw;rw[bq (by simp [az])]
   refine aP.2 ⟨_,rfl,fun h=>.inl ⟨_,rfl,?_⟩⟩
   rintro⟨m,hm,hh⟩;obtain⟨i,hi⟩:=List.getElem?_of_mem hm;exact h i (List.getElem?_eq_some_iff.1 hi).1 m hi hh
 obtain⟨e,he,h⟩:=h;rw[he,ak];rcases h with⟨u,rfl,h⟩|⟨i,rfl,h⟩
 ·rw[dw,ak];refine aP.2 ⟨fun hh=>?_,fun hh=>absurd hh h⟩
  simp only[nk]at hh;omega
 ·rw[nQ,ak];refine aP.2 ⟨fun _=>h,fun _=>?_⟩
  simp only[nk];omega
theorem Zp:∀{P:List (List Bool)} {lo hi:Nat},P.Pairwise (fun a b=>ph a<ph b)→(∀b∈P,lo≤ph b∧ph b<hi)→P.length+lo≤hi∨P=[]
 | [],_,_,_,_=>.inr rfl
 |a ::P,lo,hi,h,hb=>by
  rw[List.pairwise_cons]at h;have ha:=hb a (by simp)
  rcases Zp (P:=P) (lo:=lo+1) (hi:=hi) h.2 (fun b WO=>⟨by have:=h.1 b WO;omega,(hb b (by simp [WO])).2⟩)with h1|h1
  ·left;simp only[List.length_cons];omega
  ·left;rw[h1];simp only[List.length_singleton];omega
section
variable {n : aD} {t : al} {aG : List a6} {aK : Int} {aQ : List Bool}
theorem StB.len{k:Nat}{P:List (List Bool)}(h:StB n t aG aK aQ k P):P.length≤2 ^ k:=by
 rcases Zp (lo:=0) (hi:=2 ^ k) h.inc (fun b hb=>⟨Nat.zero_le _,by have:=QfD b;rwa [(h.ok b hb).2.1]at this⟩)with h1|h1
 ·omega
 ·rw[h1];exact Nat.zero_le _
theorem Qbc{out:List (List Bool)}{b:List Bool}:(oV n t aG aK out b).length≤out.length+1:=by unfold oV;split <;> simp
theorem Pj:∀{items out:List (List Bool)},(items.foldl (oV n t aG aK) out).length≤out.length+items.length
 | [],out=>by simp
 |x ::items,out=>by
  rw[List.foldl_cons];have h1:=Pj (items:=items) (out:=oV n t aG aK out x);have h2:=Qbc (n:=n) (t:=t) (aG:=aG) (aK:=aK) (out:=out) (b:=x);simp only[List.length_cons];omega
theorem YW(k:Nat):(B_ aQ k).length≤2:=by unfold B_;split <;> simp
theorem Xy{P:List (List Bool)}{k:Nat}{out:List (List Bool)}:(BA aQ P k).foldl (oV n t aG aK) out=P.foldl (fun out a=>((B_ aQ k).map fun c=>a++[c]).foldl (oV n t aG aK) out) out:=by
 unfold BA;induction P generalizing out with
 |nil=>rfl
 |cons a P ih=>rw[List.flatMap_cons,List.foldl_append,ih,List.foldl_cons]
theorem RT{k:Nat}:∀{P:List (List Bool)} {out:List (List Bool)},(P.foldl (fun out a=>((B_ aQ k).map fun c=>a++[c]).foldl (oV n t aG aK) out) out).length≤out.length+2*P.length
 | [],out=>by simp
 |a ::P,out=>by
  rw[List.foldl_cons];have h1:=RT (k:=k) (P:=P) (out:=((B_ aQ k).map fun c=>a++[c]).foldl (oV n t aG aK) out)
  have h2:=Pj (n:=n) (t:=t) (aG:=aG) (aK:=aK) (items:=(B_ aQ k).map fun c=>a++[c]) (out:=out)
  have h3:=YW (aQ:=aQ) k;rw[List.length_map]at h2;simp only[List.length_cons];omega
theorem Qev{p:bp}(hT:qw p.x.bG p.t p.aG)(hs:0≤aK∧aK≤4096){k:Nat}{P:List (List Bool)}(hP:StB p.x.bG p.t p.aG aK p.r.aQ k P)(hk:k≤p.aG.length)(h9:p.aG.length≤9)(hr:p.r.aQ.length≤1048576):
  lv p (P.map (n0 p.x.bG p.t p.aG aK)) k=some (((BA p.r.aQ P k).foldl (oV p.x.bG p.t p.aG aK) []).map (n0 p.x.bG p.t p.aG aK)):=by
 have hPl:P.length≤512:=Nat.le_trans hP.len (Nat.le_trans (Nat.pow_le_pow_right (by omega) (show k≤9 by omega)) (by omega))
 have hJ:kn p (P.map (n0 p.x.bG p.t p.aG aK)) k (B_ p.r.aQ k)=some (((BA p.r.aQ P k).foldl (oV p.x.bG p.t p.aG aK) []).map (n0 p.x.bG p.t p.aG aK)):=by
  unfold kn;rw[Xy];have Pv:aL (fun s=>fu p (P.map (n0 p.x.bG p.t p.aG aK)) k (B_ p.r.aQ k) s.1 s.2) ([],0)=some ((P.foldl (fun out a=>((B_ p.r.aQ k).map fun c=>a++[c]).foldl (oV p.x.bG p.t p.aG aK) out) []).map (n0 p.x.bG p.t p.aG aK)):=by
   have e:=il (B:=fun s:List an×Int=>fu p (P.map (n0 p.x.bG p.t p.aG aK)) k (B_ p.r.aQ k) s.1 s.2) (e:=(P.foldl (fun out a=>((B_ p.r.aQ k).map fun c=>a++[c]).foldl (oV p.x.bG p.t p.aG aK) out) []).map (n0 p.x.bG p.t p.aG aK))
    P.length (fun v=>(((P.take v).foldl (fun out a=>((B_ p.r.aQ k).map fun c=>a++[c]).foldl (oV p.x.bG p.t p.aG aK) out) []).map (n0 p.x.bG p.t p.aG aK),(v:Int))) (by omega) (fun v hv=>?_) ?_
   ·exact e
   ·have e1:P[v]?=some P[v]:=List.getElem?_eq_getElem hv;obtain⟨q1,q2,q3⟩:=hP.ok _ (List.getElem_mem hv);have hQl:=RT (n:=p.x.bG) (t:=p.t) (aG:=p.aG) (aK:=aK) (aQ:=p.r.aQ) (k:=k) (P:=P.take v) (out:=[]);rw[List.length_take,List.length_nil]at hQl;have hLI:=Kp hT hs (by omega) q1
    rw[q2]at hLI;rw[List.take_add_one,e1];simp only[Option.toList,List.foldl_append,List.foldl_cons,List.foldl_nil];generalize(P.take v).foldl (fun out a=>((B_ p.r.aQ k).map fun c=>a++[c]).foldl (oV p.x.bG p.t p.aG aK) out) []=Q at hQl
    show fu p (P.map (n0 p.x.bG p.t p.aG aK)) k (B_ p.r.aQ k) (Q.map (n0 p.x.bG p.t p.aG aK)) (v:Int)=_;unfold fu;rw[bD (by simp [az];exact hv),bC (show(P.map (n0 p.x.bG p.t p.aG aK))[v]?=some (n0 p.x.bG p.t p.aG aK P[v]) by rw[List.getElem?_map,e1];rfl),ak,inc (n:=P.length) hv (by omega)]
    generalize P[v]=a at *;have Ee:=YW (aQ:=p.r.aQ) k;have Zf:aL (fun s=>fv p (P.map (n0 p.x.bG p.t p.aG aK)) k (B_ p.r.aQ k) v (n0 p.x.bG p.t p.aG aK a) s.1 s.2) (Q.map (n0 p.x.bG p.t p.aG aK),0)=some ((((B_ p.r.aQ k).map fun c=>a++[c]).foldl (oV p.x.bG p.t p.aG aK) Q).map (n0 p.x.bG p.t p.aG aK)):=by
     have e2:=il (B:=fun s:List an×Int=>fv p (P.map (n0 p.x.bG p.t p.aG aK)) k (B_ p.r.aQ k) v (n0 p.x.bG p.t p.aG aK a) s.1 s.2) (e:=(((B_ p.r.aQ k).map fun c=>a++[c]).foldl (oV p.x.bG p.t p.aG aK) Q).map (n0 p.x.bG p.t p.aG aK))
      (B_ p.r.aQ k).length (fun i=>(((((B_ p.r.aQ k).take i).map fun c=>a++[c]).foldl (oV p.x.bG p.t p.aG aK) Q).map (n0 p.x.bG p.t p.aG aK),(i:Int))) (by omega) (fun i hi=>?_) ?_
     ·exact e2
     ·have e3:(B_ p.r.aQ k)[i]?=some (B_ p.r.aQ k)[i]:=List.getElem?_eq_getElem hi;have NI:=Pj (n:=p.x.bG) (t:=p.t) (aG:=p.aG) (aK:=aK) (items:=((B_ p.r.aQ k).take i).map fun c=>a++[c]) (out:=Q)
      rw[List.length_map,List.length_take]at NI;rw[List.take_add_one,e3];simp only[Option.toList,List.map_append,List.map_cons,List.map_nil,List.foldl_append,List.foldl_cons,List.foldl_nil];generalize(((B_ p.r.aQ k).take i).map fun c=>a++[c]).foldl (oV p.x.bG p.t p.aG aK) Q=R at NI
      show fv p (P.map (n0 p.x.bG p.t p.aG aK)) k (B_ p.r.aQ k) v (n0 p.x.bG p.t p.aG aK a) (R.map (n0 p.x.bG p.t p.aG aK)) (i:Int)=_;unfold fv;rw[bD (by simp [az];exact hi),bC e3,ak,inc (n:=(B_ p.r.aQ k).length) hi (by omega)]
      generalize(B_ p.r.aQ k)[i]=c at *;show aR (jW p (n0 p.x.bG p.t p.aG aK a) k c) _=_;rw[ZC hT hLI hk,ak];have Qjo:((i+1:Nat):Int)=(i:Int)+1:=by omega
      rw[Qjo];by_cases h0:(AS p.x.bG p.t p.aG (n0 p.x.bG p.t p.aG aK a) k c).2=0
      ·have B3:okB p.x.bG p.t p.aG aK (a++[c]):=wm.2 ⟨q1,by rw[q2];exact h0⟩
       have hlb:=FM B3;rw[q2]at hlb;rw[bD (by simpa using h0)]
       obtain⟨bb,Oo,Oq⟩:=QQ (L:=R.map (n0 p.x.bG p.t p.aG aK)) (c:=(AS p.x.bG p.t p.aG (n0 p.x.bG p.t p.aG aK a) k c).1) (by rw[List.length_map];omega)
       show aR (cb (R.map (n0 p.x.bG p.t p.aG aK)) (AS p.x.bG p.t p.aG (n0 p.x.bG p.t p.aG aK a) k c).1) _=_;rw[Oo,ak];have Qma:(∃m∈R.map (n0 p.x.bG p.t p.aG aK),m.ready=(AS p.x.bG p.t p.aG (n0 p.x.bG p.t p.aG aK a) k c).1.ready∧m.ff≤(AS p.x.bG p.t p.aG (n0 p.x.bG p.t p.aG aK a) k c).1.ff)↔∃d∈R,AU p.x.bG p.t p.aG aK d (a++[c]):=by
        unfold AU;rw[hlb];constructor
        ·rintro⟨m,hm,h1⟩;obtain⟨d,hd,rfl⟩:=List.mem_map.1 hm;exact⟨d,hd,h1⟩
        ·rintro⟨d,hd,h1⟩;exact⟨_,List.mem_map.2 ⟨d,hd,rfl⟩,h1⟩
       rw[Qma]at Oq;cases bb with
       |true =>
        have kK:oV p.x.bG p.t p.aG aK R (a++[c])=R:=if_neg (fun h=>h.2 (Oq.1 rfl))
        rw[fW,kK]
       |false =>
        have kK:oV p.x.bG p.t p.aG aK R (a++[c])=R++[a++[c]]:=if_pos ⟨B3,fun h=>by have:=Oq.2 h;cases this⟩
        rw[jg,kK,fg (dt (by simp;omega)),List.map_append,List.map_cons,List.map_nil,hlb]
      ·have hno:¬okB p.x.bG p.t p.aG aK (a++[c]):=fun h=>by have:=(wm.1 h).2;rw[q2]at this;exact h0 this
       have kK:oV p.x.bG p.t p.aG aK R (a++[c])=R:=if_neg (fun h=>hno h.1)
       rw[bq (by simpa using h0),kK]
     ·show fv p _ k (B_ p.r.aQ k) v _ _ ((B_ p.r.aQ k).length:Int)=_;unfold fv;rw[bq (by simp [az]),List.take_length]
    rw[Zf,ak,show((v+1:Nat):Int)=(v:Int)+1 by omega]
   ·show fu p (P.map (n0 p.x.bG p.t p.aG aK)) k (B_ p.r.aQ k) _ (P.length:Int)=_;unfold fu;rw[bq (by simp [az]),List.take_length]
  rw[Pv,ak]
 unfold lv;by_cases Uv:k<p.r.aQ.length
 ·have e1:p.r.aQ[k]?=some p.r.aQ[k]:=List.getElem?_eq_getElem Uv;have hch:B_ p.r.aQ k=[p.r.aQ[k]]:=by unfold B_;rw[e1]
  have Uy:wS p.r.aQ (k:Int) (aU .i64 (k:Int) 1)=some [p.r.aQ[k]]:=by
   rw[inc Uv hr];unfold wS;rw[if_pos ⟨by omega,by omega,by omega⟩,show((k:Int)+1).toNat-(k:Int).toNat=1 by omega,Int.toNat_natCast,List.drop_eq_getElem_cons Uv]
   rfl
  rw[bD (by simp [az];exact Uv),Uy,ak,←hch]
  exact hJ
 ·have hch:B_ p.r.aQ k=[false,true]:=by unfold B_;rw[List.getElem?_eq_none (by omega)]
  rw[bq (by simp [az];omega),←hch]
  exact hJ
end
section
variable (n : aD) (t : al) (aG : List a6) (aK : Int) (aQ : List Bool)
def Al:Nat→List (List Bool)
 |0=>[[]]
 |k+1=>(BA aQ (Al k) k).foldl (oV n t aG aK) []
def Ec(b:List Bool):Prop:=b.length=aG.length+1∧Vf aQ b∧okB n t aG aK b
def uS(b:List Bool):Int:=(n0 n t aG aK b).c9.oY
def X8(b:List Bool):Prop:=∀q,Ec n t aG aK aQ q→uS n t aG aK b≤uS n t aG aK q∧(uS n t aG aK q=uS n t aG aK b→ph b≤ph q)
end
section
variable {n : aD} {t : al} {aG : List a6} {aK : Int} {aQ : List Bool}
theorem Qr(hT:qw n t aG)(hs:0≤aK∧aK≤4096):∀k,k≤aG.length+1→StB n t aG aK aQ k (Al n t aG aK aQ k)
 |0,_=>StB.zero
 |k+1,hk=>StB.next hT hs (Qr hT hs k (by omega)) (by omega)
theorem RN(hT:qw n t aG)(hs:0≤aK∧aK≤4096){b:List Bool}(hl:b.length=aG.length+1)(B3:okB n t aG aK b):uS n t aG aK b=(n0 n t aG aK b).ready:=by
 obtain⟨b0,c,rfl⟩:∃b0 c,b=b0++[c]:=by
  rcases List.eq_nil_or_concat b with rfl|⟨b0,c,rfl⟩
  ·simp at hl
  ·exact⟨b0,c,by simp⟩
 have hb0:b0.length=aG.length:=by simpa using hl
 obtain⟨o1,o2⟩:=wm.1 B3;have hL:=Kp hT hs (by omega) o1
 obtain⟨g0,g1,g2,g3⟩:=IP hT hL o2;have pq:=Tg (rest:=c) hT hL;have hg:=(Iu hT.bG pq g0).1;unfold Ou at pq;unfold uS;rw[FM B3,g3];have hn:¬b0.length<aG.length:=by omega
 rw[C3 hn]at hg ⊢;show(if b0.length<aG.length then _ else _:Int)=max _ (0:Int)+0
 rw[if_neg hn];omega
theorem Sr(e:List Bool→Int):∀(items S:List (List Bool)) (b:List Bool),b∈S→(∀q∈S,e b≤e q∧(e q=e b→ph b≤ph q))→(∀s∈S,∀q∈items,ph s<ph q)→items.Pairwise (fun a b=>ph a<ph b)→
  (items.foldl (fun b q=>if e q<e b then q else b) b)∈S++items∧∀q∈S++items,e (items.foldl (fun b q=>if e q<e b then q else b) b)≤e q∧(e q=e (items.foldl (fun b q=>if e q<e b then q else b) b)→ph (items.foldl (fun b q=>if e q<e b then q else b) b)≤ph q)
 | [],S,b,hb,hm,_,_=>by simpa using⟨hb,hm⟩
 |x ::items,S,b,hb,hm,hv,hp=>by
  rw[List.pairwise_cons]at hp;have e1:S++x ::items=(S++[x])++items:=by simp
  rw[List.foldl_cons,e1];refine Sr e items (S++[x]) _ ?_ ?_ (fun s hs q hq=>?_) hp.2
  ·split
   ·simp
   ·simp [hb]
  ·intro q hq;rcases List.mem_append.1 hq with h|h
   ·have:=hm q h;split
    ·exact⟨by omega,fun h2=>by omega⟩
    ·exact this
   ·rw[List.mem_singleton.1 h];split
    ·exact⟨Int.le_refl _,fun _=>Nat.le_refl _⟩
    ·exact⟨by omega,fun _=>Nat.le_of_lt (hv b hb x (by simp))⟩
  ·rcases List.mem_append.1 hs with h|h
   ·exact hv s h q (by simp [hq])
   ·rw[List.mem_singleton.1 h];exact hp.1 q hq
theorem Qac{x:ab}{r:ay}(hx:da x)(hR:rr r)(h9:¬(9<r.aq.length∧r.aq.length≤20)):
  post (xg x r) fun res=>(¬(s_ x r=true∧r.aQ.length≤r.aq.length+1)∧res=(rG,2))∨
   ((s_ x r=true∧r.aQ.length≤r.aq.length+1)∧((∃ b,Ec x.bG (bI x r) (a7 x r) r.aK r.aQ b∧X8 x.bG (bI x r) (a7 x r) r.aK r.aQ b∧res=((n0 x.bG (bI x r) (a7 x r) r.aK b).c9,0)) ∨
    ((∀b,¬Ec x.bG (bI x r) (a7 x r) r.aK r.aQ b)∧res=F_ x.bG (bI x r) (a7 x r) r.aK (r.aQ++List.replicate (r.aq.length+1-r.aQ.length) false)))):=by
 have hv:=hR.aq;have hr:=hR.aQ;unfold xg;show post (aR (xh x r) _) _;have AE:aU .i64 (az r.aq) 1=((r.aq.length+1:Nat):Int):=by unfold az;rw[fp (by omega) (by omega)];omega
 rw[Qfg,ak,AE];by_cases hp:s_ x r=true
 ·rw[if_pos hp];have h5:=of_decide_eq_true (Ab hp);have Uy:=uI (x:=x) (r:=r);have hT:=YJ hx hp;have hs:0≤r.aK∧r.aK≤4096:=⟨h5.2.2.1,h5.2.2.2.1⟩;by_cases hc:r.aQ.length≤r.aq.length+1
  ·rw[bq (by simp only[Bool.not_true,Bool.false_or,pL,az];omega)]
   generalize hpp:bp.mk x (bI x r) r (a7 x r)=p;have Qhl:fL p=some (te (bI x r) r.aK):=by
    rw[←hpp];unfold fL te;rw[DN];rfl
   show post (aR (fL p) _) _;rw[Qhl,ak];have Qmf:([te (bI x r) r.aK]:List an)=(Al x.bG (bI x r) (a7 x r) r.aK r.aQ 0).map (n0 x.bG (bI x r) (a7 x r) r.aK):=rfl;have Qjx:∀k,k≤r.aq.length→lv p ((Al x.bG (bI x r) (a7 x r) r.aK r.aQ k).map (n0 x.bG (bI x r) (a7 x r) r.aK)) (k:Int)=some ((Al x.bG (bI x r) (a7 x r) r.aK r.aQ (k+1)).map (n0 x.bG (bI x r) (a7 x r) r.aK)):=fun k hk=>by
    have:=Qev (p:=bp.mk x (bI x r) r (a7 x r)) (aK:=r.aK) hT hs (Qr hT hs k (by omega)) (by show k≤(a7 x r).length;omega) (by show(a7 x r).length≤9;omega) hr
    rw[hpp]at this;rw[←hpp]at this ⊢;exact this
   have Pv:aL (fun s=>jd r (p,true) s.1 s.2) ((Al x.bG (bI x r) (a7 x r) r.aK r.aQ 0).map (n0 x.bG (bI x r) (a7 x r) r.aK),0)=some ((Al x.bG (bI x r) (a7 x r) r.aK r.aQ (r.aq.length+1)).map (n0 x.bG (bI x r) (a7 x r) r.aK)):=by
    refine il (B:=fun s:List an×Int=>jd r (p,true) s.1 s.2) (r.aq.length+1) (fun k=>((Al x.bG (bI x r) (a7 x r) r.aK r.aQ k).map (n0 x.bG (bI x r) (a7 x r) r.aK),(k:Int))) (by omega) (fun k hk=>?_) ?_
    ·show jd r (p,true) ((Al x.bG (bI x r) (a7 x r) r.aK r.aQ k).map (n0 x.bG (bI x r) (a7 x r) r.aK)) (k:Int)=some (.inl ((Al x.bG (bI x r) (a7 x r) r.aK r.aQ (k+1)).map (n0 x.bG (bI x r) (a7 x r) r.aK),((k+1:Nat):Int)));unfold jd;rw[AE,bD (by simp only[js];omega)]
     show aR (lv p _ (k:Int)) _=_;rw[Qjx k (by omega),ak,inc (n:=r.aq.length+1) hk (by omega)]
     rfl
    ·show jd r (p,true) _ ((r.aq.length+1:Nat):Int)=_;unfold jd;rw[AE,bq (by simp)]
   show post (aR (aL (fun s=>jd r (p,true) s.1 s.2) ([te (bI x r) r.aK],0)) _) _
   rw[Qmf,Pv,ak];have hSt:=Qr (aQ:=r.aQ) hT hs (r.aq.length+1) (by omega)
   generalize Al x.bG (bI x r) (a7 x r) r.aK r.aQ (r.aq.length+1)=P at hSt;have hPl:P.length≤1024:=Nat.le_trans hSt.len (Nat.le_trans (Nat.pow_le_pow_right (by omega) (show r.aq.length+1≤10 by omega)) (by omega))
   refine a_ (fun hb=>?_) (fun hb=>?_)
   ·simp only[kJ,az,List.length_map]at hb;have hP0:P=[]:=List.length_eq_zero_iff.1 (by omega)
    have hmk:za ((r.aq.length+1:Nat):Int) ((r.aq.length+1:Nat):Int) 1 false=some (List.replicate (r.aq.length+1) false):=by
     unfold za;rw[if_pos (by omega)];simp
    have Qhn:He (List.replicate (r.aq.length+1) false) r.aQ=r.aQ++List.replicate (r.aq.length+1-r.aQ.length) false:=by
     unfold He LJ;rw[List.length_replicate,Nat.min_eq_left hc,List.take_length,List.drop_replicate]
    rw[hmk,ak];have c8:=run_eq (p:=bp.mk x (bI x r) r (a7 x r)) (aQ:=r.aQ++List.replicate (r.aq.length+1-r.aQ.length) false) hT hs (by show _=(a7 x r).length+1;simp;omega)
    rw[hpp]at c8;show post (aR (pF p (He (List.replicate (r.aq.length+1) false) r.aQ)) _) _;rw[Qhn,c8,ak];refine aP.2 (.inr ⟨⟨hp,hc⟩,.inr ⟨fun b hb=>?_,?_⟩⟩)
    ·obtain⟨a,ha,_⟩:=hSt.cov b (by rw[hb.1];omega) hb.2.1 hb.2.2
     rw[hP0]at ha;simp at ha
    ·rw[←hpp]
   ·simp only[zC,az,List.length_map]at hb;obtain⟨b0,tl,rfl⟩:∃b0 tl,P=b0 ::tl:=by
     cases P with
     |nil=>exact absurd rfl hb
     |cons a b=>exact⟨a,b,rfl⟩
    have Qhy:=hSt.inc;rw[List.pairwise_cons]at Qhy;rw[List.map_cons,show bj (n0 x.bG (bI x r) (a7 x r) r.aK b0 ::tl.map (n0 x.bG (bI x r) (a7 x r) r.aK)) 0=some (n0 x.bG (bI x r) (a7 x r) r.aK b0)from bC (k:=0) rfl,ak];have QmM:wS (n0 x.bG (bI x r) (a7 x r) r.aK b0 ::tl.map (n0 x.bG (bI x r) (a7 x r) r.aK)) 1 (az (n0 x.bG (bI x r) (a7 x r) r.aK b0 ::tl.map (n0 x.bG (bI x r) (a7 x r) r.aK)))=some (tl.map (n0 x.bG (bI x r) (a7 x r) r.aK)):=by
     unfold wS az;rw[if_pos ⟨by omega,by simp only[List.length_cons];omega,Int.le_refl _⟩,show(1:Int).toNat=1 from rfl,Int.toNat_natCast,List.drop_one,List.tail_cons,List.length_cons,Nat.add_sub_cancel,List.take_length]
    rw[QmM,ak];obtain⟨pk1,pk2⟩:=Sr (uS x.bG (bI x r) (a7 x r) r.aK) tl [b0] b0 (by simp) (fun q hq=>by rw[List.mem_singleton.1 hq];exact⟨Int.le_refl _,fun _=>Nat.le_refl _⟩) (fun s fc q hq=>by rw[List.mem_singleton.1 fc];exact Qhy.1 q hq) Qhy.2
    have Zf:aL (fun s=>je (tl.map (n0 x.bG (bI x r) (a7 x r) r.aK)) s.1 s.2) (n0 x.bG (bI x r) (a7 x r) r.aK b0,0)=some (n0 x.bG (bI x r) (a7 x r) r.aK (tl.foldl (fun b q=>if uS x.bG (bI x r) (a7 x r) r.aK q<uS x.bG (bI x r) (a7 x r) r.aK b then q else b) b0)):=by
     have e2:=il (B:=fun s:an×Int=>je (tl.map (n0 x.bG (bI x r) (a7 x r) r.aK)) s.1 s.2) (e:=n0 x.bG (bI x r) (a7 x r) r.aK (tl.foldl (fun b q=>if uS x.bG (bI x r) (a7 x r) r.aK q<uS x.bG (bI x r) (a7 x r) r.aK b then q else b) b0))
      tl.length (fun i=>(n0 x.bG (bI x r) (a7 x r) r.aK ((tl.take i).foldl (fun b q=>if uS x.bG (bI x r) (a7 x r) r.aK q<uS x.bG (bI x r) (a7 x r) r.aK b then q else b) b0),(i:Int))) (by simp only[List.length_cons]at hPl;omega) (fun i hi=>?_) ?_
     ·exact e2
     ·have e3:tl[i]?=some tl[i]:=List.getElem?_eq_getElem hi;rw[List.take_add_one,e3];simp only[Option.toList,List.foldl_append,List.foldl_cons,List.foldl_nil];generalize(tl.take i).foldl (fun b q=>if uS x.bG (bI x r) (a7 x r) r.aK q<uS x.bG (bI x r) (a7 x r) r.aK b then q else b) b0=bb
      show je (tl.map (n0 x.bG (bI x r) (a7 x r) r.aK)) (n0 x.bG (bI x r) (a7 x r) r.aK bb) (i:Int)=_;unfold je;rw[bD (by simp [az];exact hi),bC (show(tl.map (n0 x.bG (bI x r) (a7 x r) r.aK))[i]?=some (n0 x.bG (bI x r) (a7 x r) r.aK tl[i]) by rw[List.getElem?_map,e3];rfl),ak,inc (n:=tl.length) hi (by simp only[List.length_cons]at hPl;omega),show((i+1:Nat):Int)=(i:Int)+1 by omega]
      generalize tl[i]=q;by_cases jU:uS x.bG (bI x r) (a7 x r) r.aK q<uS x.bG (bI x r) (a7 x r) r.aK bb
      ·rw[if_pos jU,bD (by simp only[js];exact jU)]
      ·rw[if_neg jU,bq (by simp only[jY];unfold uS at jU;omega)]
     ·show je (tl.map (n0 x.bG (bI x r) (a7 x r) r.aK)) _ (tl.length:Int)=_;unfold je;rw[bq (by simp [az]),List.take_length]
    show post (aR (aL (fun s=>je (tl.map (n0 x.bG (bI x r) (a7 x r) r.aK)) s.1 s.2) (n0 x.bG (bI x r) (a7 x r) r.aK b0,0)) _) _
    rw[Zf,ak];generalize tl.foldl (fun b q=>if uS x.bG (bI x r) (a7 x r) r.aK q<uS x.bG (bI x r) (a7 x r) r.aK b then q else b) b0=bb at pk1 pk2
    rw[show [b0]++tl=b0 ::tl from rfl]at pk1 pk2;obtain⟨m1,m2,m3⟩:=hSt.ok bb pk1;refine aP.2 (.inr ⟨⟨hp,hc⟩,.inl ⟨bb,⟨by rw[m2];omega,m3,m1⟩,fun q hq=>?_,rfl⟩⟩)
    obtain⟨a,ha,hva,QA⟩:=hSt.cov q (by rw[hq.1];omega) hq.2.1 hq.2.2
    obtain⟨a1,a2,a3⟩:=hSt.ok a ha;have he:uS x.bG (bI x r) (a7 x r) r.aK a=uS x.bG (bI x r) (a7 x r) r.aK q:=by
     rw[RN hT hs (by rw[a2];omega) a1,RN hT hs hq.1 hq.2.2];exact QA.1
    have:=pk2 a ha;rw[he]at this;exact⟨this.1,fun h=>Nat.le_trans (this.2 h) hva⟩
  ·rw[bD (by simp only[Bool.not_true,Bool.false_or,w4,az];omega)]
   exact aP.2 (.inl ⟨fun h=>hc h.2,rfl⟩)
 ·rw[if_neg hp,bD (by simp [QdE])]
  exact aP.2 (.inl ⟨fun h=>hp h.1,rfl⟩)
end
theorem QhU{S E:Type}{B:S→Option (S⊕E)}(C:Nat→S→Prop)(Q:E→Prop)
  (h:∀m s,C m s→post (B s) fun x=>(∀s',x=.inl s'→∃m',m'<m∧C m' s')∧∀e,x=.inr e→Q e):∀(n m:Nat) (s:S),C m s→m<n→post (qs B n s) Q:=by
 intro n;induction n with
 |zero=>intro m s _ hm;omega
 |succ n ih =>
  intro m s hs hm;obtain⟨x,hx,h1,h2⟩:=h m s hs;simp only[qs,hx];cases x with
  |inl s' =>
   obtain⟨m',h3,h4⟩:=h1 s' rfl;exact ih m' s' h4 (by omega)
  |inr e=>exact⟨e,rfl,h2 e rfl⟩
theorem QhY{S E:Type}{B:S→Option (S⊕E)}(C:Nat→S→Prop){Q:E→Prop}{s:S}(m:Nat)(hs:C m s)(hm:m<18446744073709551616)
  (h:∀m s,C m s→post (B s) fun x=>(∀s',x=.inl s'→∃m',m'<m∧C m' s')∧∀e,x=.inr e→Q e):post (aL B s) Q:=QhU C Q h _ m s hs hm
def eS:Nat→Nat→List Bool
 |0,_=>[]
 |f+1,j=>eS f (j / 2)++[decide (j % 2=1)]
theorem GQ:∀f j,(eS f j).length=f
 |0,_=>rfl
 |f+1,j=>by rw[eS,List.length_append,GQ f];rfl
theorem Fc(f m:Nat):∀d,eS (f+d) (m*2 ^ d)=eS f m++List.replicate d false
 |0=>by simp
 |d+1=>by
  rw[show f+(d+1)=(f+d)+1 by omega,eS,Nat.pow_succ,←Nat.mul_assoc,Nat.mul_div_cancel _ (by omega),Fc f m d,List.replicate_succ',List.append_assoc]
  congr 3;rw[decide_eq_false];omega
theorem Df(f:Nat):eS f 0=List.replicate f false:=by
 have:=Fc 0 0 f;simpa [eS]using this
theorem C5(p:List Bool):∀f j,j<2 ^ f→ph (p++eS f j)=ph p*2 ^ f+j
 |0,j,h=>by simp at h;simp [eS,h]
 |f+1,j,h=>by
  rw[Nat.pow_succ]at h;rw[eS,←List.append_assoc,zr,C5 p f (j / 2) (by omega),Nat.pow_succ,←Nat.mul_assoc]
  by_cases hj:j % 2=1
  ·rw[if_pos (decide_eq_true hj)];omega
  ·rw[if_neg (by simpa using hj)];omega
theorem JC:∀(f:Nat) (s:List Bool),s.length=f→∃j,j<2 ^ f∧s=eS f j
 |0,s,h=>⟨0,by simp,List.length_eq_zero_iff.1 h⟩
 |f+1,s,h=>by
  obtain⟨s0,c,rfl⟩:∃s0 c,s=s0++[c]:=by
   rcases List.eq_nil_or_concat s with rfl|⟨s0,c,rfl⟩
   ·simp at h
   ·exact⟨s0,c,by simp⟩
  obtain⟨j,hj,hs⟩:=JC f s0 (by simpa using h)
  subst hs;cases c with
  |true =>
   refine⟨2*j+1,by rw[Nat.pow_succ];omega,?_⟩
   rw[eS,show(2*j+1) / 2=j by omega,decide_eq_true (by omega)]
  |false =>
   refine⟨2*j,by rw[Nat.pow_succ];omega,?_⟩
   rw[eS,show(2*j) / 2=j by omega,decide_eq_false (by omega)]
theorem QdA{a b:List Bool}(h:a.length=b.length)(hv:ph a=ph b):a=b:=by
 obtain⟨i,hi,ha⟩:=JC b.length a h;obtain⟨j,hj,hb⟩:=JC b.length b rfl;have h1:=C5 [] b.length i hi;have h2:=C5 [] b.length j hj;rw[List.nil_append,←ha]at h1;rw[List.nil_append,←hb]at h2;have h0:ph ([]:List Bool)=0:=rfl;rw[h0,Nat.zero_mul,Nat.zero_add]at h1 h2;have QX:i=j:=by rw[←h1,←h2];exact hv
 exact ha.trans (by rw[QX];exact hb.symm)
theorem Qfu{α:Type}{a b:List α}{x y:α}:(a++x ::b).set a.length y=a++y ::b:=by
 rw[List.set_append_right _ _ (Nat.le_refl _),Nat.sub_self];rfl
theorem V_{p:List Bool}{f j:Nat}(hl:p.length+f≤1048576)(hj:j<2 ^ f):qT (p++eS f j) (az p)=some (if j+1<2 ^ f then(p++eS f (j+1),true)else([],false)):=by
 apply post.eq;unfold qT;have hlen:(p++eS f j).length=p.length+f:=by rw[List.length_append,GQ]
 refine bW (dt (by rw[hlen];omega)) ?_
 have kK:dd .i64 (az (p++eS f j)) 1=((p.length+f:Nat):Int)-1:=by unfold az;rw[hlen,wT (by omega) (by omega)]
 rw[kK];refine ba (R:=fun e=>e=if j+1<2 ^ f then .inr (p++eS f (j+1),true)else .inl ()) ?_ ?_
 ·refine eJ (fun s=>∃g q d:Nat,f=g+d∧j+1=(q+1)*2 ^ d∧q<2 ^ g∧s=(p++(eS g q++List.replicate d false),((p.length+g:Nat):Int)-1)) (fun s=>(s.2+1-p.length).toNat) ⟨f,j,0,rfl,by simp,hj,by simp⟩ (by simp;omega) ?_
  rintro _ ⟨g,q,d,hf,hq,hqg,rfl⟩;show post (uf (az p) (p++(eS g q++List.replicate d false)) (((p.length+g:Nat):Int)-1)) _;unfold uf;refine a_ (fun hb=>?_) (fun hb=>b5 ?_)
  ·simp only[nk,az]at hb;obtain⟨g,rfl⟩:∃g',g=g'+1:=⟨g-1,by omega⟩
   have hi:((p.length+(g+1):Nat):Int)-1=((p.length+g:Nat):Int):=by omega
   have Tz:p++(eS (g+1) q++List.replicate d false)=(p++eS g (q / 2))++decide (q % 2=1) ::List.replicate d false:=by
    rw[eS];simp
   have Di:(p++eS g (q / 2)).length=p.length+g:=by rw[List.length_append,GQ]
   have Qcr:((p++eS g (q / 2))++decide (q % 2=1) ::List.replicate d false)[p.length+g]?=some (decide (q % 2=1)):=by
    rw[List.getElem?_append_right (by omega),Di,Nat.sub_self];rfl
   have Iz:∀y,e_ ((p++eS g (q / 2))++decide (q % 2=1) ::List.replicate d false) ((p.length+g:Nat):Int) y=(p++eS g (q / 2))++y ::List.replicate d false:=fun y=>by
    unfold e_;rw[Int.toNat_natCast,←Di,Qfu]
   rw[hi,Tz,bC Qcr,ak,Iz,Iz];refine a_ (fun h1=>bZ ⟨⟨g,q / 2,d+1,by omega,?_,by rw[Nat.pow_succ]at hqg;omega,?_⟩,?_⟩) (fun h1=>b5 ?_)
   ·have h2:=of_decide_eq_true h1;rw[hq,Nat.pow_succ,show q+1=(q / 2+1)*2 by omega,Nat.mul_assoc,Nat.mul_comm 2]
   ·rw[wT (by omega) (by omega)]
    simp [List.replicate_succ]
   ·rw[wT (by omega) (by omega)];simp only;omega
   ·have h2:=of_decide_eq_false h1;rw[Nat.pow_succ]at hqg;have h3:q+1<2 ^ (g+1):=by rw[Nat.pow_succ];omega
    have h4:j+1<2 ^ f:=by
     rw[hq,hf,Nat.pow_add];exact Nat.mul_lt_mul_of_pos_right h3 (Nat.pow_pos (by omega))
    rw[if_pos h4,hq,hf,Fc,eS,show(q+1) / 2=q / 2 by omega,decide_eq_true (show(q+1) % 2=1 by omega)]
    simp
  ·simp only[Cn,az]at hb;obtain rfl:g=0:=by omega
   have:q=0:=by simpa using hqg
   subst this;have h4:¬j+1<2 ^ f:=by rw[hq,hf];simp
   rw[if_neg h4]
 ·rintro e rfl;split
  ·rw[nQ];exact aP.2 rfl
  ·rw[dw];exact aP.2 rfl
section
variable {n : aD} {t : al} {aG : List a6} {aK : Int} {aQ : List Bool}
theorem Wg(b:List Bool):F_ n t aG aK b=if(preB n t aG aK b).2≠0 then(rG,(preB n t aG aK b).2)else((n0 n t aG aK b).c9,0):=rfl
theorem Qc{b:List Bool}(h:okB n t aG aK b):F_ n t aG aK b=((n0 n t aG aK b).c9,0):=by rw[Wg,if_neg (show ¬(preB n t aG aK b).2≠0 from fun hh=>hh h)]
theorem KT{b:List Bool}(h:¬okB n t aG aK b):(F_ n t aG aK b).2≠0∧F_ n t aG aK b=(rG,(F_ n t aG aK b).2):=by
 rw[Wg,if_pos (show(preB n t aG aK b).2≠0 from h)];exact⟨h,rfl⟩
theorem Vg{f j:Nat}:Vf aQ (aQ++eS f j):=fun i x hx=>by
 unfold B_;rcases Nat.lt_or_ge i aQ.length with hi|hi
 ·rw[List.getElem?_append_left hi]at hx;rw[hx];simp
 ·rw[List.getElem?_eq_none hi];cases x <;> simp
theorem Qeq{b:List Bool}{f:Nat}(hl:b.length=aQ.length+f)(h:Vf aQ b):∃j,j<2 ^ f∧b=aQ++eS f j:=by
 obtain⟨j,hj,hb⟩:=JC f (b.drop aQ.length) (by rw[List.length_drop];omega)
 refine⟨j,hj,?_⟩;rw[←hb];have htk:b.take aQ.length=aQ:=by
  apply List.ext_getElem?;intro i;rcases Nat.lt_or_ge i aQ.length with hi|hi
  ·rw[List.getElem?_take_of_lt hi];have e1:b[i]?=some (b[i]'(by omega)):=List.getElem?_eq_getElem _
   have:=h i _ e1;unfold B_ at this;rw[List.getElem?_eq_getElem hi]at this;rw[e1,List.getElem?_eq_getElem hi];simpa using this
  ·rw[List.getElem?_eq_none (by rw[List.length_take];omega),List.getElem?_eq_none hi]
 conv=>lhs;rw[←List.take_append_drop aQ.length b,htk]
end
def Z3(n:aD)(t:al)(aG:List a6)(aK:Int)(aQ:List Bool)(f j:Nat)(sh:aX)(mJ:Bool):Prop:=
 (mJ=false→∀i,i<j→¬okB n t aG aK (aQ++eS f i))∧
 (mJ=true→∃ i,i<j∧okB n t aG aK (aQ++eS f i)∧sh=(n0 n t aG aK (aQ++eS f i)).c9∧∀ i',i'<j→okB n t aG aK (aQ++eS f i') →
  uS n t aG aK (aQ++eS f i)≤uS n t aG aK (aQ++eS f i')∧(uS n t aG aK (aQ++eS f i')=uS n t aG aK (aQ++eS f i)→i≤i'))
theorem Rl{x:ab}{r:ay}(hx:da x)(hR:rr r)(h9:¬(9<r.aq.length∧r.aq.length≤20)):
  post (tP x r) fun res=>(¬(s_ x r=true∧r.aQ.length≤r.aq.length+1)∧res=(rG,2))∨
   ((s_ x r=true∧r.aQ.length≤r.aq.length+1)∧((∃ b,Ec x.bG (bI x r) (a7 x r) r.aK r.aQ b∧X8 x.bG (bI x r) (a7 x r) r.aK r.aQ b∧res=((n0 x.bG (bI x r) (a7 x r) r.aK b).c9,0)) ∨
    ((∀b,¬Ec x.bG (bI x r) (a7 x r) r.aK r.aQ b)∧res=F_ x.bG (bI x r) (a7 x r) r.aK (r.aQ++List.replicate (r.aq.length+1-r.aQ.length) false)))):=by
 have hv:=hR.aq;have hr:=hR.aQ;unfold tP;show post (aR (jT x r) _) _;have AE:aU .i64 (az r.aq) 1=((r.aq.length+1:Nat):Int):=by unfold az;rw[fp (by omega) (by omega)];omega
 rw[ZI,ak,AE];by_cases hp:s_ x r=true
 ·have h5:=of_decide_eq_true (Ab hp);have Uy:=uI (x:=x) (r:=r);by_cases hc:r.aQ.length≤r.aq.length+1
  ·rw[hp,bq (by simp only[Bool.not_true,Bool.false_or,pL,az];omega)]
   have hmk:za ((r.aq.length+1:Nat):Int) ((r.aq.length+1:Nat):Int) 1 false=some (List.replicate (r.aq.length+1) false):=by
    unfold za;rw[if_pos (by omega)];simp
   obtain⟨f,hf⟩:∃f,f=r.aq.length+1-r.aQ.length:=⟨_,rfl⟩;have hf2:2 ^ f≤1024:=Nat.le_trans (Nat.pow_le_pow_right (by omega) (show f≤10 by omega)) (by omega)
   have hf1:1≤2 ^ f:=Nat.one_le_two_pow;have Qhn:He (List.replicate (r.aq.length+1) false) r.aQ=r.aQ++eS f 0:=by
    rw[Df];unfold He LJ;rw[List.length_replicate,Nat.min_eq_left hc,List.take_length,List.drop_replicate,←hf]
   have hB:∀j,(r.aQ++eS f j).length=r.aq.length+1:=fun j=>by rw[List.length_append,GQ];omega
   have c8:∀j,nv x r (r.aQ++eS f j)=some (F_ x.bG (bI x r) (a7 x r) r.aK (r.aQ++eS f j)):=fun j=>by
    rw[Yp hx hv];unfold Qif;rw[if_pos ⟨hp,hB j⟩]
   have hnx:∀j,j<2 ^ f→qT (r.aQ++eS f j) (az r.aQ)=some (if j+1<2 ^ f then(r.aQ++eS f (j+1),true)else([],false)):=fun j hj=>V_ (by omega) hj
   rw[hmk,ak,Qhn,←hf,←Df];show post (aR (nv x r (r.aQ++eS f 0)) _) _;rw[c8,ak,hnx 0 (by omega),ak]
   -- Qu first list
   have hB0:Z3 x.bG (bI x r) (a7 x r) r.aK r.aQ f 1 (F_ x.bG (bI x r) (a7 x r) r.aK (r.aQ++eS f 0)).1 (cM (F_ x.bG (bI x r) (a7 x r) r.aK (r.aQ++eS f 0)).2 0):=by
    refine⟨fun h i hi B3=>?_,fun h=>⟨0,by omega,?_,?_,fun i hi _=>?_⟩⟩
    ·obtain rfl:i=0:=by omega
     rw[Qc B3]at h;simp [cM]at h
    ·exact Classical.byContradiction fun hn=>(KT hn).1 (by simpa using h)
    ·have B3:okB x.bG (bI x r) (a7 x r) r.aK (r.aQ++eS f 0):=Classical.byContradiction fun hn=>(KT hn).1 (by simpa using h)
     rw[Qc B3]
    ·obtain rfl:i=0:=by omega
     exact⟨Int.le_refl _,fun _=>Nat.le_refl _⟩
   refine ba (R:=fun e=>Z3 x.bG (bI x r) (a7 x r) r.aK r.aQ f (2 ^ f) e.1 e.2) ?_ ?_
   ·refine QhY (fun m s=>∃j:Nat,1≤j∧j≤2 ^ f∧s.1=r.aQ∧(s.2.2.2.2=true→j<2 ^ f∧s.2.2.1=r.aQ++eS f j)∧(s.2.2.2.2=false→j=2 ^ f)∧Z3 x.bG (bI x r) (a7 x r) r.aK r.aQ f j s.2.1 s.2.2.2.1∧m=2 ^ f-j+(if s.2.2.2.2=true then 1 else 0)) (2 ^ f-1+(if 0+1<2 ^ f then 1 else 0))
     ⟨1,Nat.le_refl _,hf1,rfl,fun h=>?_,fun h=>?_,hB0,?_⟩ (by split <;> omega) ?_
    ·by_cases h1:0+1<2 ^ f
     ·rw[if_pos h1]at h ⊢;exact⟨by omega,rfl⟩
     ·rw[if_neg h1]at h;cases h
    ·by_cases h1:0+1<2 ^ f
     ·rw[if_pos h1]at h;cases h
     ·omega
    ·by_cases h1:0+1<2 ^ f
     ·rw[if_pos h1,if_pos h1];rfl
     ·rw[if_neg h1,if_neg h1];rfl
    rintro m ⟨rs,sh,cur,mJ,more⟩ ⟨j,hj1,hj2,Jz,hmt,hmf,Pr,hm⟩;simp only at Jz hmt hmf Pr hm;subst Jz;show post (ue x r _ _ r.aQ sh cur mJ more) _;unfold ue ud;cases more with
    |false =>
     have:=hmf rfl;subst this;exact⟨_,rfl,fun _ h=>by(cases h),fun e he=>by cases he;exact Pr⟩
    |true =>
     obtain⟨hjl,Kh⟩:=hmt rfl;subst Kh;rw[fW];show post (aR (nv x r (r.aQ++eS f j)) _) _;rw[c8,ak,hnx j hjl];have leaf:∀(sh':aX) (fd:Bool),Z3 x.bG (bI x r) (a7 x r) r.aK r.aQ f (j+1) sh' fd→
       post (aR (some (if j+1<2 ^ f then(r.aQ++eS f (j+1),true)else([],false))) fun r5=>some (Sum.inl (r.aQ,sh',r5.1,fd,r5.2):(List Bool×aX×List Bool×Bool×Bool)⊕(aX×Bool))) fun y=>(∀s',y=.inl s'→∃m',m'<m∧∃j:Nat,1≤j∧j≤2 ^ f∧s'.1=r.aQ∧(s'.2.2.2.2=true→j<2 ^ f∧s'.2.2.1=r.aQ++eS f j)∧(s'.2.2.2.2=false→j=2 ^ f)∧Z3 x.bG (bI x r) (a7 x r) r.aK r.aQ f j s'.2.1 s'.2.2.2.1∧m'=2 ^ f-j+(if s'.2.2.2.2=true then 1 else 0))∧∀e,y=.inr e→Z3 x.bG (bI x r) (a7 x r) r.aK r.aQ f (2 ^ f) e.1 e.2:=by
      intro sh' fd WO;rw[ak];refine⟨_,rfl,fun s' fc=>?_,fun _ h=>by cases h⟩
      cases fc;simp only[if_true]at hm;by_cases h1:j+1<2 ^ f
      ·simp only[if_pos h1];exact⟨2 ^ f-(j+1)+1,by omega,j+1,by omega,by omega,trivial,fun _=>⟨h1,rfl⟩,fun h=>(by cases h),WO,by simp⟩
      ·simp only[if_neg h1];exact⟨0,by omega,j+1,by omega,by omega,trivial,fun h=>(by cases h),fun _=>by omega,WO,by simp;omega⟩
     by_cases B3:okB x.bG (bI x r) (a7 x r) r.aK (r.aQ++eS f j)
     ·rw[Qc B3];refine a_ (fun FA=>leaf _ _ ⟨fun h=>by(cases h),fun _=>⟨j,by omega,B3,rfl,fun i hi hoi=>?_⟩⟩) (fun FA=>leaf _ _ ?_)
      ·rcases Nat.lt_or_ge i j with QX|QX
       ·simp only[Ih,orT,ntT,js]at FA;cases L8:mJ with
        |false=>exact absurd hoi (Pr.1 L8 i QX)
        |true =>
         obtain⟨i0,k1,k2,k3,k4⟩:=Pr.2 L8;rcases FA.2 with h|h
         ·rw[L8]at h;cases h
         ·rw[k3]at h;have:=(k4 i QX hoi).1;unfold uS at this ⊢;exact⟨by omega,fun he=>by omega⟩
       ·obtain rfl:i=j:=by omega
        exact⟨Int.le_refl _,fun _=>Nat.le_refl _⟩
      ·have h0:cM (((n0 x.bG (bI x r) (a7 x r) r.aK (r.aQ++eS f j)).c9,0):aX×Int).2 0=true:=rfl;rw[h0,Bool.true_and]at FA;simp only[PW,ntF,jY]at FA;obtain⟨L8,hle⟩:=FA;refine⟨fun h=>by(rw[L8]at h;cases h),fun _=>?_⟩
       obtain⟨i0,k1,k2,k3,k4⟩:=Pr.2 L8;refine⟨i0,by omega,k2,k3,fun i hi hoi=>?_⟩
       rcases Nat.lt_or_ge i j with QX|QX
       ·exact k4 i QX hoi
       ·obtain rfl:i=j:=by omega
        rw[k3]at hle;exact⟨hle,fun _=>by omega⟩
     ·have hno:=KT B3;refine a_ (fun FA=>?_) (fun _=>leaf _ _ ⟨fun h i hi=>?_,fun h=>?_⟩)
      ·simp only[Ih,kJ]at FA;exact absurd FA.1 hno.1
      ·rcases Nat.lt_or_ge i j with QX|QX
       ·exact Pr.1 h i QX
       ·obtain rfl:i=j:=by omega
        exact B3
      ·obtain⟨i0,k1,k2,k3,k4⟩:=Pr.2 h;refine⟨i0,by omega,k2,k3,fun i hi hoi=>?_⟩
       rcases Nat.lt_or_ge i j with QX|QX
       ·exact k4 i QX hoi
       ·obtain rfl:i=j:=by omega
        exact absurd hoi B3
   ·rintro⟨sh,mJ⟩ Pr;have sI:∀b,Ec x.bG (bI x r) (a7 x r) r.aK r.aQ b→∃j,j<2 ^ f∧b=r.aQ++eS f j:=fun b hb=>Qeq (by rw[hb.1];omega) hb.2.1
    show post (br mJ _ _) _;cases L8:mJ with
    |true =>
     rw[fW];obtain⟨i0,k1,k2,k3,k4⟩:=Pr.2 L8;refine aP.2 (.inr ⟨⟨rfl,hc⟩,.inl ⟨r.aQ++eS f i0,⟨by rw[hB];omega,Vg,k2⟩,fun q hq=>?_,by rw[←k3]⟩⟩)
     obtain⟨j,hj,rfl⟩:=sI q hq;have:=k4 j hj hq.2.2;refine⟨this.1,fun h=>?_⟩
     rw[C5 _ _ _ k1,C5 _ _ _ hj];have:=this.2 h;omega
    |false =>
     rw[jg];have Zh:∀b,¬Ec x.bG (bI x r) (a7 x r) r.aK r.aQ b:=fun b hb=>by
      obtain⟨j,hj,rfl⟩:=sI b hb;exact Pr.1 L8 j hj hb.2.2
     refine aP.2 (.inr ⟨⟨rfl,hc⟩,.inr ⟨Zh,?_⟩⟩);have hno:¬okB x.bG (bI x r) (a7 x r) r.aK (r.aQ++eS f 0):=Pr.1 L8 0 (by omega)
     rw[←Df];exact(KT hno).2.symm
  ·rw[bD (by simp only[orT,w4,az];right;omega)]
   exact aP.2 (.inl ⟨fun h=>hc h.2,rfl⟩)
 ·rw[bD (by simp [hp])]
  exact aP.2 (.inl ⟨fun h=>hp h.1,rfl⟩)
theorem Qc4{n:aD}{t:al}{aG:List a6}{aK:Int}{aQ a b:List Bool}(ha:Ec n t aG aK aQ a)(hb:Ec n t aG aK aQ b)(ma:X8 n t aG aK aQ a)(mb:X8 n t aG aK aQ b):a=b:=by
 have h1:=ma b hb;have h2:=mb a ha;have he:uS n t aG aK b=uS n t aG aK a:=by omega
 exact QdA (by rw[ha.1,hb.1]) (by have:=h1.2 he;have:=h2.2 he.symm;omega)
theorem QcQ{n:aD}{t:al}{aG:List a6}{aK:Int}{b:List Bool}:(n0 n t aG aK b).c9.jv.length≤b.length:=by
 have:=Qb (n:=n) (t:=t) (aG:=aG) b 0 (te t aK);have h0:(te t aK).c9.jv.length=0:=rfl;rw[h0,Nat.zero_add]at this;exact this
end
end Go.Proofs.YtkcilfpbgjjjbaaGreatDoor
