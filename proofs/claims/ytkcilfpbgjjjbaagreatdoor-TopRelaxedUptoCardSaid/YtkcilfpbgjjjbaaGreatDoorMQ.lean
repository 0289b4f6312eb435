/- Part MQ. -/
import Derived.Test.YtkcilfpbgjjjbaaGreatDoorMI
import Derived.Test.YtkcilfpbgjjjbaaGreatDoorMP
set_option linter.unusedSimpArgs false
set_option linter.unusedVariables false
set_option linter.unusedSectionVars false
namespace Go.Proofs.YtkcilfpbgjjjbaaGreatDoor
noncomputable section
section
variable (n : aC) (t : av) (aA : List aS)
def runK:List Bool->Nat->aj->aj×Int
 | [],_,l=>(l,0)
 |b ::r,k,l=>if(AG n t aA l k b).2≠0 then(X_,(AG n t aA l k b).2)else runK r (k+1) (AG n t aA l k b).1
def sF(aE:Int):aj:=aj.mk (max t.bA aE) 0 tY
def E6(aE:Int)(aH:List Bool):a8×Int:=
 if(runK n t aA aH 0 (sF t aE)).2≠0 then(tY,(runK n t aA aH 0 (sF t aE)).2)else((runK n t aA aH 0 (sF t aE)).1.ct,0)
end
section
variable {n : aC} {t : av} {aA : List aS} {l : aj} {k : Nat} {b : Bool}
theorem MS(h:ou n t aA){aE:Int}(hs:0<=aE/\aE<=4096):Fk 0 (sF t aE):=by
 have h1:=h.pL;have h2:=h.bI;refine⟨?_,?_,QaJ _,by show(0:Int)<=4096;omega,QaJ _,QaJ _,rfl⟩
 ·show 0<=max t.bA aE;omega
 ·show max t.bA aE<=8192;omega
theorem run_eq{p:bu}(h:ou p.x.bV p.t p.aA)(hs:0<=p.r.aE/\p.r.aE<=4096){aH:List Bool}(hr:aH.length=p.aA.length+1):rB p aH=some (E6 p.x.bV p.t p.aA p.r.aE aH):=by
 have Qpx:=h.rr;apply post.eq;unfold rB;have QmM:gx p=some (sF p.t p.r.aE):=by
  unfold gx sF;rw[z7];rfl
 show post (aQ (gx p) _) _;rw[QmM,af];refine bw (R:=λe:aj⊕(a8×Int)=>e=(if(runK p.x.bV p.t p.aA aH 0 (sF p.t p.r.aE)).2≠0 then .inr (tY,(runK p.x.bV p.t p.aA aH 0 (sF p.t p.r.aE)).2)else .inl (runK p.x.bV p.t p.aA aH 0 (sF p.t p.r.aE)).1)) ?_ ?_
 ·refine dP (λs=>∃(k:Nat) (l:aj),k<=aH.length/\s=(p.t.bJ,l,(k:Int))/\(k<=p.aA.length->Fk k l)/\runK p.x.bV p.t p.aA (aH.drop k) k l=runK p.x.bV p.t p.aA aH 0 (sF p.t p.r.aE)) (λs=>aH.length-s.2.2.toNat) ⟨0,_,QaD _,rfl,λ_=>MS h hs,rfl⟩ (by simp;omega) ?_
  rintro _ ⟨k,l,hk,rfl,hL,hf⟩;show post (qu p aH _ p.t.bJ l (k:Int)) _;unfold qu;refine bg (λhb=>?_) (λhb=>dd ?_)
  ·simp only[ew,ay]at hb;have xw:k<aH.length:=by omega
   have e1:aH[k]?=some aH[k]:=dr xw;rw[bB e1,af,inc xw (by omega)]
   rw[Qfa xw]at hf;simp only[runK]at hf;show post (aQ (ll p l (k:Int) aH[k]) _) _;rw[QdM h (hL (by omega)) (by omega),af]
   generalize aH[k]=b at *;refine bg (λhc=>dd ?_) (λhc=>cZ ⟨⟨k+1,(AG p.x.bV p.t p.aA l k b).1,by omega,rfl,λh'=>?_,?_⟩,by simp;omega⟩)
   ·simp only[uA]at hc;rw[if_pos hc]at hf;rw[<-hf,if_pos hc];rfl
   ·simp only[vu]at hc;exact NJ h (hL (by omega)) (by omega) hc
   ·simp only[vu]at hc;rwa [if_neg (by simpa using hc)]at hf
  ·simp only[eC,ay]at hb;rw[QiZ (by omega)]at hf
   simp only[runK]at hf;rw[<-hf,if_neg (by simp)]
 ·rintro e rfl;unfold E6;split
  ·rw[iJ];exact aI.2 rfl
  ·rw[c5];exact aI.2 rfl
end
section
variable (n : aC) (t : av) (aA : List aS) (aE : Int) (aH : List Bool)
def AP:Nat->aj
 |0=>sF t aE
 |k+1=>(AG n t aA (AP k) k (aH.getD k false)).1
def Sy(k:Nat):Int:=im t (AP n t aA aE aH k) (aH.getD k false)
def U8(k:Nat):Int×Int×Int:=goN n t.aJ (jy t aA k) (c9 t aA k).place (Sy n t aA aE aH k)
end
section
variable {n : aC} {t : av} {aA : List aS} {aE : Int} {aH : List Bool}
theorem Z4:∀(m k:Nat),m+k=aH.length->(runK n t aA (aH.drop k) k (AP n t aA aE aH k)).2=0->
  (∀j,k<=j->j<aH.length->(AG n t aA (AP n t aA aE aH j) j (aH.getD j false)).2=0)/\runK n t aA (aH.drop k) k (AP n t aA aE aH k)=(AP n t aA aE aH aH.length,0)
 |0,k,hm,h=>by
  have hk:k=aH.length:=by omega
  subst hk;rw[Qjk];exact⟨λj h1 h2=>by omega,rfl⟩
 |m+1,k,hm,h=>by
  have hk:k<aH.length:=by omega
  have hg:aH.getD k false=aH[k]:=by rw[Qbo,dr hk];rfl
  rw[Qfa hk]at h ⊢;simp only[runK]at h ⊢;rw[<-hg]at h ⊢;by_cases h0:(AG n t aA (AP n t aA aE aH k) k (aH.getD k false)).2=0
  ·rw[if_neg (by simpa using h0)]at h ⊢
   obtain⟨h1,h2⟩:=Z4 m (k+1) (by omega) h
   refine⟨λj hj Nl=>?_,h2⟩
   rcases sh k j with h'|h'
   ·exact h1 j h' Nl
   ·obtain rfl:j=k:=by omega
    exact h0
  ·rw[if_pos h0]at h;exact absurd h h0
structure Bj (n:aC) (t:av) (aA:List aS) (aE:Int) (aH:List Bool):Prop where
 QcA:ou n t aA
 st:0<=aE/\aE<=4096
 len:aH.length=aA.length+1
 all:∀j,j<aH.length->(AG n t aA (AP n t aA aE aH j) j (aH.getD j false)).2=0
theorem QkM(hT:ou n t aA)(hs:0<=aE/\aE<=4096)(hl:aH.length=aA.length+1)(h:(E6 n t aA aE aH).2=0):
  Bj n t aA aE aH/\(E6 n t aA aE aH).1=(AP n t aA aE aH aH.length).ct:=by
 unfold E6 at h ⊢;split at h
 ·rename_i h1;exact absurd h h1
 ·rename_i h1;rw[if_neg h1];have h2:(runK n t aA aH 0 (sF t aE)).2=0:=by simpa using h1
  obtain⟨h3,h4⟩:=Z4 aH.length 0 (by omega) h2
  refine⟨⟨hT,hs,hl,λj hj=>h3 j (QaD _) hj⟩,?_⟩
  have h5:runK n t aA aH 0 (sF t aE)=(AP n t aA aE aH aH.length,0):=h4;rw[h5]
section
variable (h : Bj n t aA aE aH)
include h
theorem Bj.Vl:∀k,k<=aA.length->Fk k (AP n t aA aE aH k)
 |0,_=>MS h.QcA h.st
 |k+1,hk=>NJ h.QcA (Bj.Vl k (by omega)) (by omega) (h.all k (by rw[h.len];omega))
theorem Bj.step{k:Nat}(hk:k<=aA.length):
  (U8 n t aA aE aH k).2.2=0/\(U8 n t aA aE aH k).1<=(c9 t aA k).bI/\
  AP n t aA aE aH (k+1)=aj.mk (max (U8 n t aA aE aH k).1 (c9 t aA k).bA+(c9 t aA k).dG) (sr (AP n t aA aE aH k) (aH.getD k false)+(U8 n t aA aE aH k).1-Sy n t aA aE aH k)
   (shS t aA (AP n t aA aE aH k) k (aH.getD k false) (Sy n t aA aE aH k) (U8 n t aA aE aH k)):=by
 obtain⟨g0,g1,g2,g3⟩:=Cp h.QcA (Bj.Vl h k hk) (h.all k (by rw[h.len];omega))
 exact⟨g0,g1,g3⟩
theorem Bj.Qlw:∀{k:Nat},k<=aA.length->(AP n t aA aE aH (k+1)).ct.bJ=aH.getD 0 false/\(AP n t aA aE aH (k+1)).ct.cW=Sy n t aA aE aH 0
 |0,hk=>by rw[(Bj.step h hk).2.2];exact⟨rfl,rfl⟩
 |k+1,hk=>by
  have:=Bj.Qlw (k:=k) (by omega)
  rw[(Bj.step h hk).2.2];exact this
theorem Bj.QdT(k:Nat)(hk:k<=aA.length)(ih:∀i,i<k->
  (AP n t aA aE aH k).ct.gK[i]?=some (if i+1<k then a6.mk (U8 n t aA aE aH i).1 (max (U8 n t aA aE aH i).1 (c9 t aA i).bA) (Sy n t aA aE aH (i+1)) (aH.getD (i+1) false)
   else a6.mk (U8 n t aA aE aH i).1 (max (U8 n t aA aE aH i).1 (c9 t aA i).bA) 0 false)) (i:Nat) (hi:i<k):
  (sY (AP n t aA aE aH k) k (Sy n t aA aE aH k) (aH.getD k false))[i]?=some (a6.mk (U8 n t aA aE aH i).1 (max (U8 n t aA aE aH i).1 (c9 t aA i).bA) (Sy n t aA aE aH (i+1)) (aH.getD (i+1) false)):=by
  have hlen:=(Bj.Vl h k hk).gK;unfold sY patch;rw[if_neg (by omega)]
  have hl:=ih (k-1) (by omega)
  rw[if_neg (by omega)]at hl
  rw[hl];simp only;rw[List.getElem?_set];by_cases hc:k-1=i
  ·rw[if_pos hc,if_pos (by omega)]
   subst hc;rw[show k-1+1=k by omega]
  ·rw[if_neg hc,ih i hi,if_pos (by omega)]
theorem Bj.entries:∀{k:Nat},k<=aA.length->∀i,i<k->
  (AP n t aA aE aH k).ct.gK[i]?=some (if i+1<k then a6.mk (U8 n t aA aE aH i).1 (max (U8 n t aA aE aH i).1 (c9 t aA i).bA) (Sy n t aA aE aH (i+1)) (aH.getD (i+1) false)
   else a6.mk (U8 n t aA aE aH i).1 (max (U8 n t aA aE aH i).1 (c9 t aA i).bA) 0 false)
 |0,_,i,hi=>by omega
 |k+1,hk,i,hi=>by
  have hlen:=(Bj.Vl h k (by omega)).gK
  have htl:(sY (AP n t aA aE aH k) k (Sy n t aA aE aH k) (aH.getD k false)).length=k:=by rw[wX,hlen]
  have e:(AP n t aA aE aH (k+1)).ct.gK=sY (AP n t aA aE aH k) k (Sy n t aA aE aH k) (aH.getD k false)++[a6.mk (U8 n t aA aE aH k).1 (max (U8 n t aA aE aH k).1 (c9 t aA k).bA) 0 false]:=by
   rw[(Bj.step h (by omega)).2.2]
   show(if k<aA.length then _ else _:List a6)=_
   rw[if_pos (by omega)]
  rw[e];by_cases hik:i<k
  ·rw[Qdz (by omega),if_pos (by omega)]
   exact Bj.QdT h k (by omega) (Bj.entries (by omega)) i hik
  ·obtain rfl:i=k:=by omega
   rw[Qe3 (by omega),htl,Qkh,if_neg (by omega)];rfl
theorem Bj.final:(AP n t aA aE aH aH.length).ct.gK.length=aA.length/\(∀i,i<aA.length->(AP n t aA aE aH aH.length).ct.gK[i]?=some (a6.mk (U8 n t aA aE aH i).1 (max (U8 n t aA aE aH i).1 (c9 t aA i).bA) (Sy n t aA aE aH (i+1)) (aH.getD (i+1) false)))/\
  (AP n t aA aE aH aH.length).ct.j8=(U8 n t aA aE aH aA.length).1:=by
 have ir:=(Bj.step h (k:=aA.length) (fa _)).2.2;have Qm4:=Bj.Vl h aA.length (fa _);rw[h.len,ir];have hn:¬aA.length<aA.length:=Nat.lt_irrefl _;refine⟨?_,λi hi=>?_,?_⟩
 ·show(if aA.length<aA.length then _ else _:List a6).length=_
  rw[if_neg hn,wX,Qm4.gK]
 ·show(if aA.length<aA.length then _ else _:List a6)[i]?=_
  rw[if_neg hn];exact Bj.QdT h aA.length (fa _) (λi hi=>Bj.entries h (fa _) i hi) i hi
 ·show(if aA.length<aA.length then _ else _:Int)=_
  rw[if_neg hn]
end
end
section
variable {n : aC} {t : av} {aA : List aS} {aE : Int} {aH : List Bool}
theorem Qfo{l:aj}{k:Nat}{b:Bool}:(AG n t aA l k b).1.ct.gK.length<=l.ct.gK.length+1:=by
 unfold AG ZF;split
 ·exact QaD _
 ·split
  ·exact QaD _
  ·split
   ·exact QaD _
   ·show(if k<aA.length then _ else _:List a6).length<=_
    split
    ·rw[Qay,wX];exact fa _
    ·rw[wX];omega
theorem Ts:∀(aH:List Bool) (k:Nat) (l:aj),(runK n t aA aH k l).1.ct.gK.length<=l.ct.gK.length+aH.length
 | [],k,l=>by simp [runK]
 |b ::r,k,l=>by
  simp only[runK];split
  ·exact QaD _
  ·have h1:=Ts r (k+1) (AG n t aA l k b).1;have h2:=Qfo (n:=n) (t:=t) (aA:=aA) (l:=l) (k:=k) (b:=b);simp only[QaA];omega
end
theorem Y6{l:List Bool}{i:Nat}(h:i<l.length):l[i]?=some (l.getD i false):=by rw[Qbo,dr h];rfl
section
variable {n : aC} {aJ aY t : Int}
theorem Qky{S E:Type}{B:S->O (S⊕E)}(C:Nat->S->Prop)(Q:E->Prop)
  (h:∀m s,C m s->post (B s) λx=>(∀s',x=.inl s'->∃m',m'<m/\C m' s')/\∀e,x=.inr e->Q e):∀(n m:Nat) (s:S),C m s->m<n->post (sC B n s) Q:=by
 intro n;induction n with
 |zero=>intro m s _ hm;omega
 |succ n ih =>
  intro m s hs hm;obtain⟨x,hx,h1,h2⟩:=h m s hs;simp only[sC,hx];cases x with
  |inl s' =>
   obtain⟨m',h3,h4⟩:=h1 s' rfl;exact ih m' s' h4 (by omega)
  |inr e=>exact⟨e,rfl,h2 e rfl⟩
theorem xl{S E:Type}{B:S->O (S⊕E)}(C:Nat->S->Prop){Q:E->Prop}{s:S}(m:Nat)(hs:C m s)(hm:m<18446744073709551616)
  (h:∀m s,C m s->post (B s) λx=>(∀s',x=.inl s'->∃m',m'<m/\C m' s')/\∀e,x=.inr e->Q e):post (aL B s) Q:=Qky C Q h _ m s hs hm
end
def XL(s:a8):List Bool:=s.bJ ::s.gK.map (·.bJ)
def ra(b:List Bool):Nat:=b.foldl (λv c=>2*v+(if c=true then 1 else 0)) 0
theorem BM(b:List Bool)(c:Bool):ra (b++[c])=2*ra b+(if c=true then 1 else 0):=by simp [ra,Qhq]
theorem Qk8(b:List Bool):ra b<2 ^ b.length:=by
 have:∀(b:List Bool) (v:Nat),b.foldl (λv c=>2*v+(if c=true then 1 else 0)) v<(v+1)*2 ^ b.length:=by
  intro b;induction b with
  |nil=>intro v;simp
  |cons c b ih =>
   intro v;have:=ih (2*v+(if c=true then 1 else 0))
   rw[Qfg,QaA,Qdw];refine Qby this ?_
   rw[show(v+1)*(2 ^ b.length*2)=(2*v+2)*2 ^ b.length by rw[Qf6 (2 ^ b.length) 2,<-Nat.mul_assoc];congr 1;omega]
   exact QdB _ (by split <;> omega)
 simpa [ra]using this b 0
section
variable (n : aC) (t : av) (aA : List aS) (aE : Int)
def preB(b:List Bool):aj×Int:=runK n t aA b 0 (sF t aE)
def okB(b:List Bool):Prop:=(preB n t aA aE b).2=0
def nm(b:List Bool):aj:=(preB n t aA aE b).1
def C6(d b:List Bool):Prop:=(nm n t aA aE d).ready=(nm n t aA aE b).ready/\(nm n t aA aE d).cz<=(nm n t aA aE b).cz
open Classical in
def qO(out:List (List Bool))(b:List Bool):List (List Bool):=if okB n t aA aE b/\¬∃d∈out,C6 n t aA aE d b then out++[b]else out
end
section
variable {n : aC} {t : av} {aA : List aS} {aE : Int}
theorem Ke:∀(b:List Bool) (k:Nat) (l:aj) (c:Bool),(runK n t aA b k l).2=0->runK n t aA (b++[c]) k l=if(AG n t aA (runK n t aA b k l).1 (k+b.length) c).2≠0 then(X_,(AG n t aA (runK n t aA b k l).1 (k+b.length) c).2)else((AG n t aA (runK n t aA b k l).1 (k+b.length) c).1,0)
 | [],k,l,c,_=>rfl
 |a ::b,k,l,c,h=>by
  by_cases h0:(AG n t aA l k a).2=0
  ·have e:∀r,runK n t aA (a ::r) k l=runK n t aA r (k+1) (AG n t aA l k a).1:=λr=>by
    simp only[runK];rw[if_neg (by simpa using h0)]
   rw[e]at h;have:=Ke b (k+1) _ c h;rw[Qhz,e,e,this,QaA,show k+1+b.length=k+(b.length+1) by omega]
  ·simp only[runK]at h;rw[if_pos h0]at h;exact absurd h h0
theorem Z3:∀(b:List Bool) (k:Nat) (l:aj) (c:Bool),(runK n t aA b k l).2≠0->(runK n t aA (b++[c]) k l).2≠0
 | [],k,l,c,h=>by simp [runK]at h
 |a ::b,k,l,c,h=>by
  simp only[runK,Qhz]at h ⊢;by_cases h0:(AG n t aA l k a).2=0
  ·rw[if_neg (by simpa using h0)]at h ⊢
   exact Z3 b (k+1) _ c h
  ·rw[if_pos h0];exact h0
theorem tr{b:List Bool}{c:Bool}:okB n t aA aE (b++[c])↔okB n t aA aE b/\(AG n t aA (nm n t aA aE b) b.length c).2=0:=by
 unfold okB nm preB;constructor
 ·intro h;by_cases h0:(runK n t aA b 0 (sF t aE)).2=0
  ·refine⟨h0,?_⟩;rw[Ke b 0 _ c h0,Qbu]at h;split at h
   ·rename_i h1;exact absurd h h1
   ·rename_i h1;simpa using h1
  ·exact absurd h (Z3 b 0 _ c h0)
 ·rintro⟨h0,h1⟩;rw[Ke b 0 _ c h0,Qbu,if_neg (by simpa using h1)]
theorem B7{b:List Bool}{c:Bool}(h:okB n t aA aE (b++[c])):nm n t aA aE (b++[c])=(AG n t aA (nm n t aA aE b) b.length c).1:=by
 obtain⟨h0,h1⟩:=tr.1 h;unfold nm preB at *;unfold okB preB at h0;rw[Ke b 0 _ c h0,Qbu,if_neg (by simpa using h1)]
theorem VS(hT:ou n t aA):∀(b:List Bool) (k:Nat) (l:aj),Fk k l->k+b.length<=aA.length->(runK n t aA b k l).2=0->Fk (k+b.length) (runK n t aA b k l).1
 | [],k,l,hl,_,_=>hl
 |a ::b,k,l,hl,hk,h=>by
  simp only[runK]at h ⊢;simp only[QaA]at hk;by_cases h0:(AG n t aA l k a).2=0
  ·rw[if_neg (by simpa using h0)]at h ⊢
   have:=VS hT b (k+1) _ (NJ hT hl (by omega) h0) (by omega) h
   rwa [QaA,show k+(b.length+1)=k+1+b.length by omega]
  ·rw[if_pos h0]at h;exact absurd h h0
theorem Ez(hT:ou n t aA)(hs:0<=aE/\aE<=4096){b:List Bool}(hb:b.length<=aA.length)(h:okB n t aA aE b):Fk b.length (nm n t aA aE b):=by
 have:=VS hT b 0 (sF t aE) (MS hT hs) (by omega) h
 rwa [Qbu]at this
theorem QkI(hT:ou n t aA){k:Nat}{l m:aj}{c:Bool}(hl:Fk k l)(hm:Fk k m)(h1:l.ready=m.ready)(h2:l.cz<=m.cz)(h:(AG n t aA m k c).2=0):
  (AG n t aA l k c).2=0/\(AG n t aA l k c).1.ready=(AG n t aA m k c).1.ready/\(AG n t aA l k c).1.cz<=(AG n t aA m k c).1.cz:=by
 obtain⟨g0,g1,g2,g3⟩:=Cp hT hm h;have hd:im t l c=im t m c:=by unfold im;rw[h1]
 have hs:sr l c<=sr m c:=by unfold sr;split <;> omega
 have h0:(AG n t aA l k c).2=0:=by
  unfold AG ZF;rw[hd,if_neg (by simpa using g0),if_neg (by omega),if_neg (by omega)]
 obtain⟨_,_,_,k3⟩:=Cp hT hl h0;refine⟨h0,?_,?_⟩
 ·rw[k3,g3,hd]
 ·rw[k3,g3,hd];show sr l c+_-_<=sr m c+_-_;omega
theorem Qey(hT:ou n t aA)(hs:0<=aE/\aE<=4096){a b:List Bool}{c:Bool}(hl:a.length=b.length)(hb:b.length<=aA.length)(ha:okB n t aA aE a)(h:okB n t aA aE (b++[c]))(RN:C6 n t aA aE a b):
  okB n t aA aE (a++[c])/\C6 n t aA aE (a++[c]) (b++[c]):=by
 obtain⟨h0,h1⟩:=tr.1 h;have la:=Ez hT hs (by omega) ha
 have lb:=Ez hT hs hb h0;rw[hl]at la;obtain⟨d1,d2,d3⟩:=QkI hT la lb RN.1 RN.2 h1;have ho:okB n t aA aE (a++[c]):=tr.2 ⟨ha,by rw[hl];exact d1⟩
 refine⟨ho,?_⟩;unfold C6;rw[B7 ho,B7 h,hl];exact⟨d2,d3⟩
theorem UP{a:List Bool}:C6 n t aA aE a a:=⟨rfl,QaJ _⟩
theorem Qa2{a b c:List Bool}(h:C6 n t aA aE a b)(h':C6 n t aA aE b c):C6 n t aA aE a c:=⟨h.1.trans h'.1,Qgd h.2 h'.2⟩
theorem WJ:∀(items out:List (List Bool)),(∀b∈out,okB n t aA aE b)->out.Pairwise (λa b=>ra a<ra b)->items.Pairwise (λa b=>ra a<ra b)->(∀a∈out,∀b∈items,ra a<ra b)->
  (∀b∈items.foldl (qO n t aA aE) out,okB n t aA aE b/\(b∈out\/b∈items))/\(items.foldl (qO n t aA aE) out).Pairwise (λa b=>ra a<ra b)/\(∀b∈out,b∈items.foldl (qO n t aA aE) out)/\
  (∀b∈items,okB n t aA aE b->∃d∈items.foldl (qO n t aA aE) out,ra d<=ra b/\C6 n t aA aE d b)
 | [],out,h1,h2,_,_=>⟨λb hb=>⟨h1 b hb,.inl hb⟩,h2,λb hb=>hb,λb hb=>by simp at hb⟩
 |x ::items,out,h1,h2,h3,h4=>by
  rw[QlH]at h3;rw[Qfg];by_cases hx:okB n t aA aE x/\¬∃d∈out,C6 n t aA aE d x
  ·have ir:qO n t aA aE out x=out++[x]:=if_pos hx;rw[ir];have key:=WJ items (out++[x]) (λb hb=>by
    rcases QaI.1 hb with h|h
    ·exact h1 b h
    ·rw[Qaz.1 h];exact hx.1) (by
    rw[List.pairwise_append];exact⟨h2,QnL _ _,λa ha b hb=>by rw[Qaz.1 hb];exact h4 a ha x (by simp)⟩) h3.2 (λa ha b hb=>by
    rcases QaI.1 ha with h|h
    ·exact h4 a h b (by simp [hb])
    ·rw[Qaz.1 h];exact h3.1 b hb)
   obtain⟨k1,k2,k3,k4⟩:=key;refine⟨λb hb=>⟨(k1 b hb).1,?_⟩,k2,λb hb=>k3 b (by simp [hb]),λb hb y5=>?_⟩
   ·rcases(k1 b hb).2 with h|h
    ·rcases QaI.1 h with h'|h'
     ·exact .inl h'
     ·rw[Qaz.1 h'];exact .inr (by simp)
    ·exact .inr (by simp [h])
   ·rcases Qbt.1 hb with rfl|hb
    ·exact⟨b,k3 b (by simp),fa _,UP⟩
    ·exact k4 b hb y5
  ·have ir:qO n t aA aE out x=out:=if_neg hx;rw[ir];obtain⟨k1,k2,k3,k4⟩:=WJ items out h1 h2 h3.2 (λa ha b hb=>h4 a ha b (by simp [hb]))
   refine⟨λb hb=>⟨(k1 b hb).1,?_⟩,k2,k3,λb hb y5=>?_⟩
   ·rcases(k1 b hb).2 with h|h
    ·exact .inl h
    ·exact .inr (by simp [h])
   ·rcases Qbt.1 hb with rfl|hb
    ·obtain⟨d,hd,RN⟩:∃d∈out,C6 n t aA aE d b:=QhJ λh=>hx ⟨y5,h⟩
     exact⟨d,k3 d hd,Qge (h4 d hd b (by simp)),RN⟩
    ·exact k4 b hb y5
end
section
variable (aH : List Bool)
def El(k:Nat):List Bool:=match aH[k]? with
 |some b=>[b]
 |none=>[false,true]
def YY(b:List Bool):Prop:=∀i x,b[i]?=some x->x∈El aH i
def DJ(P:List (List Bool))(k:Nat):List (List Bool):=P.flatMap λa=>(El aH k).map λc=>a++[c]
end
section
variable {n : aC} {t : av} {aA : List aS} {aE : Int} {aH : List Bool}
structure T6 (n:aC) (t:av) (aA:List aS) (aE:Int) (aH:List Bool) (k:Nat) (P:List (List Bool)):Prop where
 ok:∀b∈P,okB n t aA aE b/\b.length=k/\YY aH b
 inc:P.Pairwise (λa b=>ra a<ra b)
 cov:∀b,b.length=k->YY aH b->okB n t aA aE b->∃a∈P,ra a<=ra b/\C6 n t aA aE a b
theorem QjV(k:Nat):(El aH k).Pairwise (λa b=>(if a=true then 1 else 0:Nat)<(if b=true then 1 else 0)):=by
 unfold El;split
 ·exact QnL _ _
 ·simp
theorem Y0{b:List Bool}{c:Bool}:YY aH (b++[c])↔YY aH b/\c∈El aH b.length:=by
 unfold YY;constructor
 ·intro h;refine⟨λi x hx=>h i x (by rw[Qdz (pB.1 hx).1];exact hx),h b.length c (by simp)⟩
 ·rintro⟨h1,h2⟩ i x hx;rcases sh i b.length with hi|hi
  ·rw[Qdz hi]at hx;exact h1 i x hx
  ·rw[Qe3 hi]at hx;have:i-b.length=0:=by
    have:=(pB.1 hx).1;simp at this;omega
   rw[this]at hx;have SU:i=b.length:=by omega
   subst SU;have:c=x:=by simpa using hx
   rw[<-this];exact h2
theorem Qe6{P:List (List Bool)}(k:Nat)(h:P.Pairwise (λa b=>ra a<ra b)):(DJ aH P k).Pairwise (λa b=>ra a<ra b):=by
 unfold DJ;induction P with
 |nil=>simp
 |cons a P ih =>
  rw[QlH]at h;rw[List.flatMap_cons,List.pairwise_append];refine⟨?_,ih h.2,?_⟩
  ·rw[List.pairwise_map];exact(QjV (aH:=aH) k).imp λhab=>by rw[BM,BM];omega
  ·intro x hx y hy;obtain⟨c,_,rfl⟩:=QdX.1 hx;obtain⟨b,hb,hy⟩:=List.mem_flatMap.1 hy;obtain⟨d,_,rfl⟩:=QdX.1 hy;have:=h.1 b hb;rw[BM,BM];split <;> split <;> omega
theorem T6.zero:T6 n t aA aE aH 0 [[]]:=
 ⟨λb hb=>by rw[Qaz.1 hb];exact⟨rfl,rfl,λi x hx=>by simp at hx⟩,QnL _ _,λb hb _ _=>⟨[],by simp,by rw[Qjs.1 hb];exact fa _,by rw[Qjs.1 hb];exact UP⟩⟩
theorem T6.next(hT:ou n t aA)(hs:0<=aE/\aE<=4096){k:Nat}{P:List (List Bool)}(h:T6 n t aA aE aH k P)(hk:k<=aA.length):T6 n t aA aE aH (k+1) ((DJ aH P k).foldl (qO n t aA aE) []):=by
 obtain⟨k1,k2,k3,k4⟩:=WJ (n:=n) (t:=t) (aA:=aA) (aE:=aE) (DJ aH P k) [] (λb hb=>by simp at hb) List.Pairwise.nil (Qe6 k h.inc) (λa ha=>by simp at ha)
 refine⟨λb hb=>⟨(k1 b hb).1,?_⟩,k2,λb hb hf y5=>?_⟩
 ·rcases(k1 b hb).2 with h'|h'
  ·simp at h'
  ·obtain⟨a,ha,hx⟩:=List.mem_flatMap.1 h';obtain⟨c,hc,rfl⟩:=QdX.1 hx;obtain⟨_,q2,q3⟩:=h.ok a ha;exact⟨by simp [q2],Y0.2 ⟨q3,by rw[q2];exact hc⟩⟩
 ·obtain⟨b0,c,rfl⟩:∃b0 c,b=b0++[c]:=by
   rcases Qkm b with rfl|⟨b0,c,rfl⟩
   ·simp at hb
   ·exact⟨b0,c,by simp⟩
  have RM:b0.length=k:=by simpa using hb
  obtain⟨f1,f2⟩:=Y0.1 hf;obtain⟨o1,o2⟩:=tr.1 y5;obtain⟨a,ha,hv,RN⟩:=h.cov b0 RM f1 o1;obtain⟨q1,q2,q3⟩:=h.ok a ha;obtain⟨r1,r2⟩:=Qey hT hs (by omega) (by omega) q1 y5 RN
  have rF:a++[c]∈DJ aH P k:=List.mem_flatMap.2 ⟨a,ha,QdX.2 ⟨c,by rw[<-RM];exact f2,rfl⟩⟩
  obtain⟨d,hd,hdv,hdb⟩:=k4 _ rF r1;refine⟨d,hd,?_,Qa2 hdb r2⟩;rw[BM]at hdv ⊢;omega
end
theorem T7{L:List aj}{c:aj}(hL:L.length<=1048576):post (cD L c) λb=>(b=true↔∃m∈L,m.ready=c.ready/\m.cz<=c.cz):=by
 unfold cD dW;show post (aQ (aQ (aL (λs=>bD L c s) 0) _) _) _
 have h:post (aL (λs=>bD L c s) 0) λe=>(∃u,e=.inl u/\¬∃m∈L,m.ready=c.ready/\m.cz<=c.cz)\/(∃i:Nat,e=.inr (i:Int)/\∃m∈L,m.ready=c.ready/\m.cz<=c.cz):=by
  refine qj (B:=λs=>bD L c s) L.length _ (λi=>∀m,L[i]?=some m->¬(m.ready=c.ready/\m.cz<=c.cz)) (by omega) (λi hi=>?_) ?_
  ·show post (bD L c (i:Int)) _;unfold bD;have e1:L[i]?=some L[i]:=dr hi;rw[bk (by simp [ay];omega),bB e1,af,inc hi hL]
   show post (aQ (qs L[i] c) _) _;have hb:qs L[i] c=some (dk L[i].ready c.ready&&gB L[i].cz c.cz):=rfl;rw[hb,af];refine bg (λh=>aI.2 (.inr ⟨_,rfl,.inr ⟨i,rfl,L[i],QaH hi,?_⟩⟩)) (λh=>aI.2 (.inl ⟨rfl,λm hm=>?_⟩))
   ·simpa only[Ae,kp,xa]using h
   ·rw[e1]at hm;cases hm;intro hh;have:(dk L[i].ready c.ready&&gB L[i].cz c.cz)=true:=by simp only[Ae,kp,xa];exact hh
    rw[this]at h;cases h
  ·show post (bD L c (L.length:Int)) _;unfold bD;rw[aR (by simp [ay])]
   refine aI.2 ⟨_,rfl,λh=>.inl ⟨_,rfl,?_⟩⟩
   rintro⟨m,hm,hh⟩;obtain⟨i,hi⟩:=QhO hm;exact h i (pB.1 hi).1 m hi hh
 obtain⟨e,he,h⟩:=h;rw[he,af];rcases h with⟨u,rfl,h⟩|⟨i,rfl,h⟩
 ·rw[c5,af];refine aI.2 ⟨λhh=>?_,λhh=>absurd hh h⟩
  simp only[gX]at hh;omega
 ·rw[iJ,af];refine aI.2 ⟨λ_=>h,λ_=>?_⟩
  simp only[gX];omega
theorem QdA:∀{P:List (List Bool)} {lo hi:Nat},P.Pairwise (λa b=>ra a<ra b)->(∀b∈P,lo<=ra b/\ra b<hi)->P.length+lo<=hi\/P=[]
 | [],_,_,_,_=>.inr rfl
 |a ::P,lo,hi,h,hb=>by
  rw[QlH]at h;have ha:=hb a (by simp)
  rcases QdA (P:=P) (lo:=lo+1) (hi:=hi) h.2 (λb OE=>⟨by have:=h.1 b OE;omega,(hb b (by simp [OE])).2⟩)with h1|h1
  ·left;simp only[QaA];omega
  ·left;rw[h1];simp only[QeU];omega
section
variable {n : aC} {t : av} {aA : List aS} {aE : Int} {aH : List Bool}
theorem T6.len{k:Nat}{P:List (List Bool)}(h:T6 n t aA aE aH k P):P.length<=2 ^ k:=by
 rcases QdA (lo:=0) (hi:=2 ^ k) h.inc (λb hb=>⟨QaD _,by have:=Qk8 b;rwa [(h.ok b hb).2.1]at this⟩)with h1|h1
 ·omega
 ·rw[h1];exact QaD _
theorem QfK{out:List (List Bool)}{b:List Bool}:(qO n t aA aE out b).length<=out.length+1:=by unfold qO;split <;> simp
theorem SJ:∀{items out:List (List Bool)},(items.foldl (qO n t aA aE) out).length<=out.length+items.length
 | [],out=>by simp
 |x ::items,out=>by
  rw[Qfg];have h1:=SJ (items:=items) (out:=qO n t aA aE out x);have h2:=QfK (n:=n) (t:=t) (aA:=aA) (aE:=aE) (out:=out) (b:=x);simp only[QaA];omega
theorem Qc2(k:Nat):(El aH k).length<=2:=by unfold El;split <;> simp
theorem Qbd{P:List (List Bool)}{k:Nat}{out:List (List Bool)}:(DJ aH P k).foldl (qO n t aA aE) out=P.foldl (λout a=>((El aH k).map λc=>a++[c]).foldl (qO n t aA aE) out) out:=by
 unfold DJ;induction P generalizing out with
 |nil=>rfl
 |cons a P ih=>rw[List.flatMap_cons,Qhq,ih,Qfg]
theorem U7{k:Nat}:∀{P:List (List Bool)} {out:List (List Bool)},(P.foldl (λout a=>((El aH k).map λc=>a++[c]).foldl (qO n t aA aE) out) out).length<=out.length+2*P.length
 | [],out=>by simp
 |a ::P,out=>by
  rw[Qfg];have h1:=U7 (k:=k) (P:=P) (out:=((El aH k).map λc=>a++[c]).foldl (qO n t aA aE) out)
  have h2:=SJ (n:=n) (t:=t) (aA:=aA) (aE:=aE) (items:=(El aH k).map λc=>a++[c]) (out:=out)
  have h3:=Qc2 (aH:=aH) k;rw[Qbn]at h2;simp only[QaA];omega
theorem Qkb{p:bu}(hT:ou p.x.bV p.t p.aA)(hs:0<=aE/\aE<=4096){k:Nat}{P:List (List Bool)}(hP:T6 p.x.bV p.t p.aA aE p.r.aH k P)(hk:k<=p.aA.length)(h9:p.aA.length<=9)(hr:p.r.aH.length<=1048576):
  nA p (P.map (nm p.x.bV p.t p.aA aE)) k=some (((DJ p.r.aH P k).foldl (qO p.x.bV p.t p.aA aE) []).map (nm p.x.bV p.t p.aA aE)):=by
 have hPl:P.length<=512:=QaE hP.len (QaE (Qb2 (by omega) (show k<=9 by omega)) (by omega))
 have hJ:lH p (P.map (nm p.x.bV p.t p.aA aE)) k (El p.r.aH k)=some (((DJ p.r.aH P k).foldl (qO p.x.bV p.t p.aA aE) []).map (nm p.x.bV p.t p.aA aE)):=by
  unfold lH;rw[Qbd];have Ao:aL (λs=>gb p (P.map (nm p.x.bV p.t p.aA aE)) k (El p.r.aH k) s.1 s.2) ([],0)=some ((P.foldl (λout a=>((El p.r.aH k).map λc=>a++[c]).foldl (qO p.x.bV p.t p.aA aE) out) []).map (nm p.x.bV p.t p.aA aE)):=by
   have e:=gQ (B:=λs:List aj×Int=>gb p (P.map (nm p.x.bV p.t p.aA aE)) k (El p.r.aH k) s.1 s.2) (e:=(P.foldl (λout a=>((El p.r.aH k).map λc=>a++[c]).foldl (qO p.x.bV p.t p.aA aE) out) []).map (nm p.x.bV p.t p.aA aE))
    P.length (λv=>(((P.take v).foldl (λout a=>((El p.r.aH k).map λc=>a++[c]).foldl (qO p.x.bV p.t p.aA aE) out) []).map (nm p.x.bV p.t p.aA aE),(v:Int))) (by omega) (λv hv=>?_) ?_
   ·exact e
   ·have e1:P[v]?=some P[v]:=dr hv;obtain⟨q1,q2,q3⟩:=hP.ok _ (QaH hv);have hQl:=U7 (n:=p.x.bV) (t:=p.t) (aA:=p.aA) (aE:=aE) (aH:=p.r.aH) (k:=k) (P:=P.take v) (out:=[]);rw[Qdo,QbH]at hQl;have hLI:=Ez hT hs (by omega) q1
    rw[q2]at hLI;rw[Qdp,e1];simp only[Option.toList,Qhq,Qfg,List.foldl_nil];generalize(P.take v).foldl (λout a=>((El p.r.aH k).map λc=>a++[c]).foldl (qO p.x.bV p.t p.aA aE) out) []=Q at hQl
    show gb p (P.map (nm p.x.bV p.t p.aA aE)) k (El p.r.aH k) (Q.map (nm p.x.bV p.t p.aA aE)) (v:Int)=_;unfold gb;rw[bk (by simp [ay];exact hv),bB (show(P.map (nm p.x.bV p.t p.aA aE))[v]?=some (nm p.x.bV p.t p.aA aE P[v]) by rw[Qc0,e1];rfl),af,inc (n:=P.length) hv (by omega)]
    generalize P[v]=a at *;have y4:=Qc2 (aH:=p.r.aH) k;have k_:aL (λs=>gf p (P.map (nm p.x.bV p.t p.aA aE)) k (El p.r.aH k) v (nm p.x.bV p.t p.aA aE a) s.1 s.2) (Q.map (nm p.x.bV p.t p.aA aE),0)=some ((((El p.r.aH k).map λc=>a++[c]).foldl (qO p.x.bV p.t p.aA aE) Q).map (nm p.x.bV p.t p.aA aE)):=by
     have e2:=gQ (B:=λs:List aj×Int=>gf p (P.map (nm p.x.bV p.t p.aA aE)) k (El p.r.aH k) v (nm p.x.bV p.t p.aA aE a) s.1 s.2) (e:=(((El p.r.aH k).map λc=>a++[c]).foldl (qO p.x.bV p.t p.aA aE) Q).map (nm p.x.bV p.t p.aA aE))
      (El p.r.aH k).length (λi=>(((((El p.r.aH k).take i).map λc=>a++[c]).foldl (qO p.x.bV p.t p.aA aE) Q).map (nm p.x.bV p.t p.aA aE),(i:Int))) (by omega) (λi hi=>?_) ?_
     ·exact e2
     ·have e3:(El p.r.aH k)[i]?=some (El p.r.aH k)[i]:=dr hi;have O5:=SJ (n:=p.x.bV) (t:=p.t) (aA:=p.aA) (aE:=aE) (items:=((El p.r.aH k).take i).map λc=>a++[c]) (out:=Q)
      rw[Qbn,Qdo]at O5;rw[Qdp,e3];simp only[Option.toList,Qh0,Qfi,List.map_nil,Qhq,Qfg,List.foldl_nil];generalize(((El p.r.aH k).take i).map λc=>a++[c]).foldl (qO p.x.bV p.t p.aA aE) Q=R at O5
      show gf p (P.map (nm p.x.bV p.t p.aA aE)) k (El p.r.aH k) v (nm p.x.bV p.t p.aA aE a) (R.map (nm p.x.bV p.t p.aA aE)) (i:Int)=_;unfold gf;rw[bk (by simp [ay];exact hi),bB e3,af,inc (n:=(El p.r.aH k).length) hi (by omega)]
      generalize(El p.r.aH k)[i]=c at *;show aQ (ll p (nm p.x.bV p.t p.aA aE a) k c) _=_;rw[QdM hT hLI hk,af];have Qpq:((i+1:Nat):Int)=(i:Int)+1:=by omega
      rw[Qpq];by_cases h0:(AG p.x.bV p.t p.aA (nm p.x.bV p.t p.aA aE a) k c).2=0
      ·have y5:okB p.x.bV p.t p.aA aE (a++[c]):=tr.2 ⟨q1,by rw[q2];exact h0⟩
       have lR:=B7 y5;rw[q2]at lR;rw[bk (by simpa using h0)]
       obtain⟨bb,MI,Fz⟩:=T7 (L:=R.map (nm p.x.bV p.t p.aA aE)) (c:=(AG p.x.bV p.t p.aA (nm p.x.bV p.t p.aA aE a) k c).1) (by rw[Qbn];omega)
       show aQ (cD (R.map (nm p.x.bV p.t p.aA aE)) (AG p.x.bV p.t p.aA (nm p.x.bV p.t p.aA aE a) k c).1) _=_;rw[MI,af];have QsL:(∃m∈R.map (nm p.x.bV p.t p.aA aE),m.ready=(AG p.x.bV p.t p.aA (nm p.x.bV p.t p.aA aE a) k c).1.ready/\m.cz<=(AG p.x.bV p.t p.aA (nm p.x.bV p.t p.aA aE a) k c).1.cz)↔∃d∈R,C6 p.x.bV p.t p.aA aE d (a++[c]):=by
        unfold C6;rw[lR];constructor
        ·rintro⟨m,hm,h1⟩;obtain⟨d,hd,rfl⟩:=QdX.1 hm;exact⟨d,hd,h1⟩
        ·rintro⟨d,hd,h1⟩;exact⟨_,QdX.2 ⟨d,hd,rfl⟩,h1⟩
       rw[QsL]at Fz;cases bb with
       |true =>
        have ir:qO p.x.bV p.t p.aA aE R (a++[c])=R:=if_neg (λh=>h.2 (Fz.1 rfl))
        rw[dT,ir]
       |false =>
        have ir:qO p.x.bV p.t p.aA aE R (a++[c])=R++[a++[c]]:=if_pos ⟨y5,λh=>by have:=Fz.2 h;cases this⟩
        rw[dX,ir,eU (eV (by simp;omega)),Qh0,Qfi,List.map_nil,lR]
      ·have SW:¬okB p.x.bV p.t p.aA aE (a++[c]):=λh=>by have:=(tr.1 h).2;rw[q2]at this;exact h0 this
       have ir:qO p.x.bV p.t p.aA aE R (a++[c])=R:=if_neg (λh=>SW h.1)
       rw[aR (by simpa using h0),ir]
     ·show gf p _ k (El p.r.aH k) v _ _ ((El p.r.aH k).length:Int)=_;unfold gf;rw[aR (by simp [ay]),QbC]
    rw[k_,af,show((v+1:Nat):Int)=(v:Int)+1 by omega]
   ·show gb p (P.map (nm p.x.bV p.t p.aA aE)) k (El p.r.aH k) _ (P.length:Int)=_;unfold gb;rw[aR (by simp [ay]),QbC]
  rw[Ao,af]
 unfold nA;by_cases Yf:k<p.r.aH.length
 ·have e1:p.r.aH[k]?=some p.r.aH[k]:=dr Yf;have hch:El p.r.aH k=[p.r.aH[k]]:=by unfold El;rw[e1]
  have Ue:wm p.r.aH (k:Int) (aV .i64 (k:Int) 1)=some [p.r.aH[k]]:=by
   rw[inc Yf hr];unfold wm;rw[if_pos ⟨by omega,by omega,by omega⟩,show((k:Int)+1).toNat-(k:Int).toNat=1 by omega,QaC,Qfa Yf]
   rfl
  rw[bk (by simp [ay];exact Yf),Ue,af,<-hch]
  exact hJ
 ·have hch:El p.r.aH k=[false,true]:=by unfold El;rw[Qbp (by omega)]
  rw[aR (by simp [ay];omega),<-hch]
  exact hJ
end
section
variable (n : aC) (t : av) (aA : List aS) (aE : Int) (aH : List Bool)
def CB:Nat->List (List Bool)
 |0=>[[]]
 |k+1=>(DJ aH (CB k) k).foldl (qO n t aA aE) []
def GM(b:List Bool):Prop:=b.length=aA.length+1/\YY aH b/\okB n t aA aE b
def xq(b:List Bool):Int:=(nm n t aA aE b).ct.j8
def QbW(b:List Bool):Prop:=∀q,GM n t aA aE aH q->xq n t aA aE b<=xq n t aA aE q/\(xq n t aA aE q=xq n t aA aE b->ra b<=ra q)
end
section
variable {n : aC} {t : av} {aA : List aS} {aE : Int} {aH : List Bool}
theorem TF(hT:ou n t aA)(hs:0<=aE/\aE<=4096):∀k,k<=aA.length+1->T6 n t aA aE aH k (CB n t aA aE aH k)
 |0,_=>T6.zero
 |k+1,hk=>T6.next hT hs (TF hT hs k (by omega)) (by omega)
theorem O0(hT:ou n t aA)(hs:0<=aE/\aE<=4096){b:List Bool}(hl:b.length=aA.length+1)(y5:okB n t aA aE b):xq n t aA aE b=(nm n t aA aE b).ready:=by
 obtain⟨b0,c,rfl⟩:∃b0 c,b=b0++[c]:=by
  rcases Qkm b with rfl|⟨b0,c,rfl⟩
  ·simp at hl
  ·exact⟨b0,c,by simp⟩
 have RM:b0.length=aA.length:=by simpa using hl
 obtain⟨o1,o2⟩:=tr.1 y5;have hL:=Ez hT hs (by omega) o1
 obtain⟨g0,g1,g2,g3⟩:=Cp hT hL o2;have qc:=OS (rest:=c) hT hL;have hg:=(AK hT.bV qc g0).1;unfold QW at qc;unfold xq;rw[B7 y5,g3];have hn:¬b0.length<aA.length:=by omega
 rw[zY hn]at hg ⊢;show(if b0.length<aA.length then _ else _:Int)=max _ (0:Int)+0
 rw[if_neg hn];omega
theorem VH(e:List Bool->Int):∀(items S:List (List Bool)) (b:List Bool),b∈S->(∀q∈S,e b<=e q/\(e q=e b->ra b<=ra q))->(∀s∈S,∀q∈items,ra s<ra q)->items.Pairwise (λa b=>ra a<ra b)->
  (items.foldl (λb q=>if e q<e b then q else b) b)∈S++items/\∀q∈S++items,e (items.foldl (λb q=>if e q<e b then q else b) b)<=e q/\(e q=e (items.foldl (λb q=>if e q<e b then q else b) b)->ra (items.foldl (λb q=>if e q<e b then q else b) b)<=ra q)
 | [],S,b,hb,hm,_,_=>by simpa using⟨hb,hm⟩
 |x ::items,S,b,hb,hm,hv,hp=>by
  rw[QlH]at hp;have e1:S++x ::items=(S++[x])++items:=by simp
  rw[Qfg,e1];refine VH e items (S++[x]) _ ?_ ?_ (λs hs q hq=>?_) hp.2
  ·split
   ·simp
   ·simp [hb]
  ·intro q hq;rcases QaI.1 hq with h|h
   ·have:=hm q h;split
    ·exact⟨by omega,λh2=>by omega⟩
    ·exact this
   ·rw[Qaz.1 h];split
    ·exact⟨QaJ _,λ_=>fa _⟩
    ·exact⟨by omega,λ_=>Qge (hv b hb x (by simp))⟩
  ·rcases QaI.1 hs with h|h
   ·exact hv s h q (by simp [hq])
   ·rw[Qaz.1 h];exact hp.1 q hq
theorem QeC{x:ae}{r:aD}(hx:dn x)(hR:vz r)(h9:¬(9<r.ak.length/\r.ak.length<=20)):
  post (zE x r) λres=>(¬(ub x r=true/\r.aH.length<=r.ak.length+1)/\res=(tY,2))\/
   ((ub x r=true/\r.aH.length<=r.ak.length+1)/\((∃ b,GM x.bV (bG x r) (aU x r) r.aE r.aH b/\QbW x.bV (bG x r) (aU x r) r.aE r.aH b/\res=((nm x.bV (bG x r) (aU x r) r.aE b).ct,0)) \/
    ((∀b,¬GM x.bV (bG x r) (aU x r) r.aE r.aH b)/\res=E6 x.bV (bG x r) (aU x r) r.aE (r.aH++List.replicate (r.ak.length+1-r.aH.length) false)))):=by
 have hv:=hR.ak;have hr:=hR.aH;unfold zE;show post (aQ (zF x r) _) _;have G5:aV .i64 (ay r.ak) 1=((r.ak.length+1:Nat):Int):=by unfold ay;rw[dZ (by omega) (by omega)];omega
 rw[QkP,af,G5];by_cases hp:ub x r=true
 ·rw[if_pos hp];have h5:=QbF (yK hp);have Ue:=tN (x:=x) (r:=r);have hT:=PX hx hp;have hs:0<=r.aE/\r.aE<=4096:=⟨h5.2.2.1,h5.2.2.2.1⟩;by_cases hc:r.aH.length<=r.ak.length+1
  ·rw[aR (by simp only[QfW,QhE,iu,ay];omega)]
   generalize Fe:bu.mk x (bG x r) r (aU x r)=p;have QmM:gx p=some (sF (bG x r) r.aE):=by
    rw[<-Fe];unfold gx sF;rw[z7];rfl
   show post (aQ (gx p) _) _;rw[QmM,af];have QsP:([sF (bG x r) r.aE]:List aj)=(CB x.bV (bG x r) (aU x r) r.aE r.aH 0).map (nm x.bV (bG x r) (aU x r) r.aE):=rfl;have QpA:∀k,k<=r.ak.length->nA p ((CB x.bV (bG x r) (aU x r) r.aE r.aH k).map (nm x.bV (bG x r) (aU x r) r.aE)) (k:Int)=some ((CB x.bV (bG x r) (aU x r) r.aE r.aH (k+1)).map (nm x.bV (bG x r) (aU x r) r.aE)):=λk hk=>by
    have:=Qkb (p:=bu.mk x (bG x r) r (aU x r)) (aE:=r.aE) hT hs (TF hT hs k (by omega)) (by show k<=(aU x r).length;omega) (by show(aU x r).length<=9;omega) hr
    rw[Fe]at this;rw[<-Fe]at this ⊢;exact this
   have Ao:aL (λs=>j9 r (p,true) s.1 s.2) ((CB x.bV (bG x r) (aU x r) r.aE r.aH 0).map (nm x.bV (bG x r) (aU x r) r.aE),0)=some ((CB x.bV (bG x r) (aU x r) r.aE r.aH (r.ak.length+1)).map (nm x.bV (bG x r) (aU x r) r.aE)):=by
    refine gQ (B:=λs:List aj×Int=>j9 r (p,true) s.1 s.2) (r.ak.length+1) (λk=>((CB x.bV (bG x r) (aU x r) r.aE r.aH k).map (nm x.bV (bG x r) (aU x r) r.aE),(k:Int))) (by omega) (λk hk=>?_) ?_
    ·show j9 r (p,true) ((CB x.bV (bG x r) (aU x r) r.aE r.aH k).map (nm x.bV (bG x r) (aU x r) r.aE)) (k:Int)=some (.inl ((CB x.bV (bG x r) (aU x r) r.aE r.aH (k+1)).map (nm x.bV (bG x r) (aU x r) r.aE),((k+1:Nat):Int)));unfold j9;rw[G5,bk (by simp only[ew];omega)]
     show aQ (nA p _ (k:Int)) _=_;rw[QpA k (by omega),af,inc (n:=r.ak.length+1) hk (by omega)]
     rfl
    ·show j9 r (p,true) _ ((r.ak.length+1:Nat):Int)=_;unfold j9;rw[G5,aR (by simp)]
   show post (aQ (aL (λs=>j9 r (p,true) s.1 s.2) ([sF (bG x r) r.aE],0)) _) _
   rw[QsP,Ao,af];have AU:=TF (aH:=r.aH) hT hs (r.ak.length+1) (by omega)
   generalize CB x.bV (bG x r) (aU x r) r.aE r.aH (r.ak.length+1)=P at AU;have hPl:P.length<=1024:=QaE AU.len (QaE (Qb2 (by omega) (show r.ak.length+1<=10 by omega)) (by omega))
   refine bg (λhb=>?_) (λhb=>?_)
   ·simp only[kp,ay,Qbn]at hb;have hP0:P=[]:=Qjs.1 (by omega)
    have RQ:Bd ((r.ak.length+1:Nat):Int) ((r.ak.length+1:Nat):Int) 1 false=some (List.replicate (r.ak.length+1) false):=by
     unfold Bd;rw[if_pos (by omega)];simp
    have QmO:Kl (List.replicate (r.ak.length+1) false) r.aH=r.aH++List.replicate (r.ak.length+1-r.aH.length) false:=by
     unfold Kl OP;rw[Qi0,Qh8 hc,QbC,List.drop_replicate]
    rw[RQ,af];have dC:=run_eq (p:=bu.mk x (bG x r) r (aU x r)) (aH:=r.aH++List.replicate (r.ak.length+1-r.aH.length) false) hT hs (by show _=(aU x r).length+1;simp;omega)
    rw[Fe]at dC;show post (aQ (rB p (Kl (List.replicate (r.ak.length+1) false) r.aH)) _) _;rw[QmO,dC,af];refine aI.2 (.inr ⟨⟨hp,hc⟩,.inr ⟨λb hb=>?_,?_⟩⟩)
    ·obtain⟨a,ha,_⟩:=AU.cov b (by rw[hb.1];omega) hb.2.1 hb.2.2
     rw[hP0]at ha;simp at ha
    ·rw[<-Fe]
   ·simp only[rC,ay,Qbn]at hb;obtain⟨b0,tl,rfl⟩:∃b0 tl,P=b0 ::tl:=by
     cases P with
     |nil=>exact absurd rfl hb
     |cons a b=>exact⟨a,b,rfl⟩
    have Qm2:=AU.inc;rw[QlH]at Qm2;rw[Qfi,show bn (nm x.bV (bG x r) (aU x r) r.aE b0 ::tl.map (nm x.bV (bG x r) (aU x r) r.aE)) 0=some (nm x.bV (bG x r) (aU x r) r.aE b0)from bB (k:=0) rfl,af];have Qtn:wm (nm x.bV (bG x r) (aU x r) r.aE b0 ::tl.map (nm x.bV (bG x r) (aU x r) r.aE)) 1 (ay (nm x.bV (bG x r) (aU x r) r.aE b0 ::tl.map (nm x.bV (bG x r) (aU x r) r.aE)))=some (tl.map (nm x.bV (bG x r) (aU x r) r.aE)):=by
     unfold wm ay;rw[if_pos ⟨by omega,by simp only[QaA];omega,QaJ _⟩,show(1:Int).toNat=1 from rfl,QaC,List.drop_one,List.tail_cons,QaA,Qjg,QbC]
    rw[Qtn,af];obtain⟨pk1,pk2⟩:=VH (xq x.bV (bG x r) (aU x r) r.aE) tl [b0] b0 (by simp) (λq hq=>by rw[Qaz.1 hq];exact⟨QaJ _,λ_=>fa _⟩) (λs fK q hq=>by rw[Qaz.1 fK];exact Qm2.1 q hq) Qm2.2
    have k_:aL (λs=>j_ (tl.map (nm x.bV (bG x r) (aU x r) r.aE)) s.1 s.2) (nm x.bV (bG x r) (aU x r) r.aE b0,0)=some (nm x.bV (bG x r) (aU x r) r.aE (tl.foldl (λb q=>if xq x.bV (bG x r) (aU x r) r.aE q<xq x.bV (bG x r) (aU x r) r.aE b then q else b) b0)):=by
     have e2:=gQ (B:=λs:aj×Int=>j_ (tl.map (nm x.bV (bG x r) (aU x r) r.aE)) s.1 s.2) (e:=nm x.bV (bG x r) (aU x r) r.aE (tl.foldl (λb q=>if xq x.bV (bG x r) (aU x r) r.aE q<xq x.bV (bG x r) (aU x r) r.aE b then q else b) b0))
      tl.length (λi=>(nm x.bV (bG x r) (aU x r) r.aE ((tl.take i).foldl (λb q=>if xq x.bV (bG x r) (aU x r) r.aE q<xq x.bV (bG x r) (aU x r) r.aE b then q else b) b0),(i:Int))) (by simp only[QaA]at hPl;omega) (λi hi=>?_) ?_
     ·exact e2
     ·have e3:tl[i]?=some tl[i]:=dr hi;rw[Qdp,e3];simp only[Option.toList,Qhq,Qfg,List.foldl_nil];generalize(tl.take i).foldl (λb q=>if xq x.bV (bG x r) (aU x r) r.aE q<xq x.bV (bG x r) (aU x r) r.aE b then q else b) b0=bb
      show j_ (tl.map (nm x.bV (bG x r) (aU x r) r.aE)) (nm x.bV (bG x r) (aU x r) r.aE bb) (i:Int)=_;unfold j_;rw[bk (by simp [ay];exact hi),bB (show(tl.map (nm x.bV (bG x r) (aU x r) r.aE))[i]?=some (nm x.bV (bG x r) (aU x r) r.aE tl[i]) by rw[Qc0,e3];rfl),af,inc (n:=tl.length) hi (by simp only[QaA]at hPl;omega),show((i+1:Nat):Int)=(i:Int)+1 by omega]
      generalize tl[i]=q;by_cases iq:xq x.bV (bG x r) (aU x r) r.aE q<xq x.bV (bG x r) (aU x r) r.aE bb
      ·rw[if_pos iq,bk (by simp only[ew];exact iq)]
      ·rw[if_neg iq,aR (by simp only[eC];unfold xq at iq;omega)]
     ·show j_ (tl.map (nm x.bV (bG x r) (aU x r) r.aE)) _ (tl.length:Int)=_;unfold j_;rw[aR (by simp [ay]),QbC]
    show post (aQ (aL (λs=>j_ (tl.map (nm x.bV (bG x r) (aU x r) r.aE)) s.1 s.2) (nm x.bV (bG x r) (aU x r) r.aE b0,0)) _) _
    rw[k_,af];generalize tl.foldl (λb q=>if xq x.bV (bG x r) (aU x r) r.aE q<xq x.bV (bG x r) (aU x r) r.aE b then q else b) b0=bb at pk1 pk2
    rw[show [b0]++tl=b0 ::tl from rfl]at pk1 pk2;obtain⟨m1,m2,m3⟩:=AU.ok bb pk1;refine aI.2 (.inr ⟨⟨hp,hc⟩,.inl ⟨bb,⟨by rw[m2];omega,m3,m1⟩,λq hq=>?_,rfl⟩⟩)
    obtain⟨a,ha,hva,RN⟩:=AU.cov q (by rw[hq.1];omega) hq.2.1 hq.2.2
    obtain⟨a1,a2,a3⟩:=AU.ok a ha;have he:xq x.bV (bG x r) (aU x r) r.aE a=xq x.bV (bG x r) (aU x r) r.aE q:=by
     rw[O0 hT hs (by rw[a2];omega) a1,O0 hT hs hq.1 hq.2.2];exact RN.1
    have:=pk2 a ha;rw[he]at this;exact⟨this.1,λh=>QaE (this.2 h) hva⟩
  ·rw[bk (by simp only[QfW,QhE,oH,ay];omega)]
   exact aI.2 (.inl ⟨λh=>hc h.2,rfl⟩)
 ·rw[if_neg hp,bk (by simp [Qje])]
  exact aI.2 (.inl ⟨λh=>hp h.1,rfl⟩)
end
def fG:Nat->Nat->List Bool
 |0,_=>[]
 |f+1,j=>fG f (j / 2)++[decide (j % 2=1)]
theorem Ih(f m:Nat):∀d,fG (f+d) (m*2 ^ d)=fG f m++List.replicate d false
 |0=>by simp
 |d+1=>by
  rw[show f+(d+1)=(f+d)+1 by omega,fG,Qdw,<-Nat.mul_assoc,Nat.mul_div_cancel _ (by omega),Ih f m d,List.replicate_succ',Qds]
  congr 3;rw[QbV];omega
theorem Fu(f:Nat):fG f 0=List.replicate f false:=by
 have:=Ih 0 0 f;simpa [fG]using this
section
variable {n : aC} {t : av} {aA : List aS} {aE : Int} {aH : List Bool}
theorem Z6(b:List Bool):E6 n t aA aE b=if(preB n t aA aE b).2≠0 then(tY,(preB n t aA aE b).2)else((nm n t aA aE b).ct,0):=rfl
theorem Og{b:List Bool}(h:okB n t aA aE b):E6 n t aA aE b=((nm n t aA aE b).ct,0):=by rw[Z6,if_neg (show ¬(preB n t aA aE b).2≠0 from λhh=>hh h)]
theorem Of{b:List Bool}(h:¬okB n t aA aE b):(E6 n t aA aE b).2≠0/\E6 n t aA aE b=(tY,(E6 n t aA aE b).2):=by
 rw[Z6,if_pos (show(preB n t aA aE b).2≠0 from h)];exact⟨h,rfl⟩
theorem YZ{f j:Nat}:YY aH (aH++fG f j):=λi x hx=>by
 unfold El;rcases sh i aH.length with hi|hi
 ·rw[Qdz hi]at hx;rw[hx];simp
 ·rw[Qbp hi];cases x <;> simp
end
theorem Qic{n:aC}{t:av}{aA:List aS}{aE:Int}{b:List Bool}:(nm n t aA aE b).ct.gK.length<=b.length:=by
 have:=Ts (n:=n) (t:=t) (aA:=aA) b 0 (sF t aE);have h0:(sF t aE).ct.gK.length=0:=rfl;rw[h0,Qbu]at this;exact this
theorem Qci{x:ae}{r:aD}(hx:dn x)(hp:ub x r=true){b:List Bool}(hl:b.length=(aU x r).length+1)(y5:okB x.bV (bG x r) (aU x r) r.aE b):
  XL (nm x.bV (bG x r) (aU x r) r.aE b).ct=b/\(nm x.bV (bG x r) (aU x r) r.aE b).ct.gK.length=(aU x r).length:=by
 have h5:=QbF (yK hp);have Kp:=Og y5;obtain⟨o1,o2⟩:=QkM (PX hx hp) ⟨h5.2.2.1,h5.2.2.2.1⟩ hl (by rw[Kp])
 rw[Kp]at o2;simp only at o2;obtain⟨f1,f2,f3⟩:=Bj.final o1;obtain⟨q1,q2⟩:=Bj.Qlw o1 (k:=(aU x r).length) (fa _);rw[<-o1.len]at q1;rw[o2];refine⟨?_,f1⟩;unfold XL;apply Qga;intro i;cases i with
 |zero =>
  rw[Qmc,q1,Y6 (by omega)]
 |succ i =>
  rw[List.getElem?_cons_succ,Qc0];rcases sh i (aU x r).length with hi|hi
  ·rw[f2 i hi,Y6 (by omega)];rfl
  ·rw[Qbp (by omega),Qbp (by omega)];rfl
end
end Go.Proofs.YtkcilfpbgjjjbaaGreatDoor
