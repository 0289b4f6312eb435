/- Part MR. -/
import Derived.Test.YtkcilfpbgjjjbaaGreatDoorMP
import Derived.Test.YtkcilfpbgjjjbaaGreatDoorMQ
import Derived.Test.YtkcilfpbgjjjbaaGreatDoorMT
set_option linter.unusedSimpArgs false
set_option linter.unusedVariables false
set_option linter.unusedSectionVars false
namespace Go.Proofs.YtkcilfpbgjjjbaaGreatDoor
noncomputable section
def JA{α:Type}(p:α→Bool):List α→Option Nat
 | []=>none
 |a ::r=>if p a=true then some 0 else(JA p r).map (·+1)
section
variable {α : Type} {p : α → Bool}
theorem u3{l:List α}{k:Nat}(h:JA p l=some k):∃hk:k<l.length,p l[k]=true∧∀j (hj:j<k),p (l[j]'(by omega))=false:=by
 induction l generalizing k with
 |nil=>cases h
 |cons a r ih =>
  unfold JA at h;split at h
  ·cases h;exact⟨by simp,by simpa,fun j hj=>by omega⟩
  ·rename_i ha;rw[Option.map_eq_some_iff]at h;obtain⟨m,hm,rfl⟩:=h;obtain⟨h1,h2,h3⟩:=ih hm;refine⟨by simp;omega,by simpa using h2,fun j hj=>?_⟩
   cases j with
   |zero=>simpa using ha
   |succ j=>simpa using h3 j (by omega)
theorem Kk{l:List α}(h:JA p l=none):∀a∈l,p a=false:=by
 induction l with
 |nil=>simp
 |cons a r ih =>
  unfold JA at h;split at h
  ·cases h
  ·rename_i ha;rw[Option.map_eq_none_iff]at h;intro b hb;rcases List.mem_cons.1 hb with rfl|hb
   ·simpa using ha
   ·exact ih h b hb
def qz(p:α→Bool)(l:List α):Int:=match JA p l with
 |some k=>k
 |none=>-1
theorem QhV{l:List α}:0≤qz p l↔∃a∈l,p a=true:=by
 unfold qz;cases h:JA p l with
 |some k =>
  obtain⟨h1,h2,_⟩:=u3 h;exact⟨fun _=>⟨_,List.getElem_mem h1,h2⟩,fun _=>Int.natCast_nonneg k⟩
 |none=>exact⟨fun h'=>by simp at h',fun⟨a,ha,hp⟩=>by rw[Kk h a ha]at hp;cases hp⟩
theorem TD{l:List α}:-1≤qz p l∧qz p l<l.length:=by
 unfold qz;cases h:JA p l with
 |some k=>have:=(u3 h).1;simp only;omega
 |none=>simp only;omega
theorem po{l:List α}:cD (qz p l) 0=l.any p:=by
 rw[Bool.eq_iff_iff,nk,QhV,List.any_eq_true]
end
section
variable {E : Type} {B : Int → Option (Int ⊕ E)}
theorem Yy{n:Nat}(hn:n≤1048576)(p:Nat→Bool)(Y:Nat→E){N:E}
  (pq:∀i:Nat,i<n→B (i:Int)=some (if p i=true then .inr (Y i)else .inl ((i:Int)+1))) (Dh:B (n:Int)=some (.inr N)):
  (∃k,k<n∧p k=true∧(∀j,j<k→p j=false)∧aL B 0=some (Y k))∨((∀j,j<n→p j=false)∧aL B 0=some N):=by
 have main:post (aL B 0) fun e=>(∃k,k<n∧p k=true∧(∀j,j<k→p j=false)∧e=Y k)∨((∀j,j<n→p j=false)∧e=N):=by
  refine eJ (fun i=>∃k:Nat,i=(k:Int)∧k≤n∧∀j,j<k→p j=false) (fun i=>n-i.toNat) ⟨0,rfl,Nat.zero_le _,fun j hj=>by omega⟩ (by simp;omega) ?_
  rintro _ ⟨k,rfl,hk,hf⟩;rcases Nat.lt_or_ge k n with h|h
  ·rw[pq k h];split
   ·rename_i hp;exact b5 (.inl ⟨k,h,hp,hf,rfl⟩)
   ·rename_i hp;refine bZ ⟨⟨k+1,by simp,by omega,fun j hj=>?_⟩,by simp;omega⟩
    rcases Nat.lt_or_eq_of_le (Nat.le_of_lt_succ hj)with hj|rfl
    ·exact hf j hj
    ·simpa using hp
  ·obtain rfl:k=n:=by omega
   rw[Dh];exact b5 (.inr ⟨hf,rfl⟩)
 obtain⟨e,he,h⟩:=main;rcases h with⟨k,h1,h2,h3,rfl⟩|⟨h1,rfl⟩
 ·exact .inl ⟨k,h1,h2,h3,he⟩
 ·exact .inr ⟨h1,he⟩
theorem D3{n:Nat}(hn:n≤1048576)(p:Nat→Bool){y N:E}{b:Bool}(hb:b=true↔∃k,k<n∧p k=true)
  (pq:∀i:Nat,i<n→B (i:Int)=some (if p i=true then .inr y else .inl ((i:Int)+1))) (Dh:B (n:Int)=some (.inr N)):
  aL B 0=some (if b=true then y else N):=by
 rcases Yy hn p (fun _=>y) pq Dh with⟨k,h1,h2,_,h4⟩|⟨h1,h4⟩
 ·rw[h4,if_pos (hb.2 ⟨k,h1,h2⟩)]
 ·rw[h4,if_neg fun h=>by obtain⟨k,h5,h6⟩:=hb.1 h;rw[h1 k h5]at h6;cases h6]
theorem eX{α:Type}{l:List α}(hl:l.length≤1048576)(p:α→Bool){y N:E}
  (pq:∀(i:Nat) a,l[i]?=some a→B (i:Int)=some (if p a=true then .inr y else .inl ((i:Int)+1))) (Dh:B (l.length:Int)=some (.inr N)):
  aL B 0=some (if l.any p=true then y else N):=by
 refine D3 hl (fun i=>match l[i]? with|some a=>p a|none=>false) ?_ (fun i hi=>?_) Dh
 ·rw[List.any_eq_true];constructor
  ·rintro⟨a,ha,hp⟩;obtain⟨k,hk,rfl⟩:=List.getElem_of_mem ha;exact⟨k,hk,by rw[List.getElem?_eq_getElem hk];exact hp⟩
  ·rintro⟨k,hk,hp⟩;rw[List.getElem?_eq_getElem hk]at hp;exact⟨_,List.getElem_mem hk,hp⟩
 ·rw[List.getElem?_eq_getElem hi];exact pq i _ (List.getElem?_eq_getElem hi)
theorem wF{α:Type}{l:List α}(hl:l.length≤1048576)(p:α→Bool)(Y:Nat→E){N:E}
  (pq:∀(i:Nat) a,l[i]?=some a→B (i:Int)=some (if p a=true then .inr (Y i)else .inl ((i:Int)+1))) (Dh:B (l.length:Int)=some (.inr N)):
  aL B 0=some (match JA p l with|some k=>Y k|none=>N):=by
 have h:=Yy (B:=B) hl (fun i=>match l[i]? with|some a=>p a|none=>false) Y (N:=N) (fun i hi=>by
  rw[List.getElem?_eq_getElem hi];exact pq i _ (List.getElem?_eq_getElem hi)) Dh
 have eK:∀j (hj:j<l.length),(match l[j]? with|some a=>p a|none=>false)=p l[j]:=fun j hj=>by rw[List.getElem?_eq_getElem hj]
 rcases h with⟨k,h1,h2,h3,h4⟩|⟨h1,h4⟩
 ·cases hx:JA p l with
  |none=>rw[eK k h1,Kk hx _ (List.getElem_mem h1)]at h2;cases h2
  |some m =>
   obtain⟨g1,g2,g3⟩:=u3 hx;rcases Nat.lt_trichotomy k m with h|h|h
   ·rw[eK k h1,g3 k h]at h2;cases h2
   ·rw[h4,h]
   ·have:=h3 m h;simp only[eK m g1]at this;rw[g2]at this;cases this
 ·cases hx:JA p l with
  |none=>rw[h4]
  |some m =>
   obtain⟨g1,g2,g3⟩:=u3 hx;have:=h1 m g1;simp only[eK m g1]at this;rw[g2]at this;cases this
end
theorem Z1{m:Nat}(h:m<9223372036854775808):IntKind.i64.wrap (m:Int)=m:=IntWalk.i64_in _ ⟨by omega,by omega⟩
theorem Qja{m:Nat}(h:m<9223372036854775808):Ax .u64 (m:Int)=m:=by
 unfold Ax;simp only[IntKind.wrap,IntKind.bits,IntKind.signed];simp;omega
theorem Qa8{m i:Nat}(hi:i≤64):zd .i64 (m:Int) (i:Int)=((m / 2 ^ i:Nat):Int):=by
 unfold zd;rw[show min (i:Int).toNat IntKind.i64.bits=i by simp [IntKind.bits];omega,show(2:Int) ^ i=((2 ^ i:Nat):Int) by simp,Int.fdiv_eq_ediv_of_nonneg _ (Int.natCast_nonneg _)]
 rfl
theorem Qfv{i:Nat}(hi:i≤62):K2 .i64 1 (i:Int)=((2 ^ i:Nat):Int):=by
 have h2:2 ^ i≤2 ^ 62:=Nat.pow_le_pow_right (by omega) hi
 unfold K2;rw[show min (i:Int).toNat IntKind.i64.bits=i by simp [IntKind.bits];omega,Int.one_mul,show(2:Int) ^ i=((2 ^ i:Nat):Int) by simp]
 exact Z1 (by omega)
theorem orN{a b:Nat}(ha:a<9223372036854775808)(hb:b<9223372036854775808):OE .i64 (a:Int) (b:Int)=((a |||b:Nat):Int):=by
 unfold OE;have h:=Nat.or_lt_two_pow (n:=63) ha hb;have e:(BitVec.ofInt IntKind.i64.bits (a:Int) |||BitVec.ofInt IntKind.i64.bits (b:Int)).toNat=a |||b:=by
  rw[BitVec.toNat_or];show(BitVec.ofInt 64 (a:Int)).toNat |||(BitVec.ofInt 64 (b:Int)).toNat=_;rw[BitVec.ofInt_natCast,BitVec.ofInt_natCast,BitVec.toNat_ofNat,BitVec.toNat_ofNat,Nat.mod_eq_of_lt (by omega),Nat.mod_eq_of_lt (by omega)]
 rw[e];exact Z1 (by omega)
theorem QbO{a b:Nat}(ha:a<9223372036854775808)(hb:b<9223372036854775808):JD .i64 (a:Int) (b:Int)=((a &&& b:Nat):Int):=by
 unfold JD;have h:=Nat.and_le_left (n:=a) (m:=b);have e:(BitVec.ofInt IntKind.i64.bits (a:Int) &&& BitVec.ofInt IntKind.i64.bits (b:Int)).toNat=a &&& b:=by
  rw[BitVec.toNat_and];show(BitVec.ofInt 64 (a:Int)).toNat &&& (BitVec.ofInt 64 (b:Int)).toNat=_;rw[BitVec.ofInt_natCast,BitVec.ofInt_natCast,BitVec.toNat_ofNat,BitVec.toNat_ofNat,Nat.mod_eq_of_lt (by omega),Nat.mod_eq_of_lt (by omega)]
 rw[e];exact Z1 (by omega)
theorem S0{a b:Nat}(ha:a<9223372036854775808)(hb:b<9223372036854775808):y2 .i64 (a:Int) (b:Int)=0↔∀i,a.testBit i=true→b.testBit i=true:=by
 show IntKind.i64.wrap (((BitVec.ofInt 64 (a:Int) &&& ~~~BitVec.ofInt 64 (b:Int)).toNat:Nat):Int)=0↔_;rw[BitVec.ofInt_natCast,BitVec.ofInt_natCast];have hle:(BitVec.ofNat 64 a &&& ~~~BitVec.ofNat 64 b).toNat<9223372036854775808:=by
  rw[BitVec.toNat_and,BitVec.toNat_ofNat,Nat.mod_eq_of_lt (by omega)]
  exact Nat.lt_of_le_of_lt Nat.and_le_left ha
 rw[Z1 hle];have bit:∀i,(BitVec.ofNat 64 a &&& ~~~BitVec.ofNat 64 b).toNat.testBit i=(a.testBit i&&!b.testBit i):=fun i=>by
  rw[BitVec.testBit_toNat,BitVec.getLsbD_and,BitVec.getLsbD_not,BitVec.getLsbD_ofNat,BitVec.getLsbD_ofNat];rcases Nat.lt_or_ge i 64 with h|h
  ·simp [h]
  ·have:a.testBit i=false:=Nat.testBit_lt_two_pow (Nat.lt_of_lt_of_le ha (Nat.le_trans (by decide) (Nat.pow_le_pow_right (n:=2) (by omega) h)))
   simp [this]
 constructor
 ·intro h i hi;have:=bit i;rw[show(BitVec.ofNat 64 a &&& ~~~BitVec.ofNat 64 b).toNat=0 by omega,Nat.zero_testBit,hi]at this
  simpa using this.symm
 ·intro h;have:(BitVec.ofNat 64 a &&& ~~~BitVec.ofNat 64 b).toNat=0:=Nat.eq_of_testBit_eq fun i=>by
   rw[bit,Nat.zero_testBit];cases hi:a.testBit i with
   |false=>rfl
   |true=>rw[h i hi];rfl
  omega
theorem Oe{m i:Nat}:cM (uJ (((m / 2 ^ i:Nat):Int)) 2) 1=m.testBit i:=by
 rw[Bool.eq_iff_iff,kJ,Nat.testBit_eq_decide_div_mod_eq,decide_eq_true_iff];unfold uJ;generalize m / 2 ^ i=q;rw[Int.tmod_eq_emod_of_nonneg (by omega)]
 omega
theorem Qd_{m i:Nat}(h:m.testBit i=false)(j:Nat):(m+2 ^ i).testBit j=(m.testBit j||decide (i=j)):=by
 rw[Nat.add_comm];rcases Nat.lt_trichotomy j i with hj|rfl|hj
 ·rw[Nat.testBit_two_pow_add_gt hj,decide_eq_false (by omega),Bool.or_false]
 ·rw[Nat.testBit_two_pow_add_eq,h];simp
 ·rw[decide_eq_false (by omega),Bool.or_false]
  have h0:m / 2 ^ i % 2=0:=by
   rw[Nat.testBit_eq_decide_div_mod_eq,decide_eq_false_iff_not]at h;omega
  have e1:(2 ^ i+m) / 2 ^ (i+1)=m / 2 ^ (i+1):=by
   rw[Nat.pow_succ,←Nat.div_div_eq_div_mul,←Nat.div_div_eq_div_mul,Nat.add_div_left _ (Nat.two_pow_pos i)];omega
  rw[Nat.testBit_eq_decide_div_mod_eq,Nat.testBit_eq_decide_div_mod_eq];have hp:2 ^ j=2 ^ (i+1)*2 ^ (j-(i+1)):=by rw[←Nat.pow_add];congr 1;omega
  rw[hp,←Nat.div_div_eq_div_mul,←Nat.div_div_eq_div_mul,e1]
theorem QgO{t:al}{cG:Int}(ht:0≤t.cG∧t.cG≤1073741823)(hs:0≤cG∧cG≤1073741823):∃b,tX t cG=some b∧tO t cG=some b:=by
 obtain⟨a,ha⟩:∃a:Nat,cG=a:=⟨cG.toNat,by omega⟩
 obtain⟨c,hc⟩:∃c:Nat,t.cG=c:=⟨t.cG.toNat,by omega⟩
 subst ha;refine⟨cM (y2 .i64 (a:Int) (c:Int)) 0,?_,?_⟩
 ·unfold tX;rw[hc];rw[show cD (c:Int) 0=true by simp,show cD (a:Int) 0=true by simp]
  rfl
 ·unfold tO;rw[bq (by simp;omega)]
  have key:aL (fun s=>nq t (a:Int) s) 1=some (if(cM (y2 .i64 (a:Int) (c:Int)) 0)=true then .inl ()else .inr false):=by
   have Xo:∀k:Nat,k≤62→(0:Int)<((2 ^ k:Nat):Int)∧((2 ^ k:Nat):Int)≤4611686018427387904:=fun k hk=>by
    have h1:=Nat.two_pow_pos k;have h2:2 ^ k≤2 ^ 62:=Nat.pow_le_pow_right (by omega) hk
    omega
   have main:post (aL (fun s=>nq t (a:Int) s) 1) fun e=>e=if(cM (y2 .i64 (a:Int) (c:Int)) 0)=true then .inl ()else .inr false:=by
    refine eJ (fun s=>∃k:Nat,k≤63∧s=(if k=63 then -9223372036854775808 else((2 ^ k:Nat):Int))∧∀i,i<k→a.testBit i=true→c.testBit i=true) (fun s=>if s<0 then 0 else 9223372036854775808-s.toNat) ⟨0,by omega,rfl,fun i hi=>by omega⟩ (by decide) ?_
    rintro _ ⟨k,hk,rfl,hb⟩;show post (nq t (a:Int) _) _;unfold nq;rcases Nat.lt_or_ge k 63 with rS|rS
    ·rw[if_neg (by omega)]
     obtain⟨p1,p2⟩:=Xo k (by omega)
     rw[bD (by simp only[w4];exact p1),fg (by omega),hc]
     have hq:∀z:Nat,z<9223372036854775808→so .i64 (z:Int) ((2 ^ k:Nat):Int)=((z / 2 ^ k:Nat):Int):=fun z hz=>by
      have e:(z:Int).tdiv ((2 ^ k:Nat):Int)=((z / 2 ^ k:Nat):Int):=by rw[Int.tdiv_eq_ediv_of_nonneg (by omega)];rfl
      have h1:=Nat.div_le_self z (2 ^ k);rw[Qfk,e] <;>(rw[e];generalize z / 2 ^ k=q at h1;omega)
     rw[hq a (by omega),hq c (by omega),Oe]
     have go:∀h:(a.testBit k=true→c.testBit k=true),post (some (Sum.inl (oT .i64 ((2 ^ k:Nat):Int) 2):Int⊕(Unit⊕Bool))) fun x=>(∀s',x=.inl s'→(∃k':Nat,k'≤63∧s'=(if k'=63 then -9223372036854775808 else((2 ^ k':Nat):Int))∧∀i,i<k'→a.testBit i=true→c.testBit i=true)∧(if s'<0 then 0 else 9223372036854775808-s'.toNat)<(if((2 ^ k:Nat):Int)<0 then 0 else 9223372036854775808-((2 ^ k:Nat):Int).toNat))∧∀e,x=.inr e→e=if(cM (y2 .i64 (a:Int) (c:Int)) 0)=true then .inl ()else .inr false:=by
      intro h;have hm:oT .i64 ((2 ^ k:Nat):Int) 2=if k+1=63 then -9223372036854775808 else((2 ^ (k+1):Nat):Int):=by
       split
       ·rename_i h62;obtain rfl:k=62:=by omega
        decide
       ·obtain⟨q1,q2⟩:=Xo (k+1) (by omega)
        have e:((2 ^ k:Nat):Int)*2=((2 ^ (k+1):Nat):Int):=by rw[Nat.pow_succ];simp
        rw[Qh0 (by omega) (by omega),e]
      refine bZ ⟨⟨k+1,by omega,hm,fun i hi=>?_⟩,?_⟩
      ·rcases Nat.lt_or_eq_of_le (Nat.le_of_lt_succ hi)with hi|rfl
       ·exact hb i hi
       ·exact h
      ·rw[hm,if_neg (show ¬((2 ^ k:Nat):Int)<0 by omega)]
       split
       ·rw[if_pos (by omega)];omega
       ·obtain⟨q1,q2⟩:=Xo (k+1) (by omega)
        have e:2 ^ (k+1)=2 ^ k*2:=Nat.pow_succ ..;rw[if_neg (by omega)]
        omega
     refine a_ (fun h1=>bW (by omega) (a_ (fun h2=>b5 ?_) (fun h2=>go fun _=>?_))) (fun h1=>go fun h=>by rw[h1]at h;cases h)
     ·rw[if_neg];intro h;have h3:=(S0 (by omega) (by omega)).1 (kJ.1 h) k h1
      rw[←Oe,kJ]at h3;rw[kJ]at h2;omega
     ·rw[zC]at h2;rw[←Oe,kJ];unfold uJ at h2 ⊢;generalize c / 2 ^ k=q at h2 ⊢;rw[Int.tmod_eq_emod_of_nonneg (by omega)]at h2 ⊢
      omega
    ·obtain rfl:k=63:=by omega
     rw[if_pos rfl,bq (by decide)]
     refine b5 ?_
     rw[if_pos];rw[kJ];refine(S0 (by omega) (by omega)).2 fun i hi=>?_
     rcases Nat.lt_or_ge i 63 with h|h
     ·exact hb i h hi
     ·rw[Nat.testBit_lt_two_pow (Nat.lt_of_lt_of_le (show a<2 ^ 63 by omega) (Nat.pow_le_pow_right (n:=2) (by omega) h))]at hi;cases hi
   exact main.eq
  rw[key,ak];split <;> simp_all
theorem zz{α:Type}{b:Bool}{x y:α}:br b (some x) (some y)=some (if b=true then x else y):=by cases b <;> rfl
theorem bL{α β:Type}{l:List α}{i:Nat}{a:α}(h:l[i]?=some a)(f:α→Option β)(z:Option β):br (bh (i:Int) (az l)) (aR (bj l i) f) z=f a:=by
 have:=(List.getElem?_eq_some_iff.1 h).1;rw[bD (by simp [az];omega),bC h,ak]
theorem bA{α β:Type}{l:List α}{y z:Option β}:br (bh (l.length:Int) (az l)) y z=z:=bq (by simp [az])
theorem jc{α:Type}{l:List α}{i:Nat}{a:α}(h:l[i]?=some a)(hl:l.length≤1048576):aU .i64 (i:Int) 1=(i:Int)+1:=inc (List.getElem?_eq_some_iff.1 h).1 hl
def PB(x:ab)(v:ae):Bool:=decide (0≤v.aJ∧v.aJ<x.ah.length)
def Mu(x:ab)(v:ae):Bool:=match x.ah[v.aJ.toNat]? with
 |some o=>o.off
 |none=>false
def Nk(o:Int)(v:ae):Bool:=cM v.aJ o
def dz(l:List ae)(o:Int):Bool:=l.any (Nk o)
def nS(v a:ae):Bool:=cM v.aJ a.aJ&&(Im v.drop a.drop&&true)
def gO(x:ab)(o:Int):List ae:=match x.ah[o.toNat]? with
 |some q=>(if 0≤q.pick.place then [ae.mk o false]else [])++(if 0≤q.drop.place then [ae.mk o true]else [])
 |none=>[]
def IV(l:List ae):List ae→Bool
 | []=>true
 | [a]=>cD (qz (nS a) l) 0
 |a ::b ::_=>cD (qz (nS a) l) 0&&bh (qz (nS a) l) (qz (nS b) l)
def wu(x:ab)(l:List ae)(v:ae):Bool:=(gO x v.aJ).any (nS v)&&IV l (gO x v.aJ)
def tW(l:List ae)(p:aA):Bool:=dz l p.x0&&dz l p.x1
def H3(l:List ae)(p:aA):Bool:=match JA (Nk p.x1) l with
 |some k=>dz (l.drop k) p.x0
 |none=>false
def E_(l:List ae)(p:aA):Bool:=dz l p.x1&&(!dz l p.x0||H3 l p)
instance(l:List ae):Decidable l.Nodup:=inferInstanceAs (Decidable (List.Nodup l))
def KZ(x:ab)(l:List ae):Int:=
 if l.length=0 then 2 else if l.any (fun v=>!PB x v)=true then 2 else if l.any (Mu x)=true then 9 else if ¬l.Nodup then 6 else
 if l.any (fun v=>!wu x l v)=true then 19 else if x.bV.any (tW l)=true then 20 else if x.before.any (E_ l)=true then 21 else 0
section
variable {x : ab} {l : List ae}
theorem Nl{v a:ae}:nS v a=true↔a=v:=by
 unfold nS;cases v;cases a;simp;exact⟨fun⟨h1,h2⟩=>⟨h1.symm,h2.symm⟩,fun⟨h1,h2⟩=>⟨h1.symm,h2.symm⟩⟩
theorem Cp{o:Int}{v:ae}:Nk o v=true↔v.aJ=o:=by simp [Nk]
theorem tY{o:Int}:dz l o=true↔∃v∈l,v.aJ=o:=by simp [dz,List.any_eq_true,Nk]
theorem E7{v:ae}:l.any (nS v)=true↔v∈l:=by
 rw[List.any_eq_true];exact⟨fun⟨a,h,h'⟩=>Nl.1 h'▸h,fun h=>⟨v,h,Nl.2 rfl⟩⟩
theorem PE{v:ae}:0≤qz (nS v) l↔v∈l:=by rw[←nk,po,E7]
theorem FH{v:ae}{k:Nat}(h:qz (nS v) l=k):l[k]?=some v∧∀j,j<k→l[j]?≠some v:=by
 unfold qz at h;cases hx:JA (nS v) l with
 |none=>rw[hx]at h;simp only at h;omega
 |some m =>
  rw[hx]at h;simp only at h;obtain rfl:m=k:=by omega
  obtain⟨h1,h2,h3⟩:=u3 hx;refine⟨by rw[List.getElem?_eq_getElem h1,Nl.1 h2],fun j hj he=>?_⟩
  have:=h3 j hj;rw[List.getElem?_eq_getElem (show j<l.length by omega)]at he
  rw[Nl.2 (Option.some.inj he)]at this;cases this
theorem zo(hl:l.length≤1048576)(v:ae):iq l v=some (qz (nS v) l):=by
 have:=wF hl (nS v) (fun k=>(.inr (k:Int):Unit⊕Int)) (N:=.inl ()) (B:=fun s=>cz l v s) (fun i a h=>by
  show cz l v i=_;unfold cz;rw[bL h,jc h hl,zz];rfl) (by
  show cz l v l.length=_;unfold cz;rw[bA])
 unfold iq dB;rw[ct this];unfold qz;cases JA (nS v) l <;> rfl
theorem QcH(hl:l.length≤1048576)(v:ae):dB l v=some (qz (nS v) l):=by
 have:=zo hl v;unfold iq at this;obtain⟨a,h,h'⟩:=UT this;rw[h,h']
theorem contains_eq(hl:l.length≤1048576)(v:ae):dK l v=some (l.any (nS v)):=by
 unfold dK;rw[QcH hl,ak,po]
theorem zQ(hl:l.length≤1048576)(v:ae):gJ l v=some (qz (nS v) l):=by
 have:=wF hl (nS v) (fun k=>(.inr (k:Int):Unit⊕Int)) (N:=.inl ()) (B:=fun s=>jR l v s) (fun i a h=>by
  show jR l v i=_;unfold jR;rw[bL h,jc h hl,zz];rw[show(cM a.aJ v.aJ&&(Im a.drop v.drop&&true))=nS v a by
   rw[Bool.eq_iff_iff,Nl];cases v;cases a;simp]) (by
  show jR l v l.length=_;unfold jR;rw[bA])
 unfold gJ;rw[ct this];unfold qz;cases JA (nS v) l <;> rfl
theorem nodup_iff:¬l.Nodup↔∃k,k<l.length∧∃j,j<k∧l[j]?=l[k]?:=by
 unfold List.Nodup;rw[List.pairwise_iff_getElem];constructor
 ·intro h;refine Classical.byContradiction fun hn=>h fun i j hi hj QX he=>hn ⟨j,hj,i,QX,?_⟩
  rw[List.getElem?_eq_getElem hi,List.getElem?_eq_getElem hj,he]
 ·rintro⟨k,hk,j,hj,he⟩ h;rw[List.getElem?_eq_getElem hk,List.getElem?_eq_getElem (show j<l.length by omega)]at he
  exact h j k (by omega) hk hj (Option.some.inj he)
theorem Am{v:ae}{k:Nat}(hk:k≤l.length):v∈l.take k↔∃j,j<k∧l[j]?=some v:=by
 rw[List.mem_iff_getElem?];constructor
 ·rintro⟨j,h⟩;rw[List.getElem?_take]at h;split at h
  ·exact⟨j,‹_›,h⟩
  ·cases h
 ·rintro⟨j,hj,h⟩;exact⟨j,by rw[List.getElem?_take,if_pos hj,h]⟩
theorem Qdu(hl:l.length≤1048576):su l=some (decide (¬l.Nodup)):=by
 have:=D3 (B:=fun s=>h_ l s) hl (fun k=>match l[k]? with|some v=>(l.take k).any (nS v)|none=>false) (y:=(.inr true:Unit⊕Bool)) (N:=.inl ()) (b:=decide (¬l.Nodup)) (by
  rw[decide_eq_true_iff,nodup_iff];constructor
  ·rintro⟨k,hk,j,hj,he⟩;refine⟨k,hk,?_⟩;rw[List.getElem?_eq_getElem hk]at he ⊢;exact E7.2 ((Am (by omega)).2 ⟨j,hj,he⟩)
  ·rintro⟨k,hk,h⟩;rw[List.getElem?_eq_getElem hk]at h;obtain⟨j,hj,he⟩:=(Am (by omega)).1 (E7.1 h)
   exact⟨k,hk,j,hj,by rw[he,List.getElem?_eq_getElem hk]⟩) (fun i hi=>by
  have h:l[i]?=some l[i]:=List.getElem?_eq_getElem hi;show h_ l i=_;unfold h_;rw[bL h,show wS l 0 (i:Int)=some (l.take i) by unfold wS;rw[if_pos (by omega)];simp,ak,zo (by rw[List.length_take];omega),ak,jc h hl,po,zz]
  rw[h]) (by
  show h_ l l.length=_;unfold h_;rw[bA])
 unfold su;rw[ct this];split <;> simp_all
theorem wO{o:Int}:(gO x o).length≤2:=by
 unfold gO;split
 ·split <;> split <;> simp
 ·simp
theorem B5(hx:da x){o:Int}(h0:0≤o)(h1:o<x.ah.length):mA x.ah o=some (gO x o):=by
 have e:x.ah[o.toNat]?=some (x.ah[o.toNat]'(by omega)):=List.getElem?_eq_getElem _
 generalize x.ah[o.toNat]'(by omega)=q at e
 have hg:bj x.ah o=some q:=by unfold bj;rw[if_pos h0,e]
 unfold mA uD;rw[ak,bD (by simp [az];omega),hg,ak]
 unfold gO;rw[e];have hJ:∀l1:List ae,l1.length≤1→od x.ah o l1=some (l1++if 0≤q.drop.place then [ae.mk o true]else []):=fun l1 hl=>by
  unfold od;rw[hg,ak,fg (by unfold eO;simp;omega),JI]
  simp only[nk];split <;> simp
 rw[hJ _ (by simp),hJ _ (by simp),fg (by unfold eO;simp),zz]
 simp only[nk];split <;> rfl
theorem UH(hx:da x){o:Int}(h0:0≤o)(h1:o<x.ah.length):vY x o=some (gO x o):=by
 have e:x.ah[o.toNat]?=some (x.ah[o.toNat]'(by omega)):=List.getElem?_eq_getElem _
 generalize x.ah[o.toNat]'(by omega)=q at e
 have hq:=hx.ord q (List.mem_of_getElem? e);have hg:bj x.ah o=some q:=by unfold bj;rw[if_pos h0,e]
 have hp:cr q.pick.place (-1)=decide (0≤q.pick.place):=by
  have:=hq.pick;rw[Bool.eq_iff_iff,xb,decide_eq_true_iff];unfold OX at this;omega
 have hd:cr q.drop.place (-1)=decide (0≤q.drop.place):=by
  have:=hq.drop;rw[Bool.eq_iff_iff,xb,decide_eq_true_iff];unfold OX at this;omega
 unfold vY;rw[hg,ak];unfold gO;rw[e];have hJ:∀l1:List ae,l1.length≤1→oP x o l1=some (l1++if 0≤q.drop.place then [ae.mk o true]else []):=fun l1 hl=>by
  unfold oP;rw[hg,ak,fg (by unfold eO;simp;omega),hd,JI]
  simp only[decide_eq_true_iff];split <;> simp
 rw[hJ _ (by simp),hJ _ (by simp),fg (by unfold eO;simp),hp,zz]
 simp only[decide_eq_true_iff];split <;> rfl
theorem Qw{o:Int}{a b:ae}{r:List ae}(h:gO x o=a ::b ::r):r=[]∧a≠b:=by
 have h2:=wO (x:=x) (o:=o);rw[h]at h2;have hr:r=[]:=by cases r with
  |nil=>rfl
  |cons c r=>simp at h2
 refine⟨hr,?_⟩;subst hr;unfold gO at h;split at h
 ·split at h <;> split at h <;> simp at h
  obtain⟨rfl,rfl⟩:=h;simp
 ·cases h
theorem Qa6(hl:l.length≤1048576){r:List ae}(hr:r.length≤2)(v:Int):aL (fun s=>dx x l v r s.1 s.2) ((-1),0)=some (if IV l r=true then .inl ()else .inr false):=by
 have out:∀(p:Int),dx x l v r p r.length=some (.inr (.inl ())):=fun p=>by
  unfold dx;rw[bA]
 have go:∀(k:Nat) (a:ae) (p:Int),r[k]?=some a→dx x l v r p k=some (if fT (qz (nS a) l) p=true then .inr (.inr false)else .inl (qz (nS a) l,(k:Int)+1)):=fun k a p h=>by
  unfold dx;rw[bL h,zo hl,ak,jc h (by omega),zz]
 match r,hr with
 | [],_=>exact ya 1 (by decide) (by simp only[qs];rw[show dx x l v [] (-1) 0=_ from out (-1)];rfl)
 | [a],_ =>
  refine ya 2 (by decide) ?_
  have g:=go 0 a (-1) rfl;simp only[qs];rw[show dx x l v [a] (-1) 0=_ from g];have hb:=TD (p:=nS a) (l:=l);by_cases h:fT (qz (nS a) l) (-1)=true
  ·rw[if_pos h,if_neg];simp only[IV,nk];simp only[yS]at h;omega
  ·rw[if_neg h,if_pos]
   ·simp only;rw[show dx x l v [a] (qz (nS a) l) ((0:Nat)+1:Int)=_ from out _]
   ·simp only[IV,nk];simp only[yS]at h;omega
 | [a,b],_ =>
  refine ya 3 (by decide) ?_
  have g:=go 0 a (-1) rfl;have g1:=go 1 b (qz (nS a) l) rfl;simp only[qs];rw[show dx x l v [a,b] (-1) 0=_ from g];have hb:=TD (p:=nS a) (l:=l);by_cases h:fT (qz (nS a) l) (-1)=true
  ·rw[if_pos h,if_neg];simp only[IV,nk,Bool.and_eq_true];simp only[yS]at h;omega
  ·rw[if_neg h];simp only;rw[show dx x l v [a,b] (qz (nS a) l) ((0:Nat)+1:Int)=_ from g1];simp only[yS]at h;by_cases h':fT (qz (nS b) l) (qz (nS a) l)=true
   ·rw[if_pos h',if_neg];simp only[IV,nk,js,Bool.and_eq_true];simp only[yS]at h';omega
   ·rw[if_neg h',if_pos]
    ·simp only;rw[show dx x l v [a,b] (qz (nS b) l) ((1:Nat)+1:Int)=_ from out _]
    ·simp only[IV,nk,js,Bool.and_eq_true];simp only[yS]at h';omega
theorem qy(h:l.any (fun v=>!PB x v)=false){v:ae}(hv:v∈l):0≤v.aJ∧v.aJ<x.ah.length:=by
 have:=List.any_eq_false.1 h v hv;simpa [PB]using this
theorem QaY(hx:da x)(hl:l.length≤1048576)(ho:l.any (fun v=>!PB x v)=false):q9 x l=some (!l.any (fun v=>!wu x l v)):=by
 have:=eX (B:=fun s=>gu x l s) hl (fun v=>!wu x l v) (y:=(.inr false:Unit⊕Bool)) (N:=.inl ()) (fun i a h=>by
  obtain⟨h0,h1⟩:=qy ho (List.mem_of_getElem? h);show gu x l i=_;unfold gu;have hv:=wO (x:=x) (o:=a.aJ);rw[bL h,B5 hx h0 h1,ak,contains_eq (by omega),ak,Qa6 hl hv,ak,jc h hl]
  unfold wu;cases(gO x a.aJ).any (nS a) <;> cases IV l (gO x a.aJ) <;> rfl) (by
  show gu x l l.length=_;unfold gu;rw[bA])
 unfold q9;rw[ct this];cases l.any (fun v=>!wu x l v) <;> rfl
theorem QP(hl:l.length≤1048576){r:List ae}(hr:r.length≤2):tk l r=some (!r.any (fun a=>bh (qz (nS a) l) 0)):=by
 have:=eX (B:=fun s=>gK l r s) (l:=r) (by omega) (fun a=>bh (qz (nS a) l) 0) (y:=(.inr false:Unit⊕Bool)) (N:=.inl ()) (fun i a h=>by
  show gK l r i=_;unfold gK;rw[bL h,zQ hl,ak,jc h (by omega),zz]) (by
  show gK l r r.length=_;unfold gK;rw[bA])
 unfold tk;rw[ct this];cases r.any (fun a=>bh (qz (nS a) l) 0) <;> rfl
theorem Ox{a b:Int}:bh a b=!cD a b:=by rw[Bool.eq_iff_iff];simp
theorem V0(hx:da x)(hl:l.length≤1048576)(ho:l.any (fun v=>!PB x v)=false):v8 x l=some (!l.any (fun v=>!wu x l v)):=by
 have:=eX (B:=fun s=>iR x l s) hl (fun v=>!wu x l v) (y:=(.inr false:Unit⊕Bool)) (N:=.inl ()) (fun i a h=>by
  obtain⟨h0,h1⟩:=qy ho (List.mem_of_getElem? h);show iR x l i=_;unfold iR;have hv:=wO (x:=x) (o:=a.aJ);rw[bL h,UH hx h0 h1,ak,zQ (by omega),ak,QP hl hv,ak,jc h hl]
  rw[Ox,po];have hP:wu x l a=((gO x a.aJ).any (nS a)&&IV l (gO x a.aJ)):=rfl;generalize wu x l a=P at hP ⊢;cases Qji:(gO x a.aJ).any (nS a)with
  |false=>rw[Qji]at hP;subst hP;rfl
  |true =>
   rw[Qji,Bool.true_and]at hP;rw[Bool.not_true,jg];cases NM:gO x a.aJ with
   |nil=>rw[NM]at hP;subst hP;rfl
   |cons c r =>
    cases r with
    |nil =>
     rw[NM]at hP;rw[List.any_cons,List.any_nil,Bool.or_false,Ox,Bool.not_not,←show P=cD (qz (nS c) l) 0 from hP];cases P <;> rfl
    |cons d r =>
     obtain⟨rfl,rR⟩:=Qw NM;rw[NM]at hP;rw[List.any_cons,List.any_cons,List.any_nil,Bool.or_false];show br _ (br true (aR (some c) fun x2=>aR (gJ l x2) fun r3=>aR (some d) fun x3=>aR (gJ l x3) fun r4=>br (dp r3 r4) _ _) _) _=_
     rw[fW,ak,zQ hl,ak,ak,zQ hl,ak];simp only[IV]at hP;have hc:=TD (p:=nS c) (l:=l);have hd:=TD (p:=nS d) (l:=l);have hcd:0≤qz (nS c) l→qz (nS c) l≠qz (nS d) l:=fun h0 he=>by
      obtain⟨k,hk⟩:∃k:Nat,qz (nS c) l=k:=⟨(qz (nS c) l).toNat,by omega⟩
      have e1:=(FH hk).1;have e2:=(FH (he.symm.trans hk)).1;rw[e1]at e2;exact rR (Option.some.inj e2)
     generalize qz (nS c) l=m at *;generalize qz (nS d) l=n at *;cases P with
     |true =>
      have hP':=hP.symm;simp only[Bool.and_eq_true,nk,js]at hP';rw[bD (by simp;omega),bq (by simp;omega)]
      rfl
     |false =>
      have hP':=hP.symm;simp only[Bool.and_eq_false_iff,Cn,jY]at hP';by_cases h1:0≤m∧0≤n
      ·have:=hcd h1.1;rw[bD (by simp;omega),bD (by simp;omega)]
       rfl
      ·rw[bq (by simp;omega)]
       rfl) (by
  show iR x l l.length=_;unfold iR;rw[bA])
 unfold v8;rw[ct this];cases l.any (fun v=>!wu x l v) <;> rfl
end
section
variable {x : ab} {l : List ae}
theorem Qce(hl:l.length≤1048576)(o:Int):dc l o=some (qz (Nk o) l):=by
 have:=wF hl (Nk o) (fun k=>(.inr (k:Int):Unit⊕Int)) (N:=.inl ()) (B:=fun s=>b3 l o s) (fun i a h=>by
  show b3 l o i=_;unfold b3 wG;rw[bL h,ak,jc h hl,zz];rfl) (by
  show b3 l o l.length=_;unfold b3;rw[bA])
 unfold dc;rw[ct this];unfold qz;cases JA (Nk o) l <;> rfl
theorem Vj(hl:l.length≤1048576)(o:Int):cV l o=some (qz (Nk o) l):=by
 have:=wF hl (Nk o) (fun k=>(.inr (k:Int):Unit⊕Int)) (N:=.inl ()) (B:=fun s=>bN l o s) (fun i a h=>by
  show bN l o i=_;unfold bN rO;rw[bL h,ak,jc h hl,zz];rfl) (by
  show bN l o l.length=_;unfold bN;rw[bA])
 unfold cV;rw[ct this];unfold qz;cases JA (Nk o) l <;> rfl
theorem OI(hl:l.length≤1048576)(o:Int):oU l o=some (dz l o):=by
 unfold oU dD;rw[Qce hl,ak,ak,po];rfl
theorem Vk(hl:l.length≤1048576):cP l x=some (l.any fun v=>!PB x v):=by
 have:=wF hl (fun v=>!PB x v) (fun k=>(.inr (k:Int):Unit⊕Int)) (N:=.inl ()) (B:=fun s=>bR l x s) (fun i a h=>by
  show bR l x i=_;unfold bR sR;rw[bL h,ak,jc h hl,zz];rw[show(bh a.aJ 0||cD a.aJ (az x.ah))=!PB x a by
   unfold PB az;rw[Bool.eq_iff_iff];simp]) (by
  show bR l x l.length=_;unfold bR;rw[bA])
 have e:cZ l x=some (qz (fun v=>!PB x v) l):=by
  unfold cZ;rw[ct this];unfold qz;cases JA (fun v=>!PB x v) l <;> rfl
 unfold cP;rw[e,ak,po]
theorem OD{v:ae}(h0:0≤v.aJ)(h1:v.aJ<x.ah.length):∃o,bj x.ah v.aJ=some o∧o∈x.ah∧Mu x v=o.off∧x.ah[v.aJ.toNat]?=some o:=by
 have e:x.ah[v.aJ.toNat]?=some (x.ah[v.aJ.toNat]'(by omega)):=List.getElem?_eq_getElem _
 refine⟨_,A5 h0 h1,List.getElem_mem _,?_,e⟩;unfold Mu;rw[e]
theorem Vl(hl:l.length≤1048576)(ho:l.any (fun v=>!PB x v)=false):cQ l x=some (l.any (Mu x)):=by
 have:=wF hl (Mu x) (fun k=>(.inr (k:Int):Unit⊕Int)) (N:=.inl ()) (B:=fun s=>bU l x s) (fun i a h=>by
  obtain⟨h0,h1⟩:=qy ho (List.mem_of_getElem? h);obtain⟨o,g1,g2,g3,_⟩:=OD h0 h1;show bU l x i=_;unfold bU sS;rw[bL h,g1,ak,ak,jc h hl,zz,g3]) (by
  show bU l x l.length=_;unfold bU;rw[bA])
 have e:c4 l x=some (qz (Mu x) l):=by
  unfold c4;rw[ct this];unfold qz;cases JA (Mu x) l <;> rfl
 unfold cQ;rw[e,ak,po]
theorem Yx(hl:l.length≤1048576)(p:aA):q8 l p.x0 p.x1=some (!E_ l p):=by
 unfold q8;rw[Vj hl,ak,OI hl,ak];unfold E_;have hh:dz l p.x1=cD (qz (Nk p.x1) l) 0:=po.symm;rw[hh];unfold H3 qz;cases h:JA (Nk p.x1) l with
 |none=>rfl
 |some k =>
  have hk:=(u3 h).1;simp only;rw[bq (by simp),show wS l (k:Int) (az l)=some (l.drop k) by
   unfold wS az;rw[if_pos (by omega)];congr 1;rw[List.take_of_length_le];· rfl
   ·simp]
  rw[ak,OI (by simp;omega),ak,show cD (k:Int) 0=true by simp]
  cases dz l p.x0 <;> cases dz (l.drop k) p.x0 <;> rfl
theorem OT{r:ay}(hx:da x)(hl:r.aq.length≤1048576):pZ x r=some (KZ x r.aq):=by
 unfold pZ KZ;by_cases h0:r.aq.length=0
 ·rw[bD (by simp [az,h0]),if_pos h0]
 rw[bq (by simp only[az,zC];omega),if_neg h0,Vk hl,ak]
 by_cases h1:r.aq.any (fun v=>!PB x v)=true
 ·rw[bD h1,if_pos h1]
 have h1':r.aq.any (fun v=>!PB x v)=false:=by simpa using h1
 rw[bq h1',if_neg h1,Vl hl h1',ak];by_cases h2:r.aq.any (Mu x)=true
 ·rw[bD h2,if_pos h2]
 rw[bq (by simpa using h2),if_neg h2,Qdu hl,ak]
 by_cases h3:¬r.aq.Nodup
 ·rw[bD (decide_eq_true h3),if_pos h3]
 rw[bq (decide_eq_false h3),if_neg h3,QaY hx hl h1',ak];by_cases h4:r.aq.any (fun v=>!wu x r.aq v)=true
 ·rw[bq (by rw[h4];rfl),if_pos h4]
 rw[bD (by simpa using h4),if_neg h4]
 have ha:=hx.bV;have hb:=hx.before;rw[ct (eX (B:=fun s=>gZ x r s) (l:=x.bV) (by omega) (tW r.aq) (y:=(.inr 20:Unit⊕Int)) (N:=.inl ()) (fun i a h=>by
  show gZ x r i=_;unfold gZ;rw[bL h,OI hl,ak,OI hl,ak,jc h (by omega)]
  unfold tW;cases dz r.aq a.x0 <;> cases dz r.aq a.x1 <;> rfl) (by
  show gZ x r x.bV.length=_;unfold gZ;rw[bA]))]
 by_cases h5:x.bV.any (tW r.aq)=true
 ·rw[if_pos h5,if_pos h5];rfl
 rw[if_neg h5,if_neg h5,dw];rw[ct (eX (B:=fun s=>g_ x r s) (l:=x.before) (by omega) (E_ r.aq) (y:=(.inr 21:Unit⊕Int)) (N:=.inl ()) (fun i a h=>by
  show g_ x r i=_;unfold g_;rw[bL h,Yx hl,ak,jc h (by omega)]
  cases E_ r.aq a <;> rfl) (by
  show g_ x r x.before.length=_;unfold g_;rw[bA]))]
 by_cases h6:x.before.any (E_ r.aq)=true
 ·rw[if_pos h6,if_pos h6];rfl
 ·rw[if_neg h6,if_neg h6];rfl
theorem Vs{m:Nat}(hm:m<9223372036854775808){i:Int}(h0:0≤i)(h1:i≤62):kX (m:Int) i=some (m.testBit i.toNat):=by
 obtain⟨k,rfl⟩:∃k:Nat,i=k:=⟨i.toNat,by omega⟩
 unfold kX;rw[bD (by simp;omega),Qja (by omega),fg (by omega),Qa8 (by omega),Oe]
 rfl
structure Ea (l:List ae) (s:Int):Prop where
 ex:∃m:Nat,s=m∧m<1024∧∀i:Nat,m.testBit i=dz l (i:Int)
theorem Qda{r:ay}(hx:da x)(hl:r.aq.length≤1048576)(ho:r.aq.any (fun v=>!PB x v)=false):post (vX r) fun s=>s.2=0∧Ea r.aq s.1:=by
 have QaB:=hx.ah;unfold vX;refine uE ?_
 refine eJ (fun s=>∃(k m:Nat),s=((m:Int),(k:Int))∧k≤r.aq.length∧m<1024∧∀i:Nat,m.testBit i=dz (r.aq.take k) (i:Int)) (fun s=>r.aq.length-s.2.toNat) ⟨0,0,rfl,Nat.zero_le _,by omega,fun i=>by simp [dz]⟩ (by simp;omega) ?_
 rintro _ ⟨k,m,rfl,hk,hm,hb⟩;show post (sf r (m:Int) (k:Int)) _;unfold sf;rcases Nat.lt_or_ge k r.aq.length with h|h
 ·have e:r.aq[k]?=some r.aq[k]:=List.getElem?_eq_getElem h;have pq:=qy ho (List.getElem_mem h);have htk:r.aq.take (k+1)=r.aq.take k++[r.aq[k]]:=by rw[List.take_add_one,e];rfl
  generalize r.aq[k]=v at e pq htk;obtain⟨n,hn⟩:∃n:Nat,v.aJ=n:=⟨v.aJ.toNat,by omega⟩
  have hov:∀i:Nat,dz (r.aq.take (k+1)) (i:Int)=(dz (r.aq.take k) (i:Int)||decide (n=i)):=fun i=>by
   rw[htk];unfold dz;rw[List.any_append,List.any_cons,List.any_nil,Bool.or_false];congr 1;rw[Bool.eq_iff_iff,Cp,hn,decide_eq_true_iff];omega
  rw[bL e,bq (by rw[hn];simp;omega),Vs (by omega) (by omega) (by omega),ak,jc e hl,hn]
  simp only[Int.toNat_natCast];refine a_ (fun h1=>bZ ⟨⟨k+1,m,rfl,h,hm,fun i=>?_⟩,by simp;omega⟩) (fun h1=>?_)
  ·rw[hov,←hb];by_cases hi:n=i
   ·subst hi;rw[h1];rfl
   ·rw[decide_eq_false hi,Bool.or_false]
  ·rw[Qja (by omega),fg (by omega),Qfv (by omega)]
   have h2:2 ^ n≤2 ^ 9:=Nat.pow_le_pow_right (by omega) (by omega)
   have h3:(0:Int)≤((2 ^ n:Nat):Int)∧((2 ^ n:Nat):Int)≤512:=⟨Int.natCast_nonneg _,Int.ofNat_le.2 (show 2 ^ n≤512 by omega)⟩
   rw[fp (by omega) (by omega)]
   have Vt:∀i,(m+2 ^ n).testBit i=dz (r.aq.take (k+1)) (i:Int):=fun i=>by rw[Qd_ h1,hov,hb]
   refine bZ ⟨⟨k+1,m+2 ^ n,by simp,h,?_,Vt⟩,by simp;omega⟩
   refine Nat.lt_pow_two_of_testBit (n:=10) _ fun i hi=>?_
   rw[Vt];rw[Bool.eq_false_iff];intro hh;obtain⟨w,hw,hwi⟩:=tY.1 hh;have:=qy ho (List.mem_of_mem_take hw);omega
 ·obtain rfl:k=r.aq.length:=by omega
  rw[bA];refine b5 ?_
  rw[dw];exact aP.2 ⟨rfl,⟨m,rfl,hm,fun i=>by rw[hb,List.take_length]⟩⟩
theorem Ea.has{s:Int}(h:Ea l s){i:Int}(h0:0≤i)(h1:i≤62):kX s i=some (dz l i):=by
 obtain⟨m,rfl,hm,hb⟩:=h.ex;rw[Vs (by omega) h0 h1,hb,Int.toNat_of_nonneg h0]
theorem Xi(hx:da x){s:Int}(h:Ea l s):xp x s=some (!x.bV.any (tW l)):=by
 have ha:=hx.bV;have QaB:=hx.ah;have:=eX (B:=fun i=>jS x s i) (l:=x.bV) (by omega) (tW l) (y:=(.inr false:Unit⊕Bool)) (N:=.inl ()) (fun i a ha'=>by
  obtain⟨p0,p1,p2,p3,p4⟩:=hx.Xj a (List.mem_of_getElem? ha');show jS x s i=_;unfold jS;rw[bL ha',h.has p0 (by omega),ak,h.has p2 (by omega),ak,jc ha' (by omega)]
  unfold tW;cases dz l a.x0 <;> cases dz l a.x1 <;> rfl) (by
  show jS x s x.bV.length=_;unfold jS;rw[bA])
 unfold xp;rw[ct this];cases x.bV.any (tW l) <;> rfl
theorem QcM{p:aA}(rR:p.x0≠p.x1)(hb:dz l p.x1=true):H3 l p=true↔∃j,j<l.length∧∃k,k<j∧(∃v,l[j]?=some v∧v.aJ=p.x0)∧∃w,l[k]?=some w∧w.aJ=p.x1:=by
 unfold H3;cases h:JA (Nk p.x1) l with
 |none =>
  obtain⟨w,hw,he⟩:=tY.1 hb;have:=Kk h w hw;rw[Cp.2 he]at this;cases this
 |some m =>
  obtain⟨g1,g2,g3⟩:=u3 h;simp only;rw[tY];constructor
  ·rintro⟨v,hv,he⟩;obtain⟨q,hq,rfl⟩:=List.getElem_of_mem hv;rw[List.length_drop]at hq;rw[List.getElem_drop]at he;have hmq:q≠0:=fun h0=>by subst h0;exact rR (he.symm.trans (Cp.1 (by simpa using g2)))
   exact⟨m+q,by omega,m,by omega,⟨_,List.getElem?_eq_getElem (by omega),he⟩,⟨_,List.getElem?_eq_getElem g1,Cp.1 g2⟩⟩
  ·rintro⟨j,hj,k,hk,⟨v,hv,he⟩,⟨w,hw,hwe⟩⟩;have hmk:m≤k:=Nat.le_of_not_lt fun jU=>by
    have:=g3 k jU;rw[List.getElem?_eq_getElem (show k<l.length by omega)]at hw
    rw[Option.some.inj hw,Cp.2 hwe]at this;cases this
   exact⟨v,List.mem_iff_getElem?.2 ⟨j-m,by rw[List.getElem?_drop,show m+(j-m)=j by omega,hv]⟩,he⟩
theorem UQ(hx:da x)(hl:l.length≤1048576){s:Int}(h:Ea l s):vZ x s l=some (!x.before.any (E_ l)):=by
 have hbf:=hx.before;have QaB:=hx.ah;have:=eX (B:=fun i=>iO x s l i) (l:=x.before) (by omega) (E_ l) (y:=(.inr false:Unit⊕Bool)) (N:=.inl ()) (fun i a ha'=>by
  obtain⟨p0,p1,p2,p3,p4⟩:=hx.JF a (List.mem_of_getElem? ha');show iO x s l i=_;unfold iO;rw[bL ha',h.has p2 (by omega),ak,h.has p0 (by omega),ak,jc ha' (by omega)]
  have hP:E_ l a=(dz l a.x1&&(!dz l a.x0||H3 l a)):=rfl;generalize E_ l a=P at hP ⊢;cases hb:dz l a.x1 with
  |false=>rw[hb]at hP;subst hP;rfl
  |true =>
   rw[hb]at hP;cases hq:dz l a.x0 with
   |false=>rw[hq]at hP;subst hP;rfl
   |true =>
    rw[hq]at hP;obtain rfl:P=H3 l a:=hP;have inner:aL (fun q=>iP x s l (i:Int) a q) 0=some (if H3 l a=true then .inr false else .inl ()):=by
     refine D3 hl (fun j=>(List.range j).any fun k=>match l[j]?,l[k]? with|some v,some w=>decide (v.aJ=a.x0)&&decide (w.aJ=a.x1)|_,_=>false) ?_ (fun j hj=>?_) ?_
     ·rw[QcM p4 hb];constructor
      ·rintro⟨j,hj,k,hk,⟨v,hv,e1⟩,⟨w,hw,e2⟩⟩;refine⟨j,hj,List.any_eq_true.2 ⟨k,List.mem_range.2 hk,?_⟩⟩;rw[hv,hw];simp [e1,e2]
      ·rintro⟨j,hj,hh⟩;obtain⟨k,hk,hm⟩:=List.any_eq_true.1 hh;rw[List.mem_range]at hk;rw[List.getElem?_eq_getElem hj,List.getElem?_eq_getElem (show k<l.length by omega)]at hm
       simp only[Bool.and_eq_true,decide_eq_true_iff]at hm;exact⟨j,hj,k,hk,⟨_,List.getElem?_eq_getElem hj,hm.1⟩,⟨_,List.getElem?_eq_getElem (show k<l.length by omega),hm.2⟩⟩
     ·have ej:l[j]?=some l[j]:=List.getElem?_eq_getElem hj;show iP x s l (i:Int) a j=_;unfold iP;rw[bD (by simp [az];omega),inc hj hl]
      have in2:=D3 (B:=fun q=>iQ x s l (i:Int) a (j:Int) q) (n:=j) (by omega) (fun k=>match l[j]?,l[k]? with|some v,some w=>decide (v.aJ=a.x0)&&decide (w.aJ=a.x1)|_,_=>false) (y:=(.inr false:Unit⊕Bool)) (N:=.inl ())
       (b:=(List.range j).any fun k=>match l[j]?,l[k]? with|some v,some w=>decide (v.aJ=a.x0)&&decide (w.aJ=a.x1)|_,_=>false) (by
        rw[List.any_eq_true];exact⟨fun⟨k,hk,hm⟩=>⟨k,List.mem_range.1 hk,hm⟩,fun⟨k,hk,hm⟩=>⟨k,List.mem_range.2 hk,hm⟩⟩) (fun k hk=>by
       have ek:l[k]?=some (l[k]'(by omega)):=List.getElem?_eq_getElem _
       show iQ x s l (i:Int) a (j:Int) k=_;unfold iQ;rw[bD (by simp;omega),bC ej,ak,bC ek,ak,inc (n:=l.length) (by omega) hl,ej,ek]
       simp only[zz,kJ,Bool.and_eq_true,decide_eq_true_iff];by_cases c1:(l[j]).aJ=a.x0
       ·rw[if_pos c1];by_cases c2:(l[k]'(by omega)).aJ=a.x1
        ·rw[if_pos c2,if_pos ⟨c1,c2⟩]
        ·rw[if_neg c2,if_neg fun h=>c2 h.2]
       ·rw[if_neg c1,if_neg fun h=>c1 h.1]) (by
       show iQ x s l (i:Int) a (j:Int) j=_;unfold iQ;rw[bq (by simp)])
      rw[ct in2];split <;> rfl
     ·show iP x s l (i:Int) a l.length=_;unfold iP;rw[bq (by simp [az])]
    rw[fW,fW,ct inner];cases H3 l a <;> rfl) (by
  show iO x s l x.before.length=_;unfold iO;rw[bA])
 unfold vZ;rw[ct this];cases x.before.any (E_ l) <;> rfl
theorem OS{r:ay}(hx:da x)(hl:r.aq.length≤1048576):sN x r=some (KZ x r.aq):=by
 unfold sN KZ;rw[ct (eX (B:=fun s=>jO x r s) hl (fun v=>!PB x v) (y:=(.inr 2:Unit⊕Int)) (N:=.inl ()) (fun i a h=>by
  show jO x r i=_;unfold jO;rw[bL h,jc h hl];have hP:(!PB x a)=(bh a.aJ 0||cD a.aJ (az x.ah)):=by
   unfold PB az;rw[Bool.eq_iff_iff];simp
  rw[hP];cases bh a.aJ 0 <;> cases cD a.aJ (az x.ah) <;> rfl) (by
  show jO x r r.aq.length=_;unfold jO;rw[bA]))]
 by_cases h1:r.aq.any (fun v=>!PB x v)=true
 ·rw[if_pos h1,nQ];split <;> rfl
 have h1':r.aq.any (fun v=>!PB x v)=false:=by simpa using h1
 rw[if_neg h1,if_neg h1,dw];obtain⟨s,hs,XU,Iz⟩:=Qda hx hl h1';rw[hs,ak,XU];by_cases h0:r.aq.length=0
 ·rw[bD (by simp [az,h0]),if_pos h0]
 rw[bq (by simp only[az,cr,PW,zC];simp;intro h;exact h0 (by rw[h];rfl)),if_neg h0]
 rw[ct (eX (B:=fun q=>jP x r s q) hl (Mu x) (y:=(.inr 9:Unit⊕Int)) (N:=.inl ()) (fun i a h=>by
  obtain⟨h0,h1⟩:=qy h1' (List.mem_of_getElem? h);obtain⟨o,g1,g2,g3,_⟩:=OD h0 h1;show jP x r s i=_;unfold jP;rw[bL h,g1,ak,jc h hl,zz,g3]) (by
  show jP x r s r.aq.length=_;unfold jP;rw[bA]))]
 by_cases h2:r.aq.any (Mu x)=true
 ·rw[if_pos h2,if_pos h2];rfl
 rw[if_neg h2,if_neg h2,dw];rw[ct (D3 (B:=fun q=>jQ x r s q) hl (fun k=>match r.aq[k]? with|some v=>cr (qz (nS v) r.aq) (k:Int)|none=>false) (y:=(.inr 6:Unit⊕Int)) (N:=.inl ()) (b:=decide (¬r.aq.Nodup)) (by
  rw[decide_eq_true_iff,nodup_iff];constructor
  ·rintro⟨k,hk,j,hj,he⟩;refine⟨k,hk,?_⟩;rw[List.getElem?_eq_getElem hk]at he ⊢;simp only[xb];intro h;exact(FH h).2 j hj he
  ·rintro⟨k,hk,h⟩;rw[List.getElem?_eq_getElem hk]at h;simp only[xb]at h;have h0:=PE.2 (List.getElem_mem hk);obtain⟨m,hm⟩:∃m:Nat,qz (nS r.aq[k]) r.aq=m:=⟨(qz (nS r.aq[k]) r.aq).toNat,by omega⟩
   obtain⟨g1,g2⟩:=FH hm;have hmk:m<k:=by
    rcases Nat.lt_trichotomy m k with h'|h'|h'
    ·exact h'
    ·exact absurd (by rw[hm,h']) h
    ·exact absurd (List.getElem?_eq_getElem hk) (g2 k h')
   exact⟨k,hk,m,hmk,by rw[g1,List.getElem?_eq_getElem hk]⟩) (fun i hi=>by
  have h:r.aq[i]?=some r.aq[i]:=List.getElem?_eq_getElem hi;show jQ x r s i=_;unfold jQ;rw[bL h,zQ hl,ak,jc h hl,zz,h]) (by
  show jQ x r s r.aq.length=_;unfold jQ;rw[bA]))]
 by_cases h3:¬r.aq.Nodup
 ·rw[if_pos (decide_eq_true h3),if_pos h3];rfl
 rw[if_neg (by rw[decide_eq_false h3];decide),if_neg h3,dw,V0 hx hl h1',ak]
 by_cases h4:r.aq.any (fun v=>!wu x r.aq v)=true
 ·rw[bq (by rw[h4];rfl),if_pos h4]
 rw[bD (by simpa using h4),if_neg h4,Xi hx Iz,ak]
 by_cases h5:x.bV.any (tW r.aq)=true
 ·rw[bq (by rw[h5];rfl),if_pos h5]
 rw[bD (by simpa using h5),if_neg h5,UQ hx hl Iz,ak]
 by_cases h6:x.before.any (E_ r.aq)=true
 ·rw[bq (by rw[h6];rfl),if_pos h6]
 ·rw[bD (by simpa using h6),if_neg h6]
end
def iu:Nat→(Nat→Int)→Int
 |0,_=>0
 |n+1,f=>iu n f+f n
theorem xE{f g:Nat→Int}:∀n,(∀i,i<n→f i=g i)→iu n f=iu n g
 |0,_=>rfl
 |n+1,h=>by unfold iu;rw[xE n fun i hi=>h i (by omega),h n (by omega)]
theorem Qt{f g:Nat→Int}{o:Nat}:∀n,o<n→(∀i,i≠o→g i=f i)→iu n g=iu n f+(g o-f o)
 |0,h,_=>by omega
 |n+1,h,hg=>by
  unfold iu;rcases Nat.lt_or_eq_of_le (Nat.le_of_lt_succ h)with h'|rfl
  ·rw[Qt n h' hg,hg n (by omega)];omega
  ·rw[xE _ fun i hi=>hg i (by omega)];omega
theorem SL{f:Nat→Int}{n:Nat}: ∀m,n≤m→(∀i,n≤i→f i = 0)→iu m f = iu n f
  | 0, h, _ => by obtain rfl : n = 0 := by omega
                  rfl
  | m + 1, h, hf => by
    rcases Nat.lt_or_eq_of_le h with h' |rfl
    · unfold iu;rw[SL m (by omega) hf,hf m (by omega)]
      cases n <;> simp [iu]
    · rfl
theorem Um{f:Nat→Int}{c:Int}(hc:0≤c):∀n,(∀i,0≤f i∧f i≤c)→0≤iu n f∧iu n f≤n*c
 |0,_=>by simp [iu]
 |n+1,h=>by
  have h1:=Um hc n h;have h2:=h n;unfold iu;rw[show((n+1:Nat):Int)*c=n*c+c by rw[Int.natCast_add,Int.add_mul];simp]
  omega
def dA(D:Nat)(f:Nat→Int):List Int:=(List.range D).map f
theorem eY{D:Nat}{f:Nat→Int}:(dA D f).length=D:=by simp [dA]
theorem kk{D:Nat}{f:Nat→Int}{k:Nat}(h:k<D):(dA D f)[k]?=some (f k):=by simp [dA,h]
theorem kG{D:Nat}{f g:Nat→Int}(h:∀d,d<D→f d=g d):dA D f=dA D g:=by
 unfold dA;exact List.map_congr_left fun d hd=>h d (List.mem_range.1 hd)
theorem WD{D:Nat}{f:Nat→Int}{k:Nat}{y:Int}(h:k<D):e_ (dA D f) (k:Int) y=dA D (fun d=>if d=k then y else f d):=by
 unfold e_;refine List.ext_getElem? fun i=>?_
 rw[List.getElem?_set];simp only[Int.toNat_natCast,eY];split
 ·rename_i he;subst he;exact((kk (f:=fun d=>if d=k then y else f d) h).trans (by simp)).symm
 ·rename_i he;rcases Nat.lt_or_ge i D with h'|h'
  ·rw[kk h',kk h',if_neg (by omega)]
  ·rw[List.getElem?_eq_none (by rw[eY];omega),List.getElem?_eq_none (by rw[eY];omega)]
theorem ON{l:List Int}:l=dA l.length (fun d=>l.getD d 0):=by
 refine List.ext_getElem? fun i=>?_
 rcases Nat.lt_or_ge i l.length with h|h
 ·rw[kk h,List.getElem?_eq_getElem h,List.getD_eq_getElem?_getD,List.getElem?_eq_getElem h];rfl
 ·rw[List.getElem?_eq_none h,List.getElem?_eq_none (by rw[eY];omega)]
theorem LI{D:Nat}{f g h:Nat→Int}(hD:D≤3){B:List Int×Int→Option ((List Int×Int)⊕(List Int))}
  (pq:∀(k:Nat) (l1:List Int),k<D→l1.length=D→B (l1,(k:Int))=some (.inl (e_ l1 k (h k),(k:Int)+1))) (Dh:∀l1:List Int,B (l1,(D:Int))=some (.inr l1)):
  aL B (List.replicate D 0,0)=some (dA D h):=by
 have h0:(List.replicate D (0:Int),(0:Int))=(dA D (fun d=>if d<0 then h d else 0),((0:Nat):Int)):=by
  congr 1;refine List.ext_getElem? fun i=>?_
  rcases Nat.lt_or_ge i D with h|h
  ·rw[kk h];simp [h]
  ·rw[List.getElem?_eq_none (by simp;omega),List.getElem?_eq_none (by rw[eY];omega)]
 rw[h0];refine il D (fun k=>(dA D (fun d=>if d<k then h d else 0),(k:Int))) (by omega) (fun k hk=>?_) ?_
 ·rw[pq k _ hk eY,WD hk];simp only[Int.natCast_add,Int.cast_ofNat_Int];congr 3;refine kG fun d hd=>?_
  by_cases h1:d=k
  ·rw[if_pos h1,if_pos (by omega),h1]
  ·rw[if_neg h1];by_cases h2:d<k
   ·rw[if_pos h2,if_pos (by omega)]
   ·rw[if_neg h2,if_neg (by omega)]
 ·rw[Dh];congr 2;exact kG fun d hd=>if_pos hd
theorem SR{D:Nat}{f g:Nat→Int}(hD:D≤3)(hf:∀d,d<D→-4000000000≤f d∧f d≤4000000000)(hg:∀d,d<D→-4000000000≤g d∧g d≤4000000000):rj (dA D f) (dA D g)=some (dA D (fun d=>f d+g d),0):=by
 unfold rj qB;rw[bq (by simp [az,eY])]
 have hm:za (az (dA D f)) (az (dA D f)) 8 (0:Int)=some (List.replicate D 0):=by
  unfold za az;rw[eY,if_pos (by omega)]
  rfl
 rw[hm,ak];rw[ct (LI (D:=D) (f:=f) (g:=g) (h:=fun d=>f d+g d) hD (B:=fun s=>fe (dA D f) (dA D g) (List.replicate D 0) s.1 s.2) (fun k l1 hk hl=>by
  have a1:=hf k hk;have a2:=hg k hk;show fe (dA D f) (dA D g) (List.replicate D 0) l1 k=_;unfold fe Dm;rw[bL (kk hk),bC (kk hk),ak,ak,Ir (by omega),ak,fp (by omega) (by omega),fp (by omega) (by omega)]) (fun l1=>by
  show fe (dA D f) (dA D g) (List.replicate D 0) l1 D=_;unfold fe;rw[bq (by simp [az,eY])]))]
 rfl
theorem QgK{D:Nat}{f g:Nat→Int}(hD:D≤3)(hf:∀d,d<D→-4000000000≤f d∧f d≤4000000000)(hg:∀d,d<D→-4000000000≤g d∧g d≤4000000000):Cu (dA D f) (dA D g)=some (dA D (fun d=>f d-g d),0):=by
 unfold Cu pr;rw[bq (by simp [az,eY])]
 have hm:za (az (dA D f)) (az (dA D f)) 8 (0:Int)=some (List.replicate D 0):=by
  unfold za az;rw[eY,if_pos (by omega)]
  rfl
 rw[hm,ak];rw[ct (LI (D:=D) (f:=f) (g:=g) (h:=fun d=>f d-g d) hD (B:=fun s=>eM (dA D f) (dA D g) (List.replicate D 0) s.1 s.2) (fun k l1 hk hl=>by
  have a1:=hf k hk;have a2:=hg k hk;show eM (dA D f) (dA D g) (List.replicate D 0) l1 k=_;unfold eM A7;rw[bL (kk hk),bC (kk hk),ak,ak,Ir (by omega),ak,wT (by omega) (by omega),fp (by omega) (by omega)]) (fun l1=>by
  show eM (dA D f) (dA D g) (List.replicate D 0) l1 D=_;unfold eM;rw[bq (by simp [az,eY])]))]
 rfl
section
variable {x : ab} {l : List ae} {r : ay}
theorem Ea.Has{s:Int}(h:Ea l s){i:Int}(h0:0≤i)(h1:i≤62):k9 s i=some (dz l i):=by
 obtain⟨m,rfl,hm,hb⟩:=h.ex;obtain⟨k,rfl⟩:∃k:Nat,i=k:=⟨i.toNat,by omega⟩
 unfold k9;rw[bD (by simp;omega),fg (by omega),Qa8 (by omega)]
 have hd:=Nat.div_le_self m (2 ^ k);rw[show(1:Int)=((1:Nat):Int)from rfl,QbO (by omega) (by omega),Nat.and_one_is_mod,←hb,Nat.testBit_eq_decide_div_mod_eq]
 congr 1;generalize m / 2 ^ k=q;rw[Bool.eq_iff_iff,kJ,decide_eq_true_iff];omega
theorem UE(hx:da x)(hl:r.aq.length≤1048576)(ho:r.aq.any (fun v=>!PB x v)=false):post (qZ r) fun s=>s.2=0∧Ea r.aq s.1:=by
 have QaB:=hx.ah;unfold qZ;refine uE ?_
 refine eJ (fun s=>∃(k m:Nat),s=((m:Int),(k:Int))∧k≤r.aq.length∧m<1024∧∀i:Nat,m.testBit i=dz (r.aq.take k) (i:Int)) (fun s=>r.aq.length-s.2.toNat) ⟨0,0,rfl,Nat.zero_le _,by omega,fun i=>by simp [dz]⟩ (by simp;omega) ?_
 rintro _ ⟨k,m,rfl,hk,hm,hb⟩;show post (nz r (m:Int) (k:Int)) _;unfold nz;rcases Nat.lt_or_ge k r.aq.length with h|h
 ·have e:r.aq[k]?=some r.aq[k]:=List.getElem?_eq_getElem h;have pq:=qy ho (List.getElem_mem h);have htk:r.aq.take (k+1)=r.aq.take k++[r.aq[k]]:=by rw[List.take_add_one,e];rfl
  generalize r.aq[k]=v at e pq htk;obtain⟨n,hn⟩:∃n:Nat,v.aJ=n:=⟨v.aJ.toNat,by omega⟩
  have hov:∀i:Nat,dz (r.aq.take (k+1)) (i:Int)=(dz (r.aq.take k) (i:Int)||decide (n=i)):=fun i=>by
   rw[htk];unfold dz;rw[List.any_append,List.any_cons,List.any_nil,Bool.or_false];congr 1;rw[Bool.eq_iff_iff,Cp,hn,decide_eq_true_iff];omega
  have h2:2 ^ n≤2 ^ 9:=Nat.pow_le_pow_right (by omega) (by omega)
  rw[bL e,bq (by rw[hn];simp;omega),fg (by omega),jc e hl,hn,Qfv (by omega),orN (by omega) (by omega)]
  have Vt:∀i,(m |||2 ^ n).testBit i=dz (r.aq.take (k+1)) (i:Int):=fun i=>by rw[Nat.testBit_or,Nat.testBit_two_pow,hov,hb]
  refine bZ ⟨⟨k+1,m |||2 ^ n,by simp,h,?_,Vt⟩,by simp;omega⟩
  exact Nat.or_lt_two_pow (n:=10) hm (by omega)
 ·obtain rfl:k=r.aq.length:=by omega
  rw[bA];refine b5 ?_
  rw[dw];exact aP.2 ⟨rfl,⟨m,rfl,hm,fun i=>by rw[hb,List.take_length]⟩⟩
def yF(l:List ae):Nat→List Int
 |0=>[]
 |n+1=>yF l n++(if dz l (n:Int)=true then [(n:Int)]else [])
theorem CH:∀n,(yF l n).length≤n
 |0=>Nat.le_refl 0
 |n+1=>by have:=CH n;unfold yF;split <;> simp <;> omega
theorem C_{s:Int}(h:Ea l s):qH s=some (yF l 63):=by
 unfold qH;have this:aL (fun q:List Int×Int=>iB s q.1 q.2) ([],0)=some (yF l 63):=il 63 (fun k=>(yF l k,(k:Int))) (B:=fun q=>iB s q.1 q.2) (by omega) (fun k hk=>by
  show iB s (yF l k) (k:Int)=_;have:=CH (l:=l) k;unfold iB;rw[bD (by simp;omega),h.Has (by omega) (by omega),ak,fp (by omega) (by omega),fg (by unfold eO;simp;omega),zz]
  show _=some (Sum.inl (yF l k++(if dz l (k:Int)=true then [(k:Int)]else []),((k+1:Nat):Int)))
  split <;> simp) (by
  show iB s (yF l 63) ((63:Nat):Int)=_;unfold iB;rw[bq (by decide)])
 rw[ct this]
end
def dq{α:Type}(f:α→Int)(l:List α):Int:=(l.map f).sum
theorem qd{α:Type}{f:α→Int}{a b:List α}:dq f (a++b)=dq f a+dq f b:=by simp [dq,List.sum_append]
theorem re{α:Type}{f:α→Int}{a:α}:dq f [a]=f a:=by simp [dq]
theorem Qs{α:Type}{f:α→Int}:dq f []=0:=rfl
theorem take_one{α:Type}{l:List α}{k:Nat}{a:α}(h:l[k]?=some a):l.take (k+1)=l.take k++[a]:=by rw[List.take_add_one,h];rfl
theorem zq{α:Type}{f:α→Int}{l:List α}{k:Nat}{a:α}(h:l[k]?=some a):dq f (l.take (k+1))=dq f (l.take k)+f a:=by rw[take_one h,qd,re]
theorem Ul{α:Type}{f:α→Int}:∀{l:List α},(∀a∈l,0≤f a∧f a≤1000)→0≤dq f l∧dq f l≤1000*l.length
 | [],_=>by simp [dq]
 |a ::l,h=>by
  have h1:=Ul (f:=f) (l:=l) fun b hb=>h b (List.mem_cons_of_mem _ hb)
  have h2:=h a (List.mem_cons_self ..);have e:dq f (a ::l)=f a+dq f l:=by simp [dq]
  rw[e,List.length_cons];omega
section
variable (x : ab)
def kL(i d:Nat):Int:=match x.ah[i]? with
 |some o=>o.load.getD d 0
 |none=>0
def pk0(i:Nat):Bool:=match x.ah[i]? with
 |some o=>decide (o.pick.place<0)
 |none=>false
def Sp(l:List ae)(i:Nat):Bool:=l.foldl (fun b v=>if v.aJ=(i:Int)then !v.drop else b) (pk0 x i)
def PC(l:List ae)(k i d:Nat):Int:=if(dz l (i:Int)&&Sp x (l.take k) i)=true then kL x i d else 0
def rZ(l:List ae)(k d:Nat):Int:=iu x.ah.length fun i=>PC x l k i d
end
section
variable {x : ab} {l : List ae} {r : ay}
theorem F2(hx:da x){i:Nat}(hi:i<x.ah.length):∃o,x.ah[i]?=some o∧o∈x.ah∧o.load=dA (cg x.types) (kL x i)∧(∀d,0≤kL x i d∧kL x i d≤1000)∧pk0 x i=decide (o.pick.place<0):=by
 have e:x.ah[i]?=some x.ah[i]:=List.getElem?_eq_getElem hi;have hm:=List.getElem_mem hi;generalize x.ah[i]=o at e hm;have hO:=hx.ord o hm;refine⟨o,e,hm,?_,fun d=>?_,by unfold pk0;rw[e]⟩
 ·have:=ON (l:=o.load);rw[hO.load]at this;rw[this];refine kG fun d hd=>?_
  unfold kL;rw[e]
 ·unfold kL;rw[e];simp only;rw[List.getD_eq_getElem?_getD];rcases Nat.lt_or_ge d o.load.length with h|h
  ·rw[List.getElem?_eq_getElem h];exact hO.Qgr d h _ (List.getElem?_eq_getElem h)
  ·rw[List.getElem?_eq_none h];simp
theorem Kr(hx:da x)(i d:Nat):0≤kL x i d∧kL x i d≤1000:=by
 rcases Nat.lt_or_ge i x.ah.length with h|h
 ·obtain⟨o,_,_,_,h,_⟩:=F2 hx h;exact h d
 ·unfold kL;rw[List.getElem?_eq_none h];simp
theorem QcX(hx:da x)(k d:Nat):0≤rZ x l k d∧rZ x l k d≤10000:=by
 have h:=Um (f:=fun i=>PC x l k i d) (c:=1000) (by omega) x.ah.length fun i=>by
  have:=Kr hx i d;unfold PC;split <;> omega
 have:=hx.ah;unfold rZ;omega
theorem AY(hx:da x):1≤cg x.types∧cg x.types≤3:=by
 have h1:=hx.Qdw;cases ht:x.types with
 |nil=>rw[ht]at h1;simp at h1
 |cons t ts =>
  have:=(hx.typ t (by rw[ht];simp)).Qjc
  rw[ht]at this;exact this
structure nV (x:ab) (l:List ae):Prop where
 ne:l.length≠0
 Q0:l.any (fun v=>!PB x v)=false
 off:l.any (Mu x)=false
 nodup:l.Nodup
 pair:∀v∈l,wu x l v=true
 bV:x.bV.any (tW l)=false
 before:x.before.any (E_ l)=false
theorem OH(h:KZ x l=0):nV x l:=by
 unfold KZ at h;by_cases h0:l.length=0
 ·rw[if_pos h0]at h;cases h
 rw[if_neg h0]at h;by_cases h1:l.any (fun v=>!PB x v)=true
 ·rw[if_pos h1]at h;cases h
 rw[if_neg h1]at h;by_cases h2:l.any (Mu x)=true
 ·rw[if_pos h2]at h;cases h
 rw[if_neg h2]at h;by_cases h3:¬l.Nodup
 ·rw[if_pos h3]at h;cases h
 rw[if_neg h3]at h;by_cases h4:l.any (fun v=>!wu x l v)=true
 ·rw[if_pos h4]at h;cases h
 rw[if_neg h4]at h;by_cases h5:x.bV.any (tW l)=true
 ·rw[if_pos h5]at h;cases h
 rw[if_neg h5]at h;by_cases h6:x.before.any (E_ l)=true
 ·rw[if_pos h6]at h;cases h
 refine⟨h0,by simpa using h1,by simpa using h2,Classical.not_not.1 h3,fun v hv=>?_,by simpa using h5,by simpa using h6⟩
 have:=List.any_eq_false.1 (by simpa using h4:l.any (fun v=>!wu x l v)=false) v hv
 simpa using this
theorem GX{b:Bool}{i:Nat}:∀{m:List ae},(∀v∈m,v.aJ≠(i:Int))→m.foldl (fun b v=>if v.aJ=(i:Int)then !v.drop else b) b=b
 | [],_=>rfl
 |v ::m,h=>by
  rw[List.foldl_cons,if_neg (h v (List.mem_cons_self ..))];exact GX fun w hw=>h w (List.mem_cons_of_mem _ hw)
theorem Ph{c:Bool}{i:Nat}:∀{m:List ae} {b:Bool},(∀v∈m,v.aJ=(i:Int)→v.drop=c)→(b=(!c)∨∃v∈m,v.aJ=(i:Int))→m.foldl (fun b v=>if v.aJ=(i:Int)then !v.drop else b) b=!c
 | [],b,_,h=>by
  rcases h with h|⟨v,hv,_⟩
  ·exact h
  ·cases hv
 |v ::m,b,h,h'=>by
  rw[List.foldl_cons];by_cases hv:v.aJ=(i:Int)
  ·rw[if_pos hv];exact Ph (fun w hw=>h w (List.mem_cons_of_mem _ hw)) (.inl (by rw[h v (List.mem_cons_self ..) hv]))
  ·rw[if_neg hv];refine Ph (fun w hw=>h w (List.mem_cons_of_mem _ hw)) ?_
   rcases h' with h'|⟨w,hw,he⟩
   ·exact .inl h'
   ·rcases List.mem_cons.1 hw with rfl|hw
    ·exact absurd he hv
    ·exact .inr ⟨w,hw,he⟩
theorem KD{j k:Nat}(h:l.Nodup){v:ae}(hj:l[j]?=some v)(hk:l[k]?=some v):j=k:=by
 refine Classical.byContradiction fun rR=>?_
 have QC:=(List.getElem?_eq_some_iff.1 hj).1;have rS:=(List.getElem?_eq_some_iff.1 hk).1;refine(nodup_iff.2 ?_) h;rcases Nat.lt_or_gt_of_ne rR with jU|jU
 ·exact⟨k,rS,j,jU,by rw[hj,hk]⟩
 ·exact⟨j,QC,k,jU,by rw[hj,hk]⟩
theorem Qki(hx:da x)(h:nV x l){k:Nat}{v:ae}(hk:l[k]?=some v){i:Nat}(hi:v.aJ=(i:Int)):Sp x (l.take k) i=v.drop:=by
 have hv:=List.mem_of_getElem? hk;have hkl:=(List.getElem?_eq_some_iff.1 hk).1;have pq:=qy h.Q0 hv;obtain⟨o,e,hm,_,_,hp⟩:=F2 hx (show i<x.ah.length by omega)
 have hO:=hx.ord o hm
 -- each visit of Qu aJ is one of Qu Qk_ aq
 have vis:∀w∈l,w.aJ=(i:Int)→w∈gO x (i:Int)∧IV l (gO x (i:Int))=true:=fun w hw he=>by
  have:=h.pair w hw;unfold wu at this;rw[he,Bool.and_eq_true,E7]at this;exact this
 have hvo:gO x (i:Int)=(if 0≤o.pick.place then [ae.mk i false]else [])++(if 0≤o.drop.place then [ae.mk i true]else []):=by
  unfold gO;rw[Int.toNat_natCast,e]
 have same:∀w∈l.take k,w.aJ=(i:Int)→w≠v:=fun w hw _ he=>by
  obtain⟨j,hj,hje⟩:=(Am (by omega)).1 hw
  rw[he]at hje;have:=KD h.nodup hje hk;omega
 have Oh:∀w:ae,w.aJ=(i:Int)→w=ae.mk i w.drop:=fun w hw=>by cases w;simp at hw;subst hw;rfl
 obtain⟨v1,v2⟩:=vis v hv hi;unfold Sp;by_cases hpk:0≤o.pick.place
 ·have XR:pk0 x i=false:=by rw[hp];simp;omega
  rw[if_pos hpk]at hvo;by_cases hdr:0≤o.drop.place
  ·rw[if_pos hdr]at hvo;rw[hvo]at v2;simp only[List.cons_append,List.nil_append,IV,Bool.and_eq_true,nk,js]at v2;obtain⟨p,hpp⟩:∃p:Nat,qz (nS (ae.mk i false)) l=p:=⟨(qz (nS (ae.mk i false)) l).toNat,by omega⟩
   obtain⟨q,hqq⟩:∃q:Nat,qz (nS (ae.mk i true)) l=q:=⟨(qz (nS (ae.mk i true)) l).toNat,by omega⟩
   obtain⟨p1,p2⟩:=FH hpp;obtain⟨q1,q2⟩:=FH hqq;have hpq:p<q:=by omega
   cases hd:v.drop with
   |false =>
    have hve:=Oh v hi;rw[hd]at hve;have hkp:k=p:=KD h.nodup (hve▸hk) p1;rw[GX fun w hw he=>?_,XR]
    have hwe:=Oh w he;cases hwd:w.drop with
    |false=>rw[hwd]at hwe;exact same w hw he (hwe.trans hve.symm)
    |true =>
     rw[hwd]at hwe;obtain⟨j,hj,hje⟩:=(Am (by omega)).1 hw
     have:=KD h.nodup (hwe▸hje) q1;omega
   |true =>
    have hve:=Oh v hi;rw[hd]at hve;have hkq:k=q:=KD h.nodup (hve▸hk) q1;refine Ph (c:=false) (fun w hw he=>?_) (.inr ⟨ae.mk i false,(Am (by omega)).2 ⟨p,by omega,p1⟩,rfl⟩)
    have hwe:=Oh w he;cases hwd:w.drop with
    |false=>rfl
    |true=>rw[hwd]at hwe;exact absurd (hwe.trans hve.symm) (same w hw he)
  ·rw[if_neg hdr,List.append_nil]at hvo;have only:∀w∈l,w.aJ=(i:Int)→w=ae.mk i false:=fun w hw he=>by
    have:=(vis w hw he).1;rw[hvo]at this;exact List.mem_singleton.1 this
   rw[GX fun w hw he=>same w hw he ((only w (List.mem_of_mem_take hw) he).trans (only v hv hi).symm),XR,only v hv hi]
 ·have XR:pk0 x i=true:=by rw[hp];simp;omega
  rw[if_neg hpk,List.nil_append]at hvo;have only:∀w∈l,w.aJ=(i:Int)→w=ae.mk i true:=fun w hw he=>by
   have:=(vis w hw he).1;rw[hvo]at this;split at this
   ·exact List.mem_singleton.1 this
   ·cases this
  rw[GX fun w hw he=>same w hw he ((only w (List.mem_of_mem_take hw) he).trans (only v hv hi).symm),XR,only v hv hi]
theorem KF{k i:Nat}{v:ae}(hk:l[k]?=some v):Sp x (l.take (k+1)) i=if v.aJ=(i:Int)then !v.drop else Sp x (l.take k) i:=by
 unfold Sp;rw[take_one hk,List.foldl_append];rfl
theorem X4(hx:da x)(h:nV x l){k:Nat}{v:ae}(hk:l[k]?=some v){i:Nat}(hi:v.aJ=(i:Int))(d:Nat):
  rZ x l (k+1) d=if v.drop=true then rZ x l k d-kL x i d else rZ x l k d+kL x i d:=by
 have pq:=qy h.Q0 (List.mem_of_getElem? hk);unfold rZ;rw[Qt (f:=fun j=>PC x l k j d) (g:=fun j=>PC x l (k+1) j d) (o:=i) x.ah.length (by omega) (fun j hj=>by
  show PC x l (k+1) j d=PC x l k j d;have e1:Sp x (l.take (k+1)) j=Sp x (l.take k) j:=by rw[KF hk,if_neg (by omega)]
  unfold PC;rw[e1])]
 have ha:dz l (i:Int)=true:=tY.2 ⟨v,List.mem_of_getElem? hk,hi⟩;simp only[PC,ha,Bool.true_and];rw[KF hk,if_pos hi,Qki hx h hk hi];cases v.drop
 ·simp
 ·simp;omega
end
section
variable {x : ab} {l : List ae} {r : ay}
theorem U6(hx:da x):zN x.types=some (cg x.types:Int)∧yC x=some (cg x.types:Int):=by
 have h1:=hx.Qdw;unfold zN yC;cases ht:x.types with
 |nil=>rw[ht]at h1;simp at h1
 |cons t ts =>
  constructor
  ·rw[bq (by simp [az];omega)];rfl
  ·rw[bq (by simp [az];omega)];rfl
theorem FU{i:Int}:∀{n:Nat},i∈yF l n→∃k:Nat,i=k∧k<n∧dz l (k:Int)=true
 |0,h=>by cases h
 |n+1,h=>by
  unfold yF at h;rcases List.mem_append.1 h with h|h
  ·obtain⟨k,h1,h2,h3⟩:=FU h;exact⟨k,h1,by omega,h3⟩
  ·split at h
   ·exact⟨n,List.mem_singleton.1 h,by omega,‹_›⟩
   ·cases h
theorem XJ(h:nV x l){i:Int}(hi:dz l i=true):0≤i∧i<x.ah.length:=by
 obtain⟨v,hv,rfl⟩:=tY.1 hi;exact qy h.Q0 hv
theorem O5{α β:Type}{a:β}{y z:Option α}:br (cr (a,(0:Int)).2 0) y z=z:=rfl
def Uj(x:ab)(d:Nat)(i:Int):Int:=if pk0 x i.toNat=true then kL x i.toNat d else 0
theorem Qio(hx:da x)(d:Nat)(i:Int):0≤Uj x d i∧Uj x d i≤1000:=by
 have:=Kr hx i.toNat d;unfold Uj;split <;> omega
theorem ZR(d:Nat):∀n,dq (Uj x d) (yF l n)=iu n fun i=>if(dz l (i:Int)&&pk0 x i)=true then kL x i d else 0
 |0=>rfl
 |n+1=>by
  show dq (Uj x d) (yF l n++(if dz l (n:Int)=true then [(n:Int)]else []))=iu n _+(if(dz l (n:Int)&&pk0 x n)=true then kL x n d else 0)
  rw[qd,ZR d n];by_cases hh:dz l (n:Int)=true
  ·rw[if_pos hh,re,hh,Bool.true_and];rfl
  ·rw[if_neg hh,Qs,if_neg (by simp [hh])]
theorem Qba(hx:da x)(h:nV x l){s:Int}(hs:Ea l s):xS x s (cg x.types:Int)=some (dA (cg x.types) (rZ x l 0)):=by
 obtain⟨hd1,hd3⟩:=AY hx;have QaB:=hx.ah;have hm:=CH (l:=l) 63;unfold xS;have hz:za (cg x.types:Int) (cg x.types:Int) 8 (0:Int)=some (dA (cg x.types) fun d=>0):=by
  unfold za;rw[if_pos (by omega)]
  congr 1;refine List.ext_getElem? fun i=>?_
  rcases Nat.lt_or_ge i (cg x.types)with h|h
  ·rw[kk h];simp [h]
  ·rw[List.getElem?_eq_none (by simp;omega),List.getElem?_eq_none (by rw[eY];omega)]
 rw[hz,ak,C_ hs,ak];have tZ:∀i∈yF l 63,∃k:Nat,i=k∧k<63∧dz l (k:Int)=true:=fun i hi=>FU hi
 have QeR:∀d,dq (Uj x d) (yF l 63)=iu 63 fun i=>if(dz l (i:Int)&&pk0 x i)=true then kL x i d else 0:=fun d=>ZR d 63
 generalize yF l 63=M at *;have this:aL (fun q:List Int×Int=>ji x (dA (cg x.types) fun d=>0) M q.1 q.2) (dA (cg x.types) (fun d=>0),0)=some (dA (cg x.types) fun d=>dq (Uj x d) M):=by
  have:=il M.length (fun k=>(dA (cg x.types) (fun d=>dq (Uj x d) (M.take k)),(k:Int))) (B:=fun q:List Int×Int=>ji x (dA (cg x.types) fun d=>0) M q.1 q.2) (e:=dA (cg x.types) fun d=>dq (Uj x d) M) (by omega) (fun k hk=>by
   have e:M[k]?=some M[k]:=List.getElem?_eq_getElem hk;obtain⟨i,hi,_,hh⟩:=tZ _ (List.getElem_mem hk);rw[hi]at e;have hil:=XJ h hh;obtain⟨o,eo,hmo,ho,hb,hp⟩:=F2 hx (show i<x.ah.length by omega)
   show ji x (dA (cg x.types) fun d=>0) M (dA (cg x.types) (fun d=>dq (Uj x d) (M.take k))) (k:Int)=some (Sum.inl (dA (cg x.types) (fun d=>dq (Uj x d) (M.take (k+1))),((k+1:Nat):Int)))
   unfold ji;rw[bL e,bC eo,ak,jc e (by omega),ho]
   have step:∀d,dq (Uj x d) (M.take (k+1))=dq (Uj x d) (M.take k)+Uj x d (i:Int):=fun d=>zq e
   have sb:∀d,0≤dq (Uj x d) (M.take k)∧dq (Uj x d) (M.take k)≤1000*(M.take k).length:=fun d=>Ul fun a _=>Qio hx d a
   have jU:(M.take k).length≤63:=by rw[List.length_take];omega
   have kK:∀d,Uj x d (i:Int)=if o.pick.place<0 then kL x i d else 0:=fun d=>by
    unfold Uj;rw[Int.toNat_natCast,hp];simp
   by_cases Di:o.pick.place<0
   ·rw[bD (by simpa using Di),SR hd3 (fun d _=>by have:=sb d;omega) (fun d _=>by have:=hb d;omega),ak]
    congr 3;exact kG fun d _=>by rw[step,kK,if_pos Di]
   ·rw[bq (by simp;omega)]
    congr 3;exact kG fun d _=>by rw[step,kK,if_neg Di];omega) (by
   show ji x (dA (cg x.types) fun d=>0) M (dA (cg x.types) (fun d=>dq (Uj x d) (M.take M.length))) (M.length:Int)=_
   unfold ji;rw[bA,List.take_length])
  exact this
 rw[ct this];congr 1;refine kG fun d _=>?_
 rw[QeR,SL (n:=x.ah.length) 63 (by omega) fun i hi=>by
  rw[if_neg];intro hh;rw[Bool.and_eq_true]at hh;have:=XJ h hh.1;omega]
 unfold rZ PC;rfl
def gj(x:ab)(l:List ae)(n:Nat):List (List Int):=(List.range n).map fun k=>dA (cg x.types) (rZ x l k)
theorem IB{n:Nat}:(gj x l n).length=n:=by simp [gj]
theorem Nq{n:Nat}:gj x l (n+1)=gj x l n++[dA (cg x.types) (rZ x l n)]:=by simp [gj,List.range_succ]
theorem QbC(hx:da x)(hl:r.aq.length≤1048576)(h:nV x r.aq)(h0:KZ x r.aq=0):xR x r=some (gj x r.aq (r.aq.length+1),0):=by
 obtain⟨hd1,hd3⟩:=AY hx;have QaB:=hx.ah;unfold xR;rw[OT hx hl,ak,h0,bq (by decide)]
 obtain⟨s,hs,XU,Iz⟩:=UE hx hl h.Q0;rw[hs,ak,XU,bq (by decide),(U6 hx).1,ak,Qba hx h Iz,ak]
 have this:aL (fun q:List (List Int)×List Int×Int=>jh x r q.1 q.2.1 q.2.2) ([dA (cg x.types) (rZ x r.aq 0)],dA (cg x.types) (rZ x r.aq 0),0)=some (.inl (gj x r.aq (r.aq.length+1))):=by
  have:=il r.aq.length (fun k=>(gj x r.aq (k+1),dA (cg x.types) (rZ x r.aq k),(k:Int))) (B:=fun q:List (List Int)×List Int×Int=>jh x r q.1 q.2.1 q.2.2) (e:=.inl (gj x r.aq (r.aq.length+1))) (by omega) (fun k hk=>by
   have e:r.aq[k]?=some r.aq[k]:=List.getElem?_eq_getElem hk;have pq:=qy h.Q0 (List.getElem_mem hk);generalize r.aq[k]=v at e pq;obtain⟨i,hi⟩:∃i:Nat,v.aJ=i:=⟨v.aJ.toNat,by omega⟩
   obtain⟨o,eo,hmo,ho,hb,hp⟩:=F2 hx (show i<x.ah.length by omega)
   have kK:=X4 hx h e hi;have Vw:=fun d=>QcX (l:=r.aq) hx k d
   show jh x r (gj x r.aq (k+1)) (dA (cg x.types) (rZ x r.aq k)) (k:Int)=some (Sum.inl (gj x r.aq (k+1+1),dA (cg x.types) (rZ x r.aq (k+1)),((k+1:Nat):Int)));unfold jh;have ok:eO (gj x r.aq (k+1)++[dA (cg x.types) (rZ x r.aq (k+1))]).length 24:=by unfold eO;simp [IB];omega
   rw[bL e,hi,bC eo,ak,ak,jc e hl,ho,Nq (n:=k+1)];cases hd:v.drop with
   |true =>
    rw[fW,QgK hd3 (fun d _=>by have:=Vw d;omega) (fun d _=>by have:=hb d;omega),ak,O5]
    have ev:dA (cg x.types) (fun d=>rZ x r.aq k d-kL x i d)=dA (cg x.types) (rZ x r.aq (k+1)):=kG fun d _=>by rw[kK,if_pos hd]
    simp only[ev];rw[fg ok];rfl
   |false =>
    rw[jg,SR hd3 (fun d _=>by have:=Vw d;omega) (fun d _=>by have:=hb d;omega),ak,O5]
    have ev:dA (cg x.types) (fun d=>rZ x r.aq k d+kL x i d)=dA (cg x.types) (rZ x r.aq (k+1)):=kG fun d _=>by rw[kK,if_neg (by rw[hd];decide)]
    simp only[ev];rw[fg ok];rfl) (by
   show jh x r (gj x r.aq (r.aq.length+1)) (dA (cg x.types) (rZ x r.aq r.aq.length)) (r.aq.length:Int)=_;unfold jh;rw[bA])
  exact this
 rw[ct this];rfl
def UA(x:ab)(l:List ae)(n:Nat):Nat→List (List Int)
 |0=>[]
 |i+1=>UA x l n i++(if(Sp x (l.take n) i&&dz l (i:Int))=true then [dA (cg x.types) (kL x i)]else [])
theorem TH{n:Nat}:∀i,(UA x l n i).length≤i
 |0=>Nat.le_refl 0
 |i+1=>by have:=TH (n:=n) i;unfold UA;split <;> simp <;> omega
theorem TI{n:Nat}{a:List Int}:∀{i},a∈UA x l n i→∃j,a=dA (cg x.types) (kL x j)
 |0,h=>by cases h
 |i+1,h=>by
  unfold UA at h;rcases List.mem_append.1 h with h|h
  ·exact TI h
  ·split at h
   ·exact⟨i,List.mem_singleton.1 h⟩
   ·cases h
theorem Zu{n d:Nat}(hd:d<cg x.types):∀i,dq (fun a:List Int=>a.getD d 0) (UA x l n i)=iu i fun j=>PC x l n j d
 |0=>rfl
 |i+1=>by
  show dq (fun a:List Int=>a.getD d 0) (UA x l n i++(if(Sp x (l.take n) i&&dz l (i:Int))=true then [dA (cg x.types) (kL x i)]else []))=iu i _+(if(dz l (i:Int)&&Sp x (l.take n) i)=true then kL x i d else 0)
  rw[qd,Zu hd i,Bool.and_comm];split
  ·rw[re,List.getD_eq_getElem?_getD,kk hd];rfl
  ·rw[Qs]
theorem Qdq{D:Nat}(hD:D≤3){m:List (List Int)}(hm:m.length≤1000)(hl:∀a∈m,a.length=D)(hb:∀a∈m,∀d,0≤a.getD d 0∧a.getD d 0≤1000):zT m (D:Int)=some (dA D fun d=>dq (fun a=>a.getD d 0) m,0):=by
 have even:yz m (D:Int)=some true:=by
  unfold yz;rw[bq (by simp;omega),ct (eX (B:=fun s=>kA m (D:Int) s) (l:=m) (by omega) (fun a=>cr (az a) (D:Int)) (y:=(.inr false:Unit⊕Bool)) (N:=.inl ()) (fun i a h=>by
   show kA m (D:Int) i=_;unfold kA;rw[bL h,jc h (by omega),zz]) (by
   show kA m (D:Int) m.length=_;unfold kA;rw[bA]))]
  rw[if_neg]
  ·rfl
  ·rw[List.any_eq_true];rintro⟨a,ha,h⟩;rw[xb,az,hl a ha]at h;exact h rfl
 unfold zT;rw[even,ak,fW];have this:aL (fun q:List Int×Int=>jq m (D:Int) q.1 q.2) ([],0)=some (dA D fun d=>dq (fun a=>a.getD d 0) m):=by
  have:=il D (fun k=>(dA k (fun d=>dq (fun a=>a.getD d 0) m),(k:Int))) (B:=fun q:List Int×Int=>jq m (D:Int) q.1 q.2) (e:=dA D fun d=>dq (fun a=>a.getD d 0) m) (by omega) (fun k hk=>by
   show jq m (D:Int) (dA k (fun d=>dq (fun a=>a.getD d 0) m)) (k:Int)=some (Sum.inl (dA (k+1) (fun d=>dq (fun a=>a.getD d 0) m),((k+1:Nat):Int)))
   unfold jq;rw[bD (by simp;omega)]
   have inner:aL (fun q:Int×Int=>jr m (D:Int) (dA k (fun d=>dq (fun a=>a.getD d 0) m)) (k:Int) q.1 q.2) (0,0)=some (dq (fun a=>a.getD k 0) m):=by
    have:=il m.length (fun j=>(dq (fun a:List Int=>a.getD k 0) (m.take j),(j:Int))) (B:=fun q:Int×Int=>jr m (D:Int) (dA k (fun d=>dq (fun a=>a.getD d 0) m)) (k:Int) q.1 q.2) (e:=dq (fun a=>a.getD k 0) m) (by omega) (fun j hj=>by
     have e:m[j]?=some m[j]:=List.getElem?_eq_getElem hj;have hmj:=List.getElem_mem hj;generalize m[j]=a at e hmj;have ha:=hl a hmj;have hab:=hb a hmj k;have e2:a[k]?=some (a.getD k 0):=by rw[List.getD_eq_getElem?_getD,List.getElem?_eq_getElem (show k<a.length by omega)];rfl
     have sb:=Ul (f:=fun a:List Int=>a.getD k 0) (l:=m.take j) fun c hc=>hb c (List.mem_of_mem_take hc) k
     have jU:(m.take j).length≤1000:=by rw[List.length_take];omega
     show jr m (D:Int) (dA k (fun d=>dq (fun a=>a.getD d 0) m)) (k:Int) (dq (fun a:List Int=>a.getD k 0) (m.take j)) (j:Int)=some (Sum.inl (dq (fun a:List Int=>a.getD k 0) (m.take (j+1)),((j+1:Nat):Int)))
     unfold jr;rw[bL e,bC e2,ak,jc e (by omega),fp (by omega) (by omega),zq e]
     rfl) (by
     show jr m (D:Int) (dA k (fun d=>dq (fun a=>a.getD d 0) m)) (k:Int) (dq (fun a:List Int=>a.getD k 0) (m.take m.length)) (m.length:Int)=_
     unfold jr;rw[bA,List.take_length])
    exact this
   have ev:dA (k+1) (fun d=>dq (fun a:List Int=>a.getD d 0) m)=dA k (fun d=>dq (fun a:List Int=>a.getD d 0) m)++[dq (fun a:List Int=>a.getD k 0) m]:=by simp [dA,List.range_succ]
   rw[ct inner,fg (by unfold eO;simp [eY];omega),fp (by omega) (by omega),ev]
   rfl) (by
   show jq m (D:Int) (dA D (fun d=>dq (fun a=>a.getD d 0) m)) (D:Int)=_
   unfold jq;rw[bq (by simp)])
  exact this
 rw[ct this]
theorem Z7(hx:da x)(hl:l.length≤1048576){n:Nat}(hn:n≤l.length):xt x l (n:Int)=some (dA (cg x.types) (rZ x l n),0):=by
 obtain⟨hd1,hd3⟩:=AY hx;have QaB:=hx.ah;unfold xt;have this:aL (fun q:List (List Int)×Int=>gU x l (n:Int) q.1 q.2) ([],0)=some (UA x l n x.ah.length):=by
  have:=il x.ah.length (fun k=>(UA x l n k,(k:Int))) (B:=fun q:List (List Int)×Int=>gU x l (n:Int) q.1 q.2) (e:=UA x l n x.ah.length) (by omega) (fun i hi=>by
   obtain⟨o,eo,hmo,ho,hb,hp⟩:=F2 hx hi;show gU x l (n:Int) (UA x l n i) (i:Int)=some (Sum.inl (UA x l n (i+1),((i+1:Nat):Int)));unfold gU;rw[bL eo];have inner:aL (fun q:Bool×Bool×Int=>gV x l (n:Int) (UA x l n i) (i:Int) q.1 q.2.1 q.2.2) (bh o.pick.place 0,false,0)=some (Sp x (l.take n) i,dz l (i:Int)):=by
    have:=il l.length (fun k=>(Sp x (l.take (min k n)) i,dz (l.take k) (i:Int),(k:Int))) (B:=fun q:Bool×Bool×Int=>gV x l (n:Int) (UA x l n i) (i:Int) q.1 q.2.1 q.2.2) (e:=(Sp x (l.take n) i,dz l (i:Int))) (by omega) (fun k hk=>by
     have e:l[k]?=some l[k]:=List.getElem?_eq_getElem hk;generalize l[k]=v at e;show gV x l (n:Int) (UA x l n i) (i:Int) (Sp x (l.take (min k n)) i) (dz (l.take k) (i:Int)) (k:Int)=some (Sum.inl (Sp x (l.take (min (k+1) n)) i,dz (l.take (k+1)) (i:Int),((k+1:Nat):Int)));unfold gV;have hh:dz (l.take (k+1)) (i:Int)=(dz (l.take k) (i:Int)||Nk (i:Int) v):=by rw[take_one e];simp [dz]
     rw[bL e,jc e hl,hh];by_cases hv:v.aJ=(i:Int)
     ·rw[bq (by simpa using hv),Cp.2 hv,Bool.or_true]
      by_cases hkn:k<n
      ·rw[bD (by simpa using hkn),show min (k+1) n=k+1 by omega,KF e,if_pos hv]
       rfl
      ·rw[bq (by simp;omega),show min (k+1) n=min k n by omega]
       rfl
     ·have hvf:Nk (i:Int) v=false:=by
       rw[Bool.eq_false_iff];exact fun h=>hv (Cp.1 h)
      rw[bD (by simpa using hv),hvf,Bool.or_false]
      by_cases hkn:k<n
      ·rw[show min (k+1) n=k+1 by omega,KF e,if_neg hv,show min k n=k by omega]
       rfl
      ·rw[show min (k+1) n=min k n by omega]
       rfl) (by
     show gV x l (n:Int) (UA x l n i) (i:Int) (Sp x (l.take (min l.length n)) i) (dz (l.take l.length) (i:Int)) (l.length:Int)=_;unfold gV;rw[bA,List.take_length,show min l.length n=n by omega])
    have h0:(Sp x (l.take (min 0 n)) i,dz (l.take 0) (i:Int),((0:Nat):Int))=(bh o.pick.place 0,false,0):=by
     rw[Nat.zero_min,List.take_zero];unfold Sp dz;rw[List.foldl_nil,hp];congr 1
    rw[←h0];exact this
   rw[ct inner];simp only;rw[bC eo,ak,ho,jc eo (by omega)]
   have hlen:=TH (x:=x) (l:=l) (n:=n) i;rw[fg (by unfold eO;simp;omega),zz]
   show _=some (Sum.inl (UA x l n i++(if(Sp x (l.take n) i&&dz l (i:Int))=true then [dA (cg x.types) (kL x i)]else []),((i+1:Nat):Int)))
   split <;> simp) (by
   show gU x l (n:Int) (UA x l n x.ah.length) (x.ah.length:Int)=_;unfold gU;rw[bA])
  exact this
 rw[ct this,(U6 hx).2,ak];have hlen:=TH (x:=x) (l:=l) (n:=n) x.ah.length;rw[Qdq hd3 (by omega) (fun a ha=>by obtain⟨j,rfl⟩:=TI ha;exact eY) (fun a ha d=>by
  obtain⟨j,rfl⟩:=TI ha;rw[List.getD_eq_getElem?_getD];rcases Nat.lt_or_ge d (cg x.types)with h|h
  ·rw[kk h];exact Kr hx j d
  ·rw[List.getElem?_eq_none (by rw[eY];omega)];simp),ak]
 congr 2;exact kG fun d hd=>Zu hd _
theorem W_(hx:da x)(hl:r.aq.length≤1048576)(h0:KZ x r.aq=0):xq x r=some (gj x r.aq (r.aq.length+1),0):=by
 unfold xq;rw[OS hx hl,ak,h0,bq (by decide)]
 have this:aL (fun q:List (List Int)×Int=>gT x r q.1 q.2) ([],0)=some (.inl (gj x r.aq (r.aq.length+1))):=by
  have:=il (r.aq.length+1) (fun k=>(gj x r.aq k,(k:Int))) (B:=fun q:List (List Int)×Int=>gT x r q.1 q.2) (e:=.inl (gj x r.aq (r.aq.length+1))) (by omega) (fun k hk=>by
   show gT x r (gj x r.aq k) (k:Int)=some (Sum.inl (gj x r.aq (k+1),((k+1:Nat):Int)));unfold gT;rw[bD (by simp [az];omega),Z7 hx hl (by omega),ak,O5,fg (by unfold eO;simp [IB];omega),fp (by omega) (by omega),Nq]
   rfl) (by
   show gT x r (gj x r.aq (r.aq.length+1)) ((r.aq.length+1:Nat):Int)=_;unfold gT;rw[bq (by simp [az];omega)])
  exact this
 rw[ct this];rfl
def Eh(cap a:List Int):Bool:=(List.range a.length).any fun i=>dp (a.getD i 0) (cap.getD i 0)
theorem Y4{a cap:List Int}(ha:a.length=cap.length)(hl:a.length≤1048576):qA a cap=some (!Eh cap a)∧yy a cap=some (!Eh cap a):=by
 have g:∀i,i<a.length→a[i]?=some (a.getD i 0)∧cap[i]?=some (cap.getD i 0):=fun i hi=>by
  rw[List.getD_eq_getElem?_getD,List.getD_eq_getElem?_getD,List.getElem?_eq_getElem hi,List.getElem?_eq_getElem (show i<cap.length by omega)]
  exact⟨rfl,rfl⟩
 have hb:Eh cap a=true↔∃k,k<a.length∧dp (a.getD k 0) (cap.getD k 0)=true:=by
  unfold Eh;rw[List.any_eq_true];exact⟨fun⟨k,hk,h⟩=>⟨k,List.mem_range.1 hk,h⟩,fun⟨k,hk,h⟩=>⟨k,List.mem_range.2 hk,h⟩⟩
 constructor
 ·unfold qA;rw[bq (by simp [az,ha]),ct (D3 (B:=fun s=>fM a cap s) hl (fun k=>dp (a.getD k 0) (cap.getD k 0)) (y:=(.inr false:Unit⊕Bool)) (N:=.inl ()) hb (fun i hi=>by
   show fM a cap i=_;unfold fM;rw[bL (g i hi).1,bC (g i hi).2,ak,inc hi hl,zz]) (by
   show fM a cap a.length=_;unfold fM;rw[bA]))]
  cases Eh cap a <;> rfl
 ·unfold yy;rw[bq (by simp [az,ha]),ct (D3 (B:=fun s=>kz a cap s) hl (fun k=>dp (a.getD k 0) (cap.getD k 0)) (y:=(.inr false:Unit⊕Bool)) (N:=.inl ()) hb (fun i hi=>by
   show kz a cap i=_;unfold kz;rw[bL (g i hi).1,bC (g i hi).2,ak,inc hi hl,zz]) (by
   show kz a cap a.length=_;unfold kz;rw[bA]))]
  cases Eh cap a <;> rfl
def Qb_(x:ab)(r:ay):Int:=if(gj x r.aq (r.aq.length+1)).any (Eh (bI x r).cap)=true then 17 else 0
theorem MX(h0:0≤r.aY)(h1:r.aY<x.types.length):bj x.types r.aY=some (bI x r)∧bI x r∈x.types:=by
 have e:x.types[r.aY.toNat]?=some (x.types[r.aY.toNat]'(by omega)):=List.getElem?_eq_getElem _
 have ht:bI x r=x.types[r.aY.toNat]'(by omega):=by unfold bI;rw[List.getD_eq_getElem?_getD,e];rfl
 rw[ht];exact⟨A5 h0 h1,List.getElem_mem _⟩
theorem Qd3(hx:da x)(hl:r.aq.length≤1000000)(h0:KZ x r.aq=0)(ht:0≤r.aY∧r.aY<x.types.length):zA x r=some (Qb_ x r)∧yB x r=some (Qb_ x r):=by
 have h:=OH h0;obtain⟨t1,t2⟩:=MX ht.1 ht.2;have Tr:=(hx.typ _ t2).cap;have hd:=AY hx;have lens:∀a∈gj x r.aq (r.aq.length+1),a.length=(bI x r).cap.length:=fun a ha=>by
  obtain⟨k,_,rfl⟩:=List.mem_map.1 ha;rw[eY,Tr]
 have hlen:=IB (x:=x) (l:=r.aq) (n:=r.aq.length+1);constructor
 ·unfold zA;rw[bq (by simp [az];omega),QbC hx (by omega) h h0,ak,O5]
  have:=wF (B:=fun s=>ch (gj x r.aq (r.aq.length+1)) x r s) (l:=gj x r.aq (r.aq.length+1)) (by omega) (Eh (bI x r).cap) (fun k=>(.inr (k:Int):Unit⊕Int)) (N:=.inl ()) (fun i a h=>by
   have hm:=lens a (List.mem_of_getElem? h);show ch (gj x r.aq (r.aq.length+1)) x r i=_;unfold ch y4;rw[bL h,t1,ak,(Y4 hm (by omega)).1,ak,ak,jc h (by omega),Bool.not_not,zz]) (by
   show ch (gj x r.aq (r.aq.length+1)) x r (gj x r.aq (r.aq.length+1)).length=_;unfold ch;rw[bA])
  have e:dN (gj x r.aq (r.aq.length+1)) x r=some (qz (Eh (bI x r).cap) (gj x r.aq (r.aq.length+1))):=by
   unfold dN;rw[ct this];unfold qz;cases JA (Eh (bI x r).cap) (gj x r.aq (r.aq.length+1)) <;> rfl
  unfold eC;simp only;rw[e,ak,ak,po,zz];rfl
 ·unfold yB;rw[bq (by simp [az];omega),W_ hx (by omega) h0,ak,O5]
  rw[ct (eX (B:=fun s=>kD x r (gj x r.aq (r.aq.length+1),0) s) (l:=gj x r.aq (r.aq.length+1)) (by omega) (Eh (bI x r).cap) (y:=(.inr 17:Unit⊕Int)) (N:=.inl ()) (fun i a h=>by
   have hm:=lens a (List.mem_of_getElem? h);show kD x r (gj x r.aq (r.aq.length+1),0) i=_;unfold kD;rw[bL h,t1,ak,(Y4 hm (by omega)).2,ak,jc h (by omega)]
   cases Eh (bI x r).cap a <;> rfl) (by
   show kD x r (gj x r.aq (r.aq.length+1),0) (gj x r.aq (r.aq.length+1)).length=_;unfold kD;rw[bA]))]
  unfold Qb_;split <;> rfl
end
theorem Qc2{m:List (Int×Int)}{k k' v z:Int}:nY cM (yD cM m k v) k' z=if k'=k then v else nY cM m k' z:=by
 induction m with
 |nil =>
  unfold yD nY nY;by_cases h:k'=k
  ·rw[if_pos h,show cM k' k=true by simpa using h];rfl
  ·rw[if_neg h,show cM k' k=false by simpa using h];rfl
 |cons p r ih =>
  unfold yD;cases hp:cM k p.1 with
  |true =>
   have XR:k=p.1:=by simpa using hp
   simp only[cond_true];unfold nY;by_cases h:k'=k
   ·rw[if_pos h,show cM k' k=true by simpa using h];rfl
   ·rw[if_neg h,show cM k' k=false by simpa using h,show cM k' p.1=false by rw[←XR];simpa using h];rfl
  |false =>
   have XR:k≠p.1:=by simpa using hp
   simp only[cond_false];unfold nY;rw[ih];by_cases h:k'=k
   ·rw[if_pos h,show cM k' p.1=false by rw[h];exact hp,if_pos h];rfl
   ·rw[if_neg h,if_neg h]
section
variable {x : ab} {l : List ae} {r : ay} {s0 : aX}
def Ik(l:List ae)(o:Int):Int:=dq (fun v:ae=>if v.aJ=o then 1 else 0) l
theorem Ta{o:Int}:0≤Ik l o∧Ik l o≤l.length∧(0<Ik l o↔dz l o=true):=by
 induction l with
 |nil=>simp [Ik,dq,dz]
 |cons v l ih =>
  have e:Ik (v ::l) o=(if v.aJ=o then 1 else 0)+Ik l o:=by simp [Ik,dq]
  have e2:dz (v ::l) o=(Nk o v||dz l o):=by simp [dz]
  rw[e,e2,List.length_cons,Bool.or_eq_true,Cp];split
  ·rename_i h;refine⟨by omega,by omega,fun _=>.inl h,fun _=>by omega⟩
  ·rename_i h;refine⟨by omega,by omega,fun h'=>.inr (ih.2.2.1 (by omega)),fun h'=>?_⟩
   rcases h' with h'|h'
   ·exact absurd h' h
   ·have:=ih.2.2.2 h';omega
def NP(l:List ae):List (Int×Int):=l.foldl (fun m v=>yD cM m v.aJ (aU .i64 (nY cM m v.aJ 0) 1)) []
theorem Sc{v:ae}:NP (l++[v])=yD cM (NP l) v.aJ (aU .i64 (nY cM (NP l) v.aJ 0) 1):=by simp [NP]
theorem Qc3{l:List ae}(hl:l.length≤1048576)(o:Int):nY cM (NP l) o 0=Ik l o:=by
 have main:∀k,k≤l.length→nY cM (NP (l.take k)) o 0=Ik (l.take k) o:=by
  intro k hk;induction k generalizing o with
  |zero=>rfl
  |succ k ih =>
   have e:l[k]?=some l[k]:=List.getElem?_eq_getElem (by omega)
   generalize l[k]=v at e;rw[take_one e,Sc,Qc2];have e2:Ik (l.take k++[v]) o=Ik (l.take k) o+(if v.aJ=o then 1 else 0):=by unfold Ik;rw[qd,re]
   have hb:=(Ta (l:=l.take k) (o:=v.aJ)).2.1;have hb0:=(Ta (l:=l.take k) (o:=v.aJ)).1;have hlen:(l.take k).length≤k:=by rw[List.length_take];omega
   rw[e2,ih v.aJ (by omega),ih o (by omega),fp (by omega) (by omega)]
   by_cases h:o=v.aJ
   ·rw[if_pos h,if_pos h.symm,h]
   ·rw[if_neg h,if_neg fun h'=>h h'.symm];omega
 have:=main l.length (Nat.le_refl _);rwa [List.take_length]at this
def Fy(kind own:Int):Bool:=cr kind (-1)&&cr kind own
def Ii(b:Bool):Int:=if b=true then 1 else 0
def eP(x:ab)(r:ay):Nat→Int×Int
 |0=>(0,0)
 |k+1=>match r.aq[k]? with
  |none=>eP x r k
  |some v=>match(if 0≤v.aJ then x.ah[v.aJ.toNat]? else none)with
   |none=>eP x r k
   |some o=>if dz (r.aq.take k) v.aJ=true then eP x r k else((eP x r k).1+Ii (Fy o.now r.aY),(eP x r k).2+Ii (Fy o.b8 r.aY))
theorem YU{b:Bool}:0≤Ii b∧Ii b≤1:=by cases b <;> simp [Ii]
theorem PY:∀k,(0≤(eP x r k).1∧(eP x r k).1≤k)∧(0≤(eP x r k).2∧(eP x r k).2≤k)
 |0=>by simp [eP]
 |k+1=>by
  have ih:=PY k;unfold eP;split
  ·omega
  ·split
   ·omega
   ·rename_i o _;have h1:=YU (b:=Fy o.now r.aY);have h2:=YU (b:=Fy o.b8 r.aY);split
    ·omega
    ·simp only;omega
def Qfs(x:ab)(r:ay)(s0:aX):bH:=
 bH.mk (aU .i64 (aU .i64 (bI x r).rK (oT .i64 (bI x r).iY s0.ed)) (oT .i64 (bI x r).iZ (dd .i64 s0.oY (bI x r).bJ))) (eP x r r.aq.length).1 (eP x r r.aq.length).2 (oT .i64 (so .i64 (dd .i64 s0.oY (bI x r).bJ) 64) (so .i64 (dd .i64 s0.oY (bI x r).bJ) 64))
theorem QbE(hx:da x)(hl:r.aq.length≤1048576)(ht:0≤r.aY∧r.aY<x.types.length):yg x r s0=some (Qfs x r s0):=by
 obtain⟨t1,t2⟩:=MX ht.1 ht.2;have dm:=hx.ah;unfold yg;rw[bq (by simp [az];omega),t1,ak]
 have this:aL (fun q:List (Int×Int)×Int×Int×Int=>jt x r s0 (bI x r) q.1 q.2.1 q.2.2.1 q.2.2.2) ([],0,0,0)=some (eP x r r.aq.length):=by
  have:=il r.aq.length (fun k=>(NP (r.aq.take k),(eP x r k).1,(eP x r k).2,(k:Int))) (B:=fun q:List (Int×Int)×Int×Int×Int=>jt x r s0 (bI x r) q.1 q.2.1 q.2.2.1 q.2.2.2) (e:=eP x r r.aq.length) (by omega) (fun k hk=>by
   have e:r.aq[k]?=some r.aq[k]:=List.getElem?_eq_getElem hk;generalize r.aq[k]=v at e;show jt x r s0 (bI x r) (NP (r.aq.take k)) (eP x r k).1 (eP x r k).2 (k:Int)=some (Sum.inl (NP (r.aq.take (k+1)),(eP x r (k+1)).1,(eP x r (k+1)).2,((k+1:Nat):Int)));unfold jt sj tI;rw[bL e,←Sc,←take_one e,jc e hl];have hlen:(r.aq.take k).length≤1048576:=by rw[List.length_take];omega
   have QjF:(r.aq.take (k+1)).length≤1048576:=by rw[List.length_take];omega
   have hp:=PY (x:=x) (r:=r) k;have hg:dp (nY cM (NP (r.aq.take (k+1))) v.aJ 0) 1=dz (r.aq.take k) v.aJ:=by
    rw[Qc3 QjF,take_one e];have e2:Ik (r.aq.take k++[v]) v.aJ=Ik (r.aq.take k) v.aJ+1:=by unfold Ik;rw[qd,re,if_pos rfl]
    have:=(Ta (l:=r.aq.take k) (o:=v.aJ)).2.2;rw[e2,Bool.eq_iff_iff,w4,←this];omega
   rw[hg];show _=some (Sum.inl (NP (r.aq.take (k+1)),(eP x r (k+1)).1,(eP x r (k+1)).2,(k:Int)+1));have hP:eP x r (k+1)=match(if 0≤v.aJ then x.ah[v.aJ.toNat]? else none)with
    |none=>eP x r k
    |some o=>if dz (r.aq.take k) v.aJ=true then eP x r k else((eP x r k).1+Ii (Fy o.now r.aY),(eP x r k).2+Ii (Fy o.b8 r.aY)):=by
    show(match r.aq[k]? with
     |none=>eP x r k
     |some v=>match(if 0≤v.aJ then x.ah[v.aJ.toNat]? else none)with
      |none=>eP x r k
      |some o=>if dz (r.aq.take k) v.aJ=true then eP x r k else((eP x r k).1+Ii (Fy o.now r.aY),(eP x r k).2+Ii (Fy o.b8 r.aY)))=_
    rw[e]
   rw[hP];by_cases pq:0≤v.aJ∧v.aJ<x.ah.length
   ·rw[bq (by simp [az];omega),if_pos pq.1]
    have eo:x.ah[v.aJ.toNat]?=some (x.ah[v.aJ.toNat]'(by omega)):=List.getElem?_eq_getElem _
    generalize x.ah[v.aJ.toNat]'(by omega)=o at eo
    have eg:bj x.ah v.aJ=some o:=by unfold bj;rw[if_pos pq.1,eo]
    rw[eo,eg];simp only[ak];cases dz (r.aq.take k) v.aJ with
    |true=>rfl
    |false =>
     rw[jg,if_neg (by decide),show(cr o.now (-1)&&cr o.now r.aY)=Fy o.now r.aY from rfl,show(cr o.b8 (-1)&&cr o.b8 r.aY)=Fy o.b8 r.aY from rfl,fp (by omega) (by omega),fp (by omega) (by omega)]
     generalize eP x r k=p;cases Fy o.now r.aY <;> cases Fy o.b8 r.aY <;> simp [Ii]
   ·rw[bD (by simp [az];omega)]
    have:(if 0≤v.aJ then x.ah[v.aJ.toNat]? else none)=none:=by
     split
     ·exact List.getElem?_eq_none (by omega)
     ·rfl
    rw[this]) (by
   show jt x r s0 (bI x r) (NP (r.aq.take r.aq.length)) (eP x r r.aq.length).1 (eP x r r.aq.length).2 (r.aq.length:Int)=_;unfold jt;rw[bA])
  exact this
 rw[ct this];rfl
theorem Qaa(hl:l.length≤1048576){k:Nat}{v:ae}(e:l[k]?=some v):wc l (k:Int)=some (!dz (l.take k) v.aJ):=by
 have hk:=(List.getElem?_eq_some_iff.1 e).1;have:=D3 (B:=fun q=>iS l (k:Int) q) (n:=k) (by omega) (fun j=>match l[j]? with|some w=>cM w.aJ v.aJ|none=>false) (y:=(.inr false:Unit⊕Bool)) (N:=.inl ()) (b:=dz (l.take k) v.aJ) (by
  rw[tY];constructor
  ·rintro⟨w,hw,he⟩;obtain⟨j,hj,hje⟩:=(Am (by omega)).1 hw
   exact⟨j,hj,by rw[hje];simpa using he⟩
  ·rintro⟨j,hj,h⟩;rw[List.getElem?_eq_getElem (show j<l.length by omega)]at h
   exact⟨_,(Am (by omega)).2 ⟨j,hj,List.getElem?_eq_getElem (by omega)⟩,by simpa using h⟩) (fun j hj=>by
  have ej:l[j]?=some (l[j]'(by omega)):=List.getElem?_eq_getElem _
  show iS l (k:Int) j=_;unfold iS;rw[bD (by simp;omega),bC ej,ak,bC e,ak,jc ej hl,zz,ej]) (by
  show iS l (k:Int) k=_;unfold iS;rw[bq (by simp)])
 unfold wc;rw[ct this];cases dz (l.take k) v.aJ <;> rfl
theorem Xe(hx:da x)(hl:r.aq.length≤1048576)(ht:0≤r.aY∧r.aY<x.types.length):xu x r s0=some (Qfs x r s0):=by
 obtain⟨t1,t2⟩:=MX ht.1 ht.2;have dm:=hx.ah;unfold xu;rw[bq (by simp [az];omega),t1,ak]
 have this:aL (fun q:Int×Int×Int=>gW x r s0 (bI x r) q.1 q.2.1 q.2.2) (0,0,0)=some (eP x r r.aq.length):=by
  have:=il r.aq.length (fun k=>((eP x r k).1,(eP x r k).2,(k:Int))) (B:=fun q:Int×Int×Int=>gW x r s0 (bI x r) q.1 q.2.1 q.2.2) (e:=eP x r r.aq.length) (by omega) (fun k hk=>by
   have e:r.aq[k]?=some r.aq[k]:=List.getElem?_eq_getElem hk;generalize r.aq[k]=v at e;show gW x r s0 (bI x r) (eP x r k).1 (eP x r k).2 (k:Int)=some (Sum.inl ((eP x r (k+1)).1,(eP x r (k+1)).2,((k+1:Nat):Int)));unfold gW tn;rw[bL e,jc e hl,Qaa hl e];have hp:=PY (x:=x) (r:=r) k;show _=some (Sum.inl ((eP x r (k+1)).1,(eP x r (k+1)).2,(k:Int)+1));have hP:eP x r (k+1)=match(if 0≤v.aJ then x.ah[v.aJ.toNat]? else none)with
    |none=>eP x r k
    |some o=>if dz (r.aq.take k) v.aJ=true then eP x r k else((eP x r k).1+Ii (Fy o.now r.aY),(eP x r k).2+Ii (Fy o.b8 r.aY)):=by
    show(match r.aq[k]? with
     |none=>eP x r k
     |some v=>match(if 0≤v.aJ then x.ah[v.aJ.toNat]? else none)with
      |none=>eP x r k
      |some o=>if dz (r.aq.take k) v.aJ=true then eP x r k else((eP x r k).1+Ii (Fy o.now r.aY),(eP x r k).2+Ii (Fy o.b8 r.aY)))=_
    rw[e]
   rw[hP];by_cases pq:0≤v.aJ∧v.aJ<x.ah.length
   ·rw[bq (by simp [az];omega),if_pos pq.1]
    have eo:x.ah[v.aJ.toNat]?=some (x.ah[v.aJ.toNat]'(by omega)):=List.getElem?_eq_getElem _
    generalize x.ah[v.aJ.toNat]'(by omega)=o at eo
    have eg:bj x.ah v.aJ=some o:=by unfold bj;rw[if_pos pq.1,eo]
    rw[eo,eg];simp only[ak];cases dz (r.aq.take k) v.aJ with
    |true=>rfl
    |false =>
     rw[Bool.not_false,fW,if_neg (by decide),fp (by omega) (by omega),fp (by omega) (by omega)]
     generalize eP x r k=p;unfold Fy;cases cr o.now (-1) <;> cases cr o.now r.aY <;> cases cr o.b8 (-1) <;> cases cr o.b8 r.aY <;> simp [Ii]
   ·rw[bD (by simp [az];omega)]
    have:(if 0≤v.aJ then x.ah[v.aJ.toNat]? else none)=none:=by
     split
     ·exact List.getElem?_eq_none (by omega)
     ·rfl
    rw[this]) (by
   show gW x r s0 (bI x r) (eP x r r.aq.length).1 (eP x r r.aq.length).2 (r.aq.length:Int)=_;unfold gW;rw[bA])
  exact this
 rw[ct this];rfl
end
theorem Z6(s:bH):∃w,fZ s=some w∧wb s=some w:=by
 unfold fZ wb uF CC;simp only[ak];cases h1:bh s.uO 0 with
 |true=>exact⟨_,rfl,rfl⟩
 |false =>
  cases h2:bh s.im 0 with
  |true=>exact⟨_,rfl,rfl⟩
  |false =>
   cases h3:bh s.fY 0 with
   |true=>exact⟨_,rfl,rfl⟩
   |false =>
    cases h4:bh s.GL 0 with
    |true=>exact⟨_,rfl,rfl⟩
    |false =>
     have e:(((((((cD s.uO 0&&fT s.uO 1073741824)&&cD s.im 0)&&fT s.im 15)&&cD s.fY 0)&&fT s.fY 15)&&cD s.GL 0)&&fT s.GL 65535)=!(((dp s.uO 1073741824||cD s.im 16)||cD s.fY 16)||cD s.GL 65536):=by
      simp only[jY]at h1 h2 h3 h4;rw[Bool.eq_iff_iff];simp only[Bool.and_eq_true,nk,yS,Bool.not_eq_true',Bool.or_eq_false_iff,pL,Cn];omega
     rw[e];simp only[jg];cases((dp s.uO 1073741824||cD s.im 16)||cD s.fY 16)||cD s.GL 65536
     ·exact⟨_,rfl,rfl⟩
     ·exact⟨_,rfl,rfl⟩
theorem KE:∀(n:Nat) (l:List Nat),l.Nodup→(∀a∈l,a<n)→l.length≤n
 |0,l,_,h=>by
  cases l with
  |nil=>simp
  |cons a r=>exact absurd (h a (by simp)) (by omega)
 |n+1,l,hd,h=>by
  by_cases hm:n∈l
  ·have h1:=KE n (l.erase n) (hd.erase n) fun a ha=>by
    have h2:=(hd.mem_erase_iff).1 ha;have:=h a h2.2;omega
   rw[List.length_erase_of_mem hm]at h1;omega
  ·have:=KE n l hd fun a ha=>by
    have:=h a ha;have:a≠n:=fun e=>hm (e▸ha)
    omega
   omega
section
variable {x : ab} {l : List ae} {r : ay}
theorem nV.short(hx:da x)(h:nV x l):l.length≤20:=by
 have dm:=hx.ah;have hm:(l.map fun v:ae=>2*v.aJ.toNat+(if v.drop=true then 1 else 0)).Nodup:=by
  unfold List.Nodup;rw[List.pairwise_map];refine h.nodup.imp_of_mem fun{a b} ha hb rR he=>rR ?_
  have h1:=qy h.Q0 ha;have h2:=qy h.Q0 hb;cases a with
  |mk ao ad =>
   cases b with
   |mk bo bd =>
    simp only at h1 h2 he;have hd:ad=bd∧ao=bo:=by
     cases ad <;> cases bd <;> simp at he ⊢ <;> omega
    rw[hd.1,hd.2]
 have:=KE 20 _ hm fun a ha=>by
  obtain⟨v,hv,rfl⟩:=List.mem_map.1 ha;have h1:=qy h.Q0 hv;split <;> omega
 simpa using this
def QfL(t:al)(cG:Int):Bool:=(tX t cG).getD false
def xC(x:ab)(r:ay)(v:ae):Bool:=match x.ah[v.aJ.toNat]? with
 |some o=>QfL (bI x r) o.cG
 |none=>false
theorem YT(hx:da x)(ht:0≤r.aY∧r.aY<x.types.length){v:ae}(hv:0≤v.aJ∧v.aJ<x.ah.length):∃o,bj x.ah v.aJ=some o∧tX (bI x r) o.cG=some (xC x r v)∧tO (bI x r) o.cG=some (xC x r v)∧x.ah[v.aJ.toNat]?=some o:=by
 obtain⟨o,g1,g2,_,g4⟩:=OD (x:=x) hv.1 hv.2;obtain⟨b,b1,b2⟩:=QgO (t:=bI x r) (hx.typ _ (MX ht.1 ht.2).2).cG (hx.ord o g2).cG;have:xC x r v=b:=by unfold xC QfL;rw[g4];simp only;rw[b1];rfl
 exact⟨o,g1,by rw[this,b1],by rw[this,b2],g4⟩
def Qy:bH:=bH.mk 0 0 0 0
theorem Qad(hx:da x)(hR:rr r)(h9:¬(9<r.aq.length∧r.aq.length≤20)):
  ∃A,xg x r=some A∧tP x r=some A∧A.1.jv.length≤1048576∧(A.2≠0→A.1=rG)∧
   (A.2=0→(s_ x r=true∧r.aQ.length≤r.aq.length+1)∧∃b,Ec x.bG (bI x r) (a7 x r) r.aK r.aQ b∧X8 x.bG (bI x r) (a7 x r) r.aK r.aQ b∧A.1=(n0 x.bG (bI x r) (a7 x r) r.aK b).c9):=by
 obtain⟨A,hA,pA⟩:=Qac hx hR h9;obtain⟨B,hB,pB⟩:=Rl hx hR h9;have hv:=hR.aq;have hr:=hR.aQ;have key:A=B∧A.1.jv.length≤1048576∧(A.2≠0→A.1=rG)∧(A.2=0→(s_ x r=true∧r.aQ.length≤r.aq.length+1)∧∃b,Ec x.bG (bI x r) (a7 x r) r.aK r.aQ b∧X8 x.bG (bI x r) (a7 x r) r.aK r.aQ b∧A.1=(n0 x.bG (bI x r) (a7 x r) r.aK b).c9):=by
  rcases pA with⟨a1,a2⟩|⟨a1,a2⟩
  ·rcases pB with⟨_,b2⟩|⟨b1,_⟩
   ·rw[a2,b2];exact⟨rfl,Nat.zero_le _,fun _=>rfl,fun h=>by cases h⟩
   ·exact absurd b1 a1
  ·rcases pB with⟨b1,_⟩|⟨_,b2⟩
   ·exact absurd a1 b1
   ·rcases a2 with⟨a,fa,ma,ea⟩|⟨na,ea⟩
    ·rcases b2 with⟨b,fb,mb,eb⟩|⟨nb,eb⟩
     ·have hab:=Qc4 fa fb ma mb;rw[ea,eb,hab];refine⟨rfl,?_,fun h=>absurd rfl h,fun _=>⟨a1,b,fb,mb,rfl⟩⟩
      have h1:=QcQ (n:=x.bG) (t:=bI x r) (aG:=a7 x r) (aK:=r.aK) (b:=b);have h2:=fb.1;rw[uI]at h2;have:=(of_decide_eq_true (Ab a1.1)).2.2.2.2;show(n0 x.bG (bI x r) (a7 x r) r.aK b).c9.jv.length≤_;omega
     ·exact absurd fa (nb a)
    ·rcases b2 with⟨b,fb,mb,eb⟩|⟨nb,eb⟩
     ·exact absurd fb (na b)
     ·rw[ea,eb];have hno:¬okB x.bG (bI x r) (a7 x r) r.aK (r.aQ++List.replicate (r.aq.length+1-r.aQ.length) false):=fun B3=>by
       refine na _ ⟨?_,?_,B3⟩
       ·rw[uI,List.length_append,List.length_replicate];omega
       ·rw[←Df];exact Vg
      obtain⟨n1,n2⟩:=KT hno;refine⟨rfl,?_,fun _=>by rw[n2],fun h=>absurd h n1⟩
      rw[n2];exact Nat.zero_le _
 exact⟨A,hA,by rw[key.1];exact hB,key.2.1,key.2.2.1,key.2.2.2⟩
structure QgI (x:ab) (r:ay) (s:aX) (b:List Bool):Prop where
 aY:0≤r.aY∧r.aY<x.types.length
 seq:KZ x r.aq=0
 Qov:∀v∈r.aq,xC x r v=true
 fits:Qb_ x r=0
 Qng:s_ x r=true
 aQ:r.aQ.length≤r.aq.length+1
 full:Ec x.bG (bI x r) (a7 x r) r.aK r.aQ b
 min:X8 x.bG (bI x r) (a7 x r) r.aK r.aQ b
 c9:s=(n0 x.bG (bI x r) (a7 x r) r.aK b).c9
theorem Y3(hx:da x)(hR:rr r)(h9:¬(9<r.aq.length∧r.aq.length≤20)):
  ∃E,k8 x r=some E∧pz x r=some E∧E.1.jv.length≤1048576∧(E.2.2≠0→E.1=rG∧E.2.1=Qy)∧(E.2.2=0→E.2.1=Qfs x r E.1∧∃b,QgI x r E.1 b):=by
 have hv:=hR.aq;unfold k8 pz;by_cases ht:0≤r.aY∧r.aY<x.types.length
 ·rw[bq (by simp [az];omega),bq (by simp [az];omega),OT hx hv,ak,OS hx hv,ak]
  by_cases hs:KZ x r.aq=0
  ·have hq:=OH hs;have Ed:=hq.short hx;rw[bq (by simpa using hs),bq (by simpa using hs)]
   have a1:Ad x r=some (if r.aq.any (fun v=>!xC x r v)=true then 18 else 0):=by
    unfold Ad;rw[ct (eX (B:=fun s=>mN x r s) hv (fun v=>!xC x r v) (y:=(.inr 18:Unit⊕Int)) (N:=.inl ()) (fun i a h=>by
     obtain⟨o,g1,g2,g3,_⟩:=YT (r:=r) hx ht (qy hq.Q0 (List.mem_of_getElem? h));show mN x r i=_;unfold mN;rw[bL h,(MX ht.1 ht.2).1,ak,g1,ak,g2,ak,jc h hv];cases xC x r a <;> rfl) (by
     show mN x r r.aq.length=_;unfold mN;rw[bA]))]
    split <;> rfl
   have a2:aL (fun s=>fD x r s) 0=some (if r.aq.any (fun v=>!xC x r v)=true then .inr (rG,Qy,18)else .inl ()):=
    eX (B:=fun s=>fD x r s) hv (fun v=>!xC x r v) (y:=(.inr (rG,Qy,18):Unit⊕(aX×bH×Int))) (N:=.inl ()) (fun i a h=>by
     obtain⟨o,g1,g2,g3,_⟩:=YT (r:=r) hx ht (qy hq.Q0 (List.mem_of_getElem? h));show fD x r i=_;unfold fD;have jU:=(List.getElem?_eq_some_iff.1 h).1;rw[bD (by simp [az];omega),(MX ht.1 ht.2).1,ak,bC h,ak,g1,ak,g3,ak,jc h hv]
     cases xC x r a <;> rfl) (by
     show fD x r r.aq.length=_;unfold fD;rw[bq (by simp [az])])
   rw[a1,ak,a2,ak];by_cases hab:r.aq.any (fun v=>!xC x r v)=true
   ·rw[if_pos hab,if_pos hab,bD (by decide),nQ]
    exact⟨_,rfl,rfl,Nat.zero_le _,fun _=>⟨rfl,rfl⟩,fun h=>by cases h⟩
   ·rw[if_neg hab,if_neg hab,bq (by decide),dw]
    obtain⟨f1,f2⟩:=Qd3 (r:=r) hx (by omega) hs ht
    rw[f1,ak,f2,ak];by_cases hf:Qb_ x r=0
    ·rw[bq (by simpa using hf),bq (by simpa using hf)]
     obtain⟨A,hA,hB,ht',hz,FD⟩:=Qad hx hR h9;rw[hA,ak,hB,ak];by_cases hA2:A.2=0
     ·rw[bq (by simpa using hA2),bq (by simpa using hA2),QbE hx hv ht,ak,Xe hx hv ht,ak]
      obtain⟨⟨p1,p2⟩,b,fb,mb,eb⟩:=FD hA2;refine⟨_,rfl,rfl,ht',fun h=>absurd rfl h,fun _=>⟨rfl,b,ht,hs,fun v L_=>?_,hf,p1,p2,fb,mb,eb⟩⟩
      have:=List.any_eq_false.1 (by simpa using hab:r.aq.any (fun v=>!xC x r v)=false) v L_
      simpa using this
     ·rw[bD (by simpa using hA2),bD (by simpa using hA2)]
      exact⟨_,rfl,rfl,Nat.zero_le _,fun _=>⟨rfl,rfl⟩,fun h=>absurd h hA2⟩
    ·rw[bD (by simpa using hf),bD (by simpa using hf)]
     exact⟨_,rfl,rfl,Nat.zero_le _,fun _=>⟨rfl,rfl⟩,fun h=>absurd h hf⟩
  ·rw[bD (by simpa using hs),bD (by simpa using hs)]
   exact⟨_,rfl,rfl,Nat.zero_le _,fun _=>⟨rfl,rfl⟩,fun h=>absurd h hs⟩
 ·rw[bD (by simp [az];omega),bD (by simp [az];omega)]
  exact⟨_,rfl,rfl,Nat.zero_le _,fun _=>⟨rfl,rfl⟩,fun h=>by cases h⟩
theorem Xd(hx:da x)(hR:rr r)(h9:¬(9<r.aq.length∧r.aq.length≤20)):∃w,mM x r=some w∧xw x r=some w:=by
 obtain⟨E,e1,e2,e3,e4,e5⟩:=Y3 hx hR h9;obtain⟨w,w1,w2⟩:=Z6 E.2.1;unfold mM xw;rw[e1,ak,e2,ak,w1,ak,w2,ak,zz];exact⟨_,rfl,rfl⟩
end
inductive Pth (bf:List aA):Int→Int→Prop where
 |one {p:aA} (h:p∈bf):Pth bf p.x0 p.x1
 |more {a:Int} {p:aA} (h:Pth bf a p.x0) (h':p∈bf):Pth bf a p.x1
section
variable {x : ab} {l : List ae} {r : ay}
theorem Pe(h:nV x l){p:aA}(hp:p∈x.before)(hb:dz l p.x1=true):dz l p.x0=true∧qz (Nk p.x0) l<qz (Nk p.x1) l:=by
 have h1:=List.any_eq_false.1 h.before p hp;unfold E_ at h1;rw[hb,Bool.true_and]at h1;simp only[Bool.or_eq_true,Bool.not_eq_true',not_or,Bool.not_eq_false,Bool.not_eq_true]at h1;obtain⟨h2,h3⟩:=h1;refine⟨h2,?_⟩;unfold H3 at h3;have QW:0≤qz (Nk p.x1) l:=by rw[←nk,po];exact hb
 have Qht:0≤qz (Nk p.x0) l:=by rw[←nk,po];exact h2
 unfold qz at QW Qht ⊢;cases e1:JA (Nk p.x1) l with
 |none=>rw[e1]at QW;simp at QW
 |some k =>
  rw[e1]at h3;simp only at h3;cases e0:JA (Nk p.x0) l with
  |none=>rw[e0]at Qht;simp at Qht
  |some j =>
   obtain⟨j1,j2,_⟩:=u3 e0;simp only;have hjk:j<k:=Nat.lt_of_not_le fun hle=>by
    have:dz (l.drop k) p.x0=true:=tY.2 ⟨l[j],List.mem_iff_getElem?.2 ⟨j-k,by rw[List.getElem?_drop,show k+(j-k)=j by omega,List.getElem?_eq_getElem j1]⟩,Cp.1 j2⟩
    rw[this]at h3;cases h3
   omega
theorem Qfj(h:nV x l){a b:Int}(hp:Pth x.before a b):dz l b=true→dz l a=true∧qz (Nk a) l<qz (Nk b) l:=by
 induction hp with
 |one hm=>exact Pe h hm
 |more _ hm ih =>
  intro hb;obtain⟨h1,h2⟩:=Pe h hm hb;obtain⟨h3,h4⟩:=ih h1;exact⟨h3,by omega⟩
theorem Ha{D:Nat}{f:Nat→Int}{i:Int}(h0:0≤i)(h1:i<D):bj (dA D f) i=some (f i.toNat):=by
 unfold bj;rw[if_pos h0,kk (by omega)]
structure ChI (bf:List aA) (m:Nat→Nat):Prop where
 lt:∀i,m i<1024
 pth:∀i a:Nat,(m i).testBit a=true→Pth bf (a:Int) (i:Int)
theorem Nb(hx:da x):post (wB (az x.ah) x.before) fun c=>∃m,c=dA x.ah.length (fun i=>((m i:Nat):Int))∧ChI x.before m:=by
 have dm:=hx.ah;have Qjj:=hx.before;have sb:∀m:Nat→Nat,(∀i,m i<1024)→0≤iu x.ah.length (fun i=>((m i:Nat):Int))∧iu x.ah.length (fun i=>((m i:Nat):Int))≤10240:=fun m hm=>by
  have:=Um (f:=fun i=>((m i:Nat):Int)) (c:=1024) (by omega) x.ah.length fun i=>by have:=hm i;omega
  omega
 unfold wB;have hz:za (we (az x.ah) 0) (we (az x.ah) 0) 8 (0:Int)=some (dA x.ah.length fun i=>(((fun _=>0:Nat→Nat) i:Nat):Int)):=by
  have hm:we (az x.ah) 0=(x.ah.length:Int):=by rw[DN];unfold az;omega
  rw[hm];unfold za;rw[if_pos (by omega)]
  congr 1;refine List.ext_getElem? fun i=>?_
  rcases Nat.lt_or_ge i x.ah.length with h|h
  ·rw[kk h];simp [h]
  ·rw[List.getElem?_eq_none (by simp;omega),List.getElem?_eq_none (by rw[eY];omega)]
 rw[hz,ak];refine ba (R:=fun c=>∃m,c=dA x.ah.length (fun i=>((m i:Nat):Int))∧ChI x.before m) ?_ fun c hc=>aP.2 hc
 refine eJ (fun s:List Int×Bool=>∃m,s.1=dA x.ah.length (fun i=>((m i:Nat):Int))∧ChI x.before m) (fun s=>2*(10240-iu x.ah.length (fun i=>s.1.getD i 0)).toNat+(if s.2=true then 1 else 0)) ⟨fun _=>0,rfl,fun _=>by omega,fun i a h=>by simp at h⟩ ?_ ?_
 ·have WW:0≤iu x.ah.length (fun i=>(dA x.ah.length fun i=>(((fun _=>0:Nat→Nat) i:Nat):Int)).getD i 0):=by
   rw[xE (g:=fun i=>(((fun _=>0:Nat→Nat) i:Nat):Int)) _ fun i hi=>by rw[List.getD_eq_getElem?_getD,kk hi];rfl]
   exact(sb (fun _=>0) fun _=>by omega).1
  refine Nat.lt_of_le_of_lt (m:=2*10240+1) ?_ (by decide)
  refine Nat.add_le_add (Nat.mul_le_mul_left 2 (Int.toNat_le.2 ?_)) (by split <;> decide)
  exact Int.sub_le_self _ WW
 rintro⟨_,more⟩ ⟨m,rfl,hm⟩;have Qlo:∀m:Nat→Nat,iu x.ah.length (fun i=>(dA x.ah.length fun i=>((m i:Nat):Int)).getD i 0)=iu x.ah.length (fun i=>((m i:Nat):Int)):=fun m=>xE _ fun i hi=>by rw[List.getD_eq_getElem?_getD,kk hi];rfl
 show post (qX x.before _ (dA x.ah.length fun i=>((m i:Nat):Int)) more) _
 unfold qX;refine a_ (fun Qgd=>?_) (fun Qgd=>b5 ⟨m,rfl,hm⟩)
 refine ba (R:=fun e:List Int×Bool=>∃m',e.1=dA x.ah.length (fun i=>((m' i:Nat):Int))∧ChI x.before m'∧iu x.ah.length (fun i=>((m i:Nat):Int))≤iu x.ah.length (fun i=>((m' i:Nat):Int))∧(e.2=true→iu x.ah.length (fun i=>((m i:Nat):Int))<iu x.ah.length (fun i=>((m' i:Nat):Int)))) ?_ ?_
 ·refine eJ (fun s:List Int×Bool×Int=>∃(k:Nat) (m':Nat→Nat),s.2.2=(k:Int)∧k≤x.before.length∧s.1=dA x.ah.length (fun i=>((m' i:Nat):Int))∧ChI x.before m'∧iu x.ah.length (fun i=>((m i:Nat):Int))≤iu x.ah.length (fun i=>((m' i:Nat):Int))∧(s.2.1=true→iu x.ah.length (fun i=>((m i:Nat):Int))<iu x.ah.length (fun i=>((m' i:Nat):Int)))) (fun s=>x.before.length-s.2.2.toNat) ⟨0,m,rfl,Nat.zero_le _,rfl,hm,Int.le_refl _,fun h=>by cases h⟩ (by simp;omega) ?_
  rintro⟨_,f,_⟩ ⟨k,m',rfl,hk,rfl,WS,hle,hf⟩;show post (qY x.before _ (dA x.ah.length fun i=>((m' i:Nat):Int)) f (k:Int)) _
  unfold qY;rcases Nat.lt_or_ge k x.before.length with h|h
  ·have e:x.before[k]?=some x.before[k]:=List.getElem?_eq_getElem h;have tZ:=List.getElem_mem h;generalize x.before[k]=p at e tZ;obtain⟨p0,p1,p2,p3,p4⟩:=hx.JF p tZ;obtain⟨a,ha⟩:∃a:Nat,p.x0=a:=⟨p.x0.toNat,by omega⟩
   obtain⟨b,hb⟩:∃b:Nat,p.x1=b:=⟨p.x1.toNat,by omega⟩
   have hpa:Pth x.before (a:Int) (b:Int):=ha▸hb▸Pth.one tZ;have hpb:∀c:Int,Pth x.before c (a:Int)→Pth x.before c (b:Int):=fun c hc=>by
    rw[←ha]at hc;rw[←hb];exact Pth.more hc tZ
   rw[ha]at p0 p1;rw[hb]at p2 p3;have hma:=WS.lt a;have hmb:=WS.lt b;have h2:2 ^ a≤2 ^ 9:=Nat.pow_le_pow_right (by omega) (by omega)
   rw[bL e,ha,hb,bq (by simp [az,eY];omega),Ha p2 p3,ak,Ha p0 p1,ak,fg (by omega),jc e (by omega),Int.toNat_natCast,Int.toNat_natCast,Qfv (by omega),orN (by omega) (by omega)]
   have Qmz:m' b |||m' a<1024:=Nat.or_lt_two_pow (n:=10) hmb hma;rw[orN (by omega) (by omega)]
   have QmA:m' b |||m' a |||2 ^ a<1024:=Nat.or_lt_two_pow (n:=10) Qmz (by omega)
   have QW:m' b≤m' b |||m' a |||2 ^ a:=Nat.le_trans Nat.left_le_or Nat.left_le_or;refine a_ (fun rR=>bZ ⟨⟨k+1,fun i=>if i=b then m' b |||m' a |||2 ^ a else m' i,rfl,h,?_,⟨fun i=>?_,fun i c hc=>?_⟩,?_,fun _=>?_⟩,by simp;omega⟩) (fun _=>bZ ⟨⟨k+1,m',rfl,h,rfl,WS,hle,hf⟩,by simp;omega⟩)
   ·show e_ (dA x.ah.length fun i=>((m' i:Nat):Int)) (b:Int) _=_
    rw[WD (by omega)]
    refine kG fun d _=>?_
    show(if d=b then _ else _:Int)=(((if d=b then _ else _:Nat):Nat):Int)
    split <;> rfl
   ·show(if i=b then _ else _)<1024
    split
    ·exact QmA
    ·exact WS.lt i
   ·have QV:(if i=b then m' b |||m' a |||2 ^ a else m' i).testBit c=true:=hc
    by_cases hi:i=b
    ·rw[if_pos hi,Nat.testBit_or,Nat.testBit_or,Nat.testBit_two_pow]at QV;rw[hi];simp only[Bool.or_eq_true,decide_eq_true_iff]at QV;rcases QV with(QV|QV)|QV
     ·exact WS.pth b c QV
     ·exact hpb _ (WS.pth a c QV)
     ·exact QV▸hpa
    ·rw[if_neg hi]at QV;exact WS.pth i c QV
   all_goals
    have up:=Qt (f:=fun i=>((m' i:Nat):Int)) (g:=fun i=>(((if i=b then m' b |||m' a |||2 ^ a else m' i:Nat):Nat):Int)) (o:=b) x.ah.length (by omega) (fun j hj=>by
     show(((if j=b then _ else _:Nat):Nat):Int)=_
     rw[if_neg hj])
    simp only[if_pos]at up;rw[xb]at rR;show _≤iu x.ah.length (fun i=>(((if i=b then m' b |||m' a |||2 ^ a else m' i:Nat):Nat):Int))
    rw[up];omega
  ·obtain rfl:k=x.before.length:=by omega
   rw[bA];exact b5 ⟨m',rfl,WS,hle,hf⟩
 ·rintro⟨_,f⟩ ⟨m',rfl,WS,hle,hf⟩;refine bZ ⟨⟨m',rfl,WS⟩,?_⟩;simp only[Qlo];have s1:=sb m hm.lt;have s2:=sb m' WS.lt;rw[if_pos Qgd];simp only at hle hf;cases f with
  |true=>have:=hf rfl;simp;omega
  |false=>simp;omega
theorem Xh(hx:da x)(h:nV x l){s:Int}(hs:Ea l s):mO x s=some 0:=by
 have dm:=hx.ah;have QlM:=hx.bV;have Qjj:=hx.before;have hlen:=CH (l:=l) 63;have tZ:∀i∈yF l 63,∃k:Nat,i=k∧k<63∧dz l (k:Int)=true:=fun i hi=>FU hi
 have XU:¬s<0:=by obtain⟨m,rfl,_⟩:=hs.ex;omega
 unfold mO;rw[bq (by simp;omega),C_ hs,ak]
 generalize yF l 63=M at *;have hat:∀{i:Nat} {a:Int},M[i]?=some a→0≤a∧a<x.ah.length∧dz l a=true:=fun hh=>by
  obtain⟨k,rfl,_,hk⟩:=tZ _ (List.mem_of_getElem? hh);have:=XJ h hk;exact⟨this.1,this.2,hk⟩
 have l1:aL (fun q=>dT x s M q) 0=some (.inl ()):=by
  have:=eX (B:=fun q=>dT x s M q) (l:=M) (by omega) (fun _=>false) (y:=(.inr 2:Unit⊕Int)) (N:=.inl ()) (fun i a hh=>by
   have pq:=hat hh;show dT x s M i=_;unfold dT;rw[bL hh,bq (by simp [az];omega),jc hh (by omega)]
   rfl) (by
   show dT x s M M.length=_;unfold dT;rw[bA])
  simpa using this
 have l2:aL (fun q=>dU x s M q) 0=some (.inl ()):=by
  have:=eX (B:=fun q=>dU x s M q) (l:=M) (by omega) (fun _=>false) (y:=(.inr 9:Unit⊕Int)) (N:=.inl ()) (fun i a hh=>by
   obtain⟨q0,q1,q2⟩:=hat hh;obtain⟨v,hv,hvo⟩:=tY.1 q2;have u1:=List.any_eq_false.1 h.off v hv;obtain⟨o,g1,g2,g3,_⟩:=OD (x:=x) (v:=v) (by omega) (by omega)
   show dU x s M i=_;unfold dU;rw[hvo]at g1;rw[bL hh,g1,ak,bq (by rw[←g3];simpa using u1),jc hh (by omega)]
   rfl) (by
   show dU x s M M.length=_;unfold dU;rw[bA])
  simpa using this
 have l3:aL (fun q=>dV x s M q) 0=some (.inl ()):=by
  have:=eX (B:=fun q=>dV x s M q) (l:=x.bV) (by omega) (fun _=>false) (y:=(.inr 20:Unit⊕Int)) (N:=.inl ()) (fun i a hh=>by
   obtain⟨p0,p1,p2,p3,p4⟩:=hx.Xj a (List.mem_of_getElem? hh);have NK:tW l a=false:=by simpa using List.any_eq_false.1 h.bV a (List.mem_of_getElem? hh)
   unfold tW at NK;show dV x s M i=_;unfold dV;rw[bL hh,hs.Has p0 (by omega),ak,hs.Has p2 (by omega),ak,jc hh (by omega)]
   cases e1:dz l a.x0 <;> cases e2:dz l a.x1
   ·rfl
   ·rfl
   ·rfl
   ·rw[e1,e2]at NK;cases NK) (by
   show dV x s M x.bV.length=_;unfold dV;rw[bA])
  simpa using this
 have l4:aL (fun q=>dW x s M q) 0=some (.inl ()):=by
  have:=eX (B:=fun q=>dW x s M q) (l:=x.before) (by omega) (fun _=>false) (y:=(.inr 21:Unit⊕Int)) (N:=.inl ()) (fun i a hh=>by
   have hm:=List.mem_of_getElem? hh;obtain⟨p0,p1,p2,p3,p4⟩:=hx.JF a hm;show dW x s M i=_;unfold dW;rw[bL hh,hs.Has p2 (by omega),ak,hs.Has p0 (by omega),ak,jc hh (by omega)]
   cases e1:dz l a.x1
   ·rfl
   ·rw[(Pe h hm e1).1];rfl) (by
   show dW x s M x.before.length=_;unfold dW;rw[bA])
  simpa using this
 obtain⟨c,hc,m,rfl,hm⟩:=Nb hx;have l5:aL (fun q=>dX M (dA x.ah.length fun i=>((m i:Nat):Int)) q) 0=some (.inl ()):=by
  have:=eX (B:=fun q=>dX M (dA x.ah.length fun i=>((m i:Nat):Int)) q) (l:=M) (by omega) (fun _=>false) (y:=(.inr 21:Unit⊕Int)) (N:=.inl ()) (fun i a hh=>by
   obtain⟨q0,q1,q2⟩:=hat hh;obtain⟨k,rfl⟩:∃k:Nat,a=k:=⟨a.toNat,by omega⟩
   show dX M (dA x.ah.length fun i=>((m i:Nat):Int)) i=_
   unfold dX;have jU:=hm.lt k;have Vt:(m k).testBit k=false:=by
    rw[Bool.eq_false_iff];intro hb;have:=(Qfj h (hm.pth k k hb) q2).2;omega
   have Qhu:k9 ((m k:Nat):Int) (k:Int)=some false:=by
    unfold k9;rw[bD (by simp;omega),fg (by omega),Qa8 (by omega)]
    have hd:=Nat.div_le_self (m k) (2 ^ k);rw[show(1:Int)=((1:Nat):Int)from rfl,QbO (by omega) (by omega),Nat.and_one_is_mod]
    rw[Nat.testBit_eq_decide_div_mod_eq,decide_eq_false_iff_not]at Vt;congr 1;generalize m k / 2 ^ k=q at *;rw[zC];omega
   rw[bL hh,Ha q0 q1,ak,Int.toNat_natCast,Qhu,ak,jc hh (by omega)]
   rfl) (by
   show dX M (dA x.ah.length fun i=>((m i:Nat):Int)) M.length=_
   unfold dX;rw[bA])
  simpa using this
 rw[ct l1,dw,ct l2,dw,ct l3,dw,ct l4,dw,hc,ak,ct l5,dw]
end
def Fx{α S E:Type}(f:S→α→S⊕E)(N:S→E):S→List α→E
 |s,[]=>N s
 |s,a ::r=>match f s a with
  | .inl s'=>Fx f N s' r
  | .inr e=>e
theorem RS{α S E:Type}{f:S→α→S⊕E}{N:S→E}{s s':S}{a:α}{r:List α}(h:f s a=.inl s'):Fx f N s (a ::r)=Fx f N s' r:=by rw[Fx,h]
theorem PN{α S E:Type}{l:List α}(hl:l.length≤1048576)(f:S→α→S⊕E)(N:S→E)(Inv:Nat→S→Prop){B:S×Int→Option ((S×Int)⊕E)}
  (pq:∀(s:S) (i:Nat) (a:α),l[i]?=some a→Inv i s→B (s,(i:Int))=some (match f s a with|.inl s'=>.inl (s',(i:Int)+1)|.inr e=>.inr e)∧∀s',f s a=.inl s'→Inv (i+1) s')
  (Dh:∀s,Inv l.length s→B (s,(l.length:Int))=some (.inr (N s))) {s0:S} (h0:Inv 0 s0):aL B (s0,0)=some (Fx f N s0 l):=by
 have main:∀(m:List α) (k:Nat) (s:S),l.drop k=m→k≤l.length→Inv k s→qs B (m.length+1) (s,(k:Int))=some (Fx f N s m):=by
  intro m;induction m with
  |nil =>
   intro k s hd hk hi;have:k=l.length:=by
    have:=congrArg List.length hd;rw[List.length_drop,List.length_nil]at this;omega
   subst this;simp only[List.length_nil,qs];rw[Dh s hi];rfl
  |cons a m ih =>
   intro k s hd hk hi;have rS:k<l.length:=Nat.lt_of_not_le fun h=>by rw[List.drop_eq_nil_of_le h]at hd;cases hd
   have Vu:=List.drop_eq_getElem_cons rS;rw[hd]at Vu;injection Vu with h1 h2;have e:l[k]?=some a:=by rw[List.getElem?_eq_getElem rS,←h1]
   obtain⟨g1,g2⟩:=pq s k a e hi;rw[List.length_cons,qs,g1];show _=some (match f s a with|.inl s'=>Fx f N s' m|.inr e=>e)
   cases hf:f s a with
   |inl s'=>exact ih (k+1) s' h2.symm rS (g2 s' hf)
   |inr e=>rfl
 have:=main l 0 s0 rfl (Nat.zero_le _) h0;exact ya (l.length+1) (by unfold u9;omega) this
def I_(r:ay):Prop:=¬(9<r.aq.length∧r.aq.length≤20)
section
variable {x : ab} {r : ay} {s : aX} {now : Int}
def Xx(x:ab)(r:ay):aX×bH×Int:=(k8 x r).getD (rG,Qy,0)
theorem Ti(hx:da x)(hR:rr r)(h9:I_ r):k8 x r=some (Xx x r)∧pz x r=some (Xx x r)∧(Xx x r).1.jv.length≤1048576∧((Xx x r).2.2≠0→(Xx x r).1=rG∧(Xx x r).2.1=Qy)∧((Xx x r).2.2=0→(Xx x r).2.1=Qfs x r (Xx x r).1∧∃b,QgI x r (Xx x r).1 b):=by
 obtain⟨E,e1,e2,e3,e4,e5⟩:=Y3 hx hR h9;have:Xx x r=E:=by unfold Xx;rw[e1];rfl
 rw[this];exact⟨e1,e2,e3,e4,e5⟩
end
theorem Qe9{n:aD}(h:aD.ok 1048576 n):QbD n:=by
 obtain⟨⟨h1,h2⟩,⟨h3,h4⟩,_⟩:=h;refine⟨h1,h3,h2,fun a ha=>?_⟩
 obtain⟨_,_,_,_,⟨h5,h6⟩,⟨h7,h8⟩,_⟩:=h4 a ha;exact⟨h5,h7,fun p hp=>⟨(h6 p hp).1,(h6 p hp).2.1⟩,fun p hp=>⟨(h8 p hp).1,(h8 p hp).2.1⟩⟩
theorem QcI{x:ab}(h:ab.ok 1048576 x):Rz x:=by
 obtain⟨h0,⟨h1,h2⟩,⟨h3,h4⟩,⟨h5,_⟩,⟨h6,_⟩,_⟩:=h;refine⟨Qe9 h0,h1,h3,h5,h6,fun t ht=>?_,fun o ho=>?_⟩
 ·obtain⟨a,_,_,_,⟨b,_⟩,_⟩:=h2 t ht;exact⟨a,b⟩
 ·obtain⟨a,⟨b,_⟩,_⟩:=h4 o ho;exact⟨a,b⟩
end
end Go.Proofs.YtkcilfpbgjjjbaaGreatDoor
