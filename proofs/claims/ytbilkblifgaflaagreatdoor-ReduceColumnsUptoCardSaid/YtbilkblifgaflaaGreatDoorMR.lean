/- Part MR. -/
import Derived.Test.YtbilkblifgaflaaGreatDoorMP
import Derived.Test.YtbilkblifgaflaaGreatDoorMQ
import Derived.Test.YtbilkblifgaflaaGreatDoorMT
set_option linter.unusedSimpArgs false
set_option linter.unusedVariables false
set_option linter.unusedSectionVars false
namespace Go.Proofs.YtbilkblifgaflaaGreatDoor
noncomputable section
def Lg{α:Type}(p:α→Bool):List α→Option Nat
 | []=>none
 |a ::r=>if p a=true then some 0 else(Lg p r).map (·+1)
section
variable {α : Type} {p : α → Bool}
theorem xI{l:List α}{k:Nat}(h:Lg p l=some k):∃hk:k<l.length,p l[k]=true∧∀j (hj:j<k),p (l[j]'(by omega))=false:=by
 induction l generalizing k with
 |nil=>cases h
 |cons a r ih =>
  unfold Lg at h;split at h
  ·cases h;exact⟨by simp,by simpa,fun j hj=>by omega⟩
  ·rename_i ha;rw[Option.map_eq_some_iff]at h;obtain⟨m,hm,rfl⟩:=h;obtain⟨h1,h2,h3⟩:=ih hm;refine⟨by simp;omega,by simpa using h2,fun j hj=>?_⟩
   cases j with
   |zero=>simpa using ha
   |succ j=>simpa using h3 j (by omega)
theorem Ok{l:List α}(h:Lg p l=none):∀a∈l,p a=false:=by
 induction l with
 |nil=>simp
 |cons a r ih =>
  unfold Lg at h;split at h
  ·cases h
  ·rename_i ha;rw[Option.map_eq_none_iff]at h;intro b hb;rcases List.mem_cons.1 hb with rfl|hb
   ·simpa using ha
   ·exact ih h b hb
def sH(p:α→Bool)(l:List α):Int:=match Lg p l with
 |some k=>k
 |none=>-1
theorem QlT{l:List α}:0≤sH p l↔∃a∈l,p a=true:=by
 unfold sH;cases h:Lg p l with
 |some k =>
  obtain⟨h1,h2,_⟩:=xI h;exact⟨fun _=>⟨_,List.getElem_mem h1,h2⟩,fun _=>Int.natCast_nonneg k⟩
 |none=>exact⟨fun h'=>by simp at h',fun⟨a,ha,hp⟩=>by rw[Ok h a ha]at hp;cases hp⟩
theorem WU{l:List α}:-1≤sH p l∧sH p l<l.length:=by
 unfold sH;cases h:Lg p l with
 |some k=>have:=(xI h).1;simp only;omega
 |none=>simp only;omega
theorem m7{l:List α}:bZ (sH p l) 0=l.any p:=by
 rw[Bool.eq_iff_iff,kP,QlT,List.any_eq_true]
end
section
variable {E : Type} {B : Int → Option (Int ⊕ E)}
theorem Xr{n:Nat}(hn:n≤1048576)(p:Nat→Bool)(Y:Nat→E){N:E}
  (ry:∀i:Nat,i<n→B (i:Int)=some (if p i=true then .inr (Y i)else .inl ((i:Int)+1))) (xG:B (n:Int)=some (.inr N)):
  (∃k,k<n∧p k=true∧(∀j,j<k→p j=false)∧aK B 0=some (Y k))∨((∀j,j<n→p j=false)∧aK B 0=some N):=by
 have main:post (aK B 0) fun e=>(∃k,k<n∧p k=true∧(∀j,j<k→p j=false)∧e=Y k)∨((∀j,j<n→p j=false)∧e=N):=by
  refine fj (fun i=>∃k:Nat,i=(k:Int)∧k≤n∧∀j,j<k→p j=false) (fun i=>n-i.toNat) ⟨0,rfl,Nat.zero_le _,fun j hj=>by omega⟩ (by simp;omega) ?_
  rintro _ ⟨k,rfl,hk,hf⟩;rcases Nat.lt_or_ge k n with h|h
  ·rw[ry k h];split
   ·rename_i hp;exact ef (.inl ⟨k,h,hp,hf,rfl⟩)
   ·rename_i hp;refine fO ⟨⟨k+1,by simp,by omega,fun j hj=>?_⟩,by simp;omega⟩
    rcases Nat.lt_or_eq_of_le (Nat.le_of_lt_succ hj)with hj|rfl
    ·exact hf j hj
    ·simpa using hp
  ·obtain rfl:k=n:=by omega
   rw[xG];exact ef (.inr ⟨hf,rfl⟩)
 obtain⟨e,he,h⟩:=main;rcases h with⟨k,h1,h2,h3,rfl⟩|⟨h1,rfl⟩
 ·exact .inl ⟨k,h1,h2,h3,he⟩
 ·exact .inr ⟨h1,he⟩
theorem Kj{n:Nat}(hn:n≤1048576)(p:Nat→Bool){y N:E}{b:Bool}(hb:b=true↔∃k,k<n∧p k=true)
  (ry:∀i:Nat,i<n→B (i:Int)=some (if p i=true then .inr y else .inl ((i:Int)+1))) (xG:B (n:Int)=some (.inr N)):
  aK B 0=some (if b=true then y else N):=by
 rcases Xr hn p (fun _=>y) ry xG with⟨k,h1,h2,_,h4⟩|⟨h1,h4⟩
 ·rw[h4,if_pos (hb.2 ⟨k,h1,h2⟩)]
 ·rw[h4,if_neg fun h=>by obtain⟨k,h5,h6⟩:=hb.1 h;rw[h1 k h5]at h6;cases h6]
theorem eh{α:Type}{l:List α}(hl:l.length≤1048576)(p:α→Bool){y N:E}
  (ry:∀(i:Nat) a,l[i]?=some a→B (i:Int)=some (if p a=true then .inr y else .inl ((i:Int)+1))) (xG:B (l.length:Int)=some (.inr N)):
  aK B 0=some (if l.any p=true then y else N):=by
 refine Kj hl (fun i=>match l[i]? with|some a=>p a|none=>false) ?_ (fun i hi=>?_) xG
 ·rw[List.any_eq_true];constructor
  ·rintro⟨a,ha,hp⟩;obtain⟨k,hk,rfl⟩:=List.getElem_of_mem ha;exact⟨k,hk,by rw[List.getElem?_eq_getElem hk];exact hp⟩
  ·rintro⟨k,hk,hp⟩;rw[List.getElem?_eq_getElem hk]at hp;exact⟨_,List.getElem_mem hk,hp⟩
 ·rw[List.getElem?_eq_getElem hi];exact ry i _ (List.getElem?_eq_getElem hi)
theorem vo{α:Type}{l:List α}(hl:l.length≤1048576)(p:α→Bool)(Y:Nat→E){N:E}
  (ry:∀(i:Nat) a,l[i]?=some a→B (i:Int)=some (if p a=true then .inr (Y i)else .inl ((i:Int)+1))) (xG:B (l.length:Int)=some (.inr N)):
  aK B 0=some (match Lg p l with|some k=>Y k|none=>N):=by
 have h:=Xr (B:=B) hl (fun i=>match l[i]? with|some a=>p a|none=>false) Y (N:=N) (fun i hi=>by
  rw[List.getElem?_eq_getElem hi];exact ry i _ (List.getElem?_eq_getElem hi)) xG
 have di:∀j (hj:j<l.length),(match l[j]? with|some a=>p a|none=>false)=p l[j]:=fun j hj=>by rw[List.getElem?_eq_getElem hj]
 rcases h with⟨k,h1,h2,h3,h4⟩|⟨h1,h4⟩
 ·cases hx:Lg p l with
  |none=>rw[di k h1,Ok hx _ (List.getElem_mem h1)]at h2;cases h2
  |some m =>
   obtain⟨g1,g2,g3⟩:=xI hx;rcases Nat.lt_trichotomy k m with h|h|h
   ·rw[di k h1,g3 k h]at h2;cases h2
   ·rw[h4,h]
   ·have:=h3 m h;simp only[di m g1]at this;rw[g2]at this;cases this
 ·cases hx:Lg p l with
  |none=>rw[h4]
  |some m =>
   obtain⟨g1,g2,g3⟩:=xI hx;have:=h1 m g1;simp only[di m g1]at this;rw[g2]at this;cases this
end
theorem Qdc{m:Nat}(h:m<9223372036854775808):IntKind.i64.wrap (m:Int)=m:=IntWalk.i64_in _ ⟨by omega,by omega⟩
theorem QmZ{m:Nat}(h:m<9223372036854775808):zV .u64 (m:Int)=m:=by
 unfold zV;simp only[IntKind.wrap,IntKind.bits,IntKind.signed];simp;omega
theorem Qhg{m i:Nat}(hi:i≤64):wZ .i64 (m:Int) (i:Int)=((m / 2 ^ i:Nat):Int):=by
 unfold wZ;rw[show min (i:Int).toNat IntKind.i64.bits=i by simp [IntKind.bits];omega,show(2:Int) ^ i=((2 ^ i:Nat):Int) by simp,Int.fdiv_eq_ediv_of_nonneg _ (Int.natCast_nonneg _)]
 rfl
theorem Qmi{i:Nat}(hi:i≤62):Pg .i64 1 (i:Int)=((2 ^ i:Nat):Int):=by
 have h2:2 ^ i≤2 ^ 62:=Nat.pow_le_pow_right (by omega) hi
 unfold Pg;rw[show min (i:Int).toNat IntKind.i64.bits=i by simp [IntKind.bits];omega,Int.one_mul,show(2:Int) ^ i=((2 ^ i:Nat):Int) by simp]
 exact Qdc (by omega)
theorem orN{a b:Nat}(ha:a<9223372036854775808)(hb:b<9223372036854775808):XW .i64 (a:Int) (b:Int)=((a |||b:Nat):Int):=by
 unfold XW;have h:=Nat.or_lt_two_pow (n:=63) ha hb;have e:(BitVec.ofInt IntKind.i64.bits (a:Int) |||BitVec.ofInt IntKind.i64.bits (b:Int)).toNat=a |||b:=by
  rw[BitVec.toNat_or];show(BitVec.ofInt 64 (a:Int)).toNat |||(BitVec.ofInt 64 (b:Int)).toNat=_;rw[BitVec.ofInt_natCast,BitVec.ofInt_natCast,BitVec.toNat_ofNat,BitVec.toNat_ofNat,Nat.mod_eq_of_lt (by omega),Nat.mod_eq_of_lt (by omega)]
 rw[e];exact Qdc (by omega)
theorem QkW{a b:Nat}(ha:a<9223372036854775808)(hb:b<9223372036854775808):Sf .i64 (a:Int) (b:Int)=((a &&& b:Nat):Int):=by
 unfold Sf;have h:=Nat.and_le_left (n:=a) (m:=b);have e:(BitVec.ofInt IntKind.i64.bits (a:Int) &&& BitVec.ofInt IntKind.i64.bits (b:Int)).toNat=a &&& b:=by
  rw[BitVec.toNat_and];show(BitVec.ofInt 64 (a:Int)).toNat &&& (BitVec.ofInt 64 (b:Int)).toNat=_;rw[BitVec.ofInt_natCast,BitVec.ofInt_natCast,BitVec.toNat_ofNat,BitVec.toNat_ofNat,Nat.mod_eq_of_lt (by omega),Nat.mod_eq_of_lt (by omega)]
 rw[e];exact Qdc (by omega)
theorem QbL{a b:Nat}(ha:a<9223372036854775808)(hb:b<9223372036854775808):wG .i64 (a:Int) (b:Int)=0↔∀i,a.testBit i=true→b.testBit i=true:=by
 show IntKind.i64.wrap (((BitVec.ofInt 64 (a:Int) &&& ~~~BitVec.ofInt 64 (b:Int)).toNat:Nat):Int)=0↔_;rw[BitVec.ofInt_natCast,BitVec.ofInt_natCast];have hle:(BitVec.ofNat 64 a &&& ~~~BitVec.ofNat 64 b).toNat<9223372036854775808:=by
  rw[BitVec.toNat_and,BitVec.toNat_ofNat,Nat.mod_eq_of_lt (by omega)]
  exact Nat.lt_of_le_of_lt Nat.and_le_left ha
 rw[Qdc hle];have bit:∀i,(BitVec.ofNat 64 a &&& ~~~BitVec.ofNat 64 b).toNat.testBit i=(a.testBit i&&!b.testBit i):=fun i=>by
  rw[BitVec.testBit_toNat,BitVec.getLsbD_and,BitVec.getLsbD_not,BitVec.getLsbD_ofNat,BitVec.getLsbD_ofNat];rcases Nat.lt_or_ge i 64 with h|h
  ·simp [h]
  ·have:a.testBit i=false:=Nat.testBit_lt_two_pow (Nat.lt_of_lt_of_le ha (Nat.le_trans (by decide) (Nat.pow_le_pow_right (n:=2) (by omega) h)))
   simp [this]
 constructor
 ·intro h i hi;have:=bit i;rw[show(BitVec.ofNat 64 a &&& ~~~BitVec.ofNat 64 b).toNat=0 by omega,Nat.zero_testBit,hi]at this
  simpa using this.symm
 ·intro h;have:(BitVec.ofNat 64 a &&& ~~~BitVec.ofNat 64 b).toNat=0:=Nat.eq_of_testBit_eq fun i=>by
   rw[bit,Nat.zero_testBit];cases hi:a.testBit i with
   |false=>rfl
   |true=>rw[h i hi];rfl
  omega
theorem RV{m i:Nat}:bP (C6 (((m / 2 ^ i:Nat):Int)) 2) 1=m.testBit i:=by
 rw[Bool.eq_iff_iff,pJ,Nat.testBit_eq_decide_div_mod_eq,decide_eq_true_iff];unfold C6;generalize m / 2 ^ i=q;rw[Int.tmod_eq_emod_of_nonneg (by omega)]
 omega
theorem Qh1{m i:Nat}(h:m.testBit i=false)(j:Nat):(m+2 ^ i).testBit j=(m.testBit j||decide (i=j)):=by
 rw[Nat.add_comm];rcases Nat.lt_trichotomy j i with hj|rfl|hj
 ·rw[Nat.testBit_two_pow_add_gt hj,decide_eq_false (by omega),Bool.or_false]
 ·rw[Nat.testBit_two_pow_add_eq,h];simp
 ·rw[decide_eq_false (by omega),Bool.or_false]
  have h0:m / 2 ^ i % 2=0:=by
   rw[Nat.testBit_eq_decide_div_mod_eq,decide_eq_false_iff_not]at h;omega
  have e1:(2 ^ i+m) / 2 ^ (i+1)=m / 2 ^ (i+1):=by
   rw[Nat.pow_succ,←Nat.div_div_eq_div_mul,←Nat.div_div_eq_div_mul,Nat.add_div_left _ (Nat.two_pow_pos i)];omega
  rw[Nat.testBit_eq_decide_div_mod_eq,Nat.testBit_eq_decide_div_mod_eq];have hp:2 ^ j=2 ^ (i+1)*2 ^ (j-(i+1)):=by rw[←Nat.pow_add];congr 1;omega
  rw[hp,←Nat.div_div_eq_div_mul,←Nat.div_div_eq_div_mul,e1]
theorem Qfj{t:ag}{bD:Int}(ht:0≤t.bD∧t.bD≤1073741823)(hs:0≤bD∧bD≤1073741823):∃b,rb t bD=some b∧nS t bD=some b:=by
 obtain⟨a,ha⟩:∃a:Nat,bD=a:=⟨bD.toNat,by omega⟩
 obtain⟨c,hc⟩:∃c:Nat,t.bD=c:=⟨t.bD.toNat,by omega⟩
 subst ha;refine⟨bP (wG .i64 (a:Int) (c:Int)) 0,?_,?_⟩
 ·unfold rb;rw[hc];rw[show bZ (c:Int) 0=true by simp,show bZ (a:Int) 0=true by simp]
  rfl
 ·unfold nS;rw[a_ (by simp;omega)]
  have key:aK (fun s=>kU t (a:Int) s) 1=some (if(bP (wG .i64 (a:Int) (c:Int)) 0)=true then .inl ()else .inr false):=by
   have Qak:∀k:Nat,k≤62→(0:Int)<((2 ^ k:Nat):Int)∧((2 ^ k:Nat):Int)≤4611686018427387904:=fun k hk=>by
    have h1:=Nat.two_pow_pos k;have h2:2 ^ k≤2 ^ 62:=Nat.pow_le_pow_right (by omega) hk
    omega
   have main:post (aK (fun s=>kU t (a:Int) s) 1) fun e=>e=if(bP (wG .i64 (a:Int) (c:Int)) 0)=true then .inl ()else .inr false:=by
    refine fj (fun s=>∃k:Nat,k≤63∧s=(if k=63 then -9223372036854775808 else((2 ^ k:Nat):Int))∧∀i,i<k→a.testBit i=true→c.testBit i=true) (fun s=>if s<0 then 0 else 9223372036854775808-s.toNat) ⟨0,by omega,rfl,fun i hi=>by omega⟩ (by decide) ?_
    rintro _ ⟨k,hk,rfl,hb⟩;show post (kU t (a:Int) _) _;unfold kU;rcases Nat.lt_or_ge k 63 with wP|wP
    ·rw[if_neg (by omega)]
     obtain⟨p1,p2⟩:=Qak k (by omega)
     rw[bl (by simp only[qi];exact p1),ch (by omega),hc]
     have hq:∀z:Nat,z<9223372036854775808→uw .i64 (z:Int) ((2 ^ k:Nat):Int)=((z / 2 ^ k:Nat):Int):=fun z hz=>by
      have e:(z:Int).tdiv ((2 ^ k:Nat):Int)=((z / 2 ^ k:Nat):Int):=by rw[Int.tdiv_eq_ediv_of_nonneg (by omega)];rfl
      have h1:=Nat.div_le_self z (2 ^ k);rw[Qg3,e] <;>(rw[e];generalize z / 2 ^ k=q at h1;omega)
     rw[hq a (by omega),hq c (by omega),RV]
     have go:∀h:(a.testBit k=true→c.testBit k=true),post (some (Sum.inl (m_ .i64 ((2 ^ k:Nat):Int) 2):Int⊕(Unit⊕Bool))) fun x=>(∀s',x=.inl s'→(∃k':Nat,k'≤63∧s'=(if k'=63 then -9223372036854775808 else((2 ^ k':Nat):Int))∧∀i,i<k'→a.testBit i=true→c.testBit i=true)∧(if s'<0 then 0 else 9223372036854775808-s'.toNat)<(if((2 ^ k:Nat):Int)<0 then 0 else 9223372036854775808-((2 ^ k:Nat):Int).toNat))∧∀e,x=.inr e→e=if(bP (wG .i64 (a:Int) (c:Int)) 0)=true then .inl ()else .inr false:=by
      intro h;have hm:m_ .i64 ((2 ^ k:Nat):Int) 2=if k+1=63 then -9223372036854775808 else((2 ^ (k+1):Nat):Int):=by
       split
       ·rename_i h62;obtain rfl:k=62:=by omega
        decide
       ·obtain⟨q1,q2⟩:=Qak (k+1) (by omega)
        have e:((2 ^ k:Nat):Int)*2=((2 ^ (k+1):Nat):Int):=by rw[Nat.pow_succ];simp
        rw[Qi5 (by omega) (by omega),e]
      refine fO ⟨⟨k+1,by omega,hm,fun i hi=>?_⟩,?_⟩
      ·rcases Nat.lt_or_eq_of_le (Nat.le_of_lt_succ hi)with hi|rfl
       ·exact hb i hi
       ·exact h
      ·rw[hm,if_neg (show ¬((2 ^ k:Nat):Int)<0 by omega)]
       split
       ·rw[if_pos (by omega)];omega
       ·obtain⟨q1,q2⟩:=Qak (k+1) (by omega)
        have e:2 ^ (k+1)=2 ^ k*2:=Nat.pow_succ ..;rw[if_neg (by omega)]
        omega
     refine bA (fun h1=>dd (by omega) (bA (fun h2=>ef ?_) (fun h2=>go fun _=>?_))) (fun h1=>go fun h=>by rw[h1]at h;cases h)
     ·rw[if_neg];intro h;have h3:=(QbL (by omega) (by omega)).1 (pJ.1 h) k h1
      rw[←RV,pJ]at h3;rw[pJ]at h2;omega
     ·rw[xC]at h2;rw[←RV,pJ];unfold C6 at h2 ⊢;generalize c / 2 ^ k=q at h2 ⊢;rw[Int.tmod_eq_emod_of_nonneg (by omega)]at h2 ⊢
      omega
    ·obtain rfl:k=63:=by omega
     rw[if_pos rfl,a_ (by decide)]
     refine ef ?_
     rw[if_pos];rw[pJ];refine(QbL (by omega) (by omega)).2 fun i hi=>?_
     rcases Nat.lt_or_ge i 63 with h|h
     ·exact hb i h hi
     ·rw[Nat.testBit_lt_two_pow (Nat.lt_of_lt_of_le (show a<2 ^ 63 by omega) (Nat.pow_le_pow_right (n:=2) (by omega) h))]at hi;cases hi
   exact main.eq
  rw[key,ai];split <;> simp_all
theorem zn{α:Type}{b:Bool}{x y:α}:br b (some x) (some y)=some (if b=true then x else y):=by cases b <;> rfl
theorem cB{α β:Type}{l:List α}{i:Nat}{a:α}(h:l[i]?=some a)(f:α→Option β)(z:Option β):br (aT (i:Int) (aC l)) (aS (bq l i) f) z=f a:=by
 have:=(List.getElem?_eq_some_iff.1 h).1;rw[bl (by simp [aC];omega),bt h,ai]
theorem bW{α β:Type}{l:List α}{y z:Option β}:br (aT (l.length:Int) (aC l)) y z=z:=a_ (by simp [aC])
theorem gP{α:Type}{l:List α}{i:Nat}{a:α}(h:l[i]?=some a)(hl:l.length≤1048576):aY .i64 (i:Int) 1=(i:Int)+1:=inc (List.getElem?_eq_some_iff.1 h).1 hl
def Pw(x:ae)(v:ab):Bool:=decide (0≤v.aL∧v.aL<x.ah.length)
def LC(x:ae)(v:ab):Bool:=match x.ah[v.aL.toNat]? with
 |some o=>o.off
 |none=>false
def Q0(o:Int)(v:ab):Bool:=bP v.aL o
def fx(l:List ab)(o:Int):Bool:=l.any (Q0 o)
def oH(v a:ab):Bool:=bP v.aL a.aL&&(T0 v.drop a.drop&&true)
def gN(x:ae)(o:Int):List ab:=match x.ah[o.toNat]? with
 |some q=>(if 0≤q.pick.place then [ab.mk o false]else [])++(if 0≤q.drop.place then [ab.mk o true]else [])
 |none=>[]
def M9(l:List ab):List ab→Bool
 | []=>true
 | [a]=>bZ (sH (oH a) l) 0
 |a ::b ::_=>bZ (sH (oH a) l) 0&&aT (sH (oH a) l) (sH (oH b) l)
def vN(x:ae)(l:List ab)(v:ab):Bool:=(gN x v.aL).any (oH v)&&M9 l (gN x v.aL)
def wM(l:List ab)(p:aI):Bool:=fx l p.x0&&fx l p.x1
def Ml(l:List ab)(p:aI):Bool:=match Lg (Q0 p.x1) l with
 |some k=>fx (l.drop k) p.x0
 |none=>false
def IW(l:List ab)(p:aI):Bool:=fx l p.x1&&(!fx l p.x0||Ml l p)
instance(l:List ab):Decidable l.Nodup:=inferInstanceAs (Decidable (List.Nodup l))
def Kk(x:ae)(l:List ab):Int:=
 if l.length=0 then 2 else if l.any (fun v=>!Pw x v)=true then 2 else if l.any (LC x)=true then 9 else if ¬l.Nodup then 6 else
 if l.any (fun v=>!vN x l v)=true then 19 else if x.db.any (wM l)=true then 20 else if x.before.any (IW l)=true then 21 else 0
section
variable {x : ae} {l : List ab}
theorem Mk{v a:ab}:oH v a=true↔a=v:=by
 unfold oH;cases v;cases a;simp;exact⟨fun⟨h1,h2⟩=>⟨h1.symm,h2.symm⟩,fun⟨h1,h2⟩=>⟨h1.symm,h2.symm⟩⟩
theorem Hn{o:Int}{v:ab}:Q0 o v=true↔v.aL=o:=by simp [Q0]
theorem wO{o:Int}:fx l o=true↔∃v∈l,v.aL=o:=by simp [fx,List.any_eq_true,Q0]
theorem IU{v:ab}:l.any (oH v)=true↔v∈l:=by
 rw[List.any_eq_true];exact⟨fun⟨a,h,h'⟩=>Mk.1 h'▸h,fun h=>⟨v,h,Mk.2 rfl⟩⟩
theorem S5{v:ab}:0≤sH (oH v) l↔v∈l:=by rw[←kP,m7,IU]
theorem Jq{v:ab}{k:Nat}(h:sH (oH v) l=k):l[k]?=some v∧∀j,j<k→l[j]?≠some v:=by
 unfold sH at h;cases hx:Lg (oH v) l with
 |none=>rw[hx]at h;simp only at h;omega
 |some m =>
  rw[hx]at h;simp only at h;obtain rfl:m=k:=by omega
  obtain⟨h1,h2,h3⟩:=xI hx;refine⟨by rw[List.getElem?_eq_getElem h1,Mk.1 h2],fun j hj he=>?_⟩
  have:=h3 j hj;rw[List.getElem?_eq_getElem (show j<l.length by omega)]at he
  rw[Mk.2 (Option.some.inj he)]at this;cases this
theorem BD(hl:l.length≤1048576)(v:ab):kG l v=some (sH (oH v) l):=by
 have:=vo hl (oH v) (fun k=>(.inr (k:Int):Unit⊕Int)) (N:=.inl ()) (B:=fun s=>df l v s) (fun i a h=>by
  show df l v i=_;unfold df;rw[cB h,gP h hl,zn];rfl) (by
  show df l v l.length=_;unfold df;rw[bW])
 unfold kG eJ;rw[bY this];unfold sH;cases Lg (oH v) l <;> rfl
theorem Qgu(hl:l.length≤1048576)(v:ab):eJ l v=some (sH (oH v) l):=by
 have:=BD hl v;unfold kG at this;obtain⟨a,h,h'⟩:=uD this;rw[h,h']
theorem contains_eq(hl:l.length≤1048576)(v:ab):ff l v=some (l.any (oH v)):=by
 unfold ff;rw[Qgu hl,ai,m7]
theorem wQ(hl:l.length≤1048576)(v:ab):fi l v=some (sH (oH v) l):=by
 have:=vo hl (oH v) (fun k=>(.inr (k:Int):Unit⊕Int)) (N:=.inl ()) (B:=fun s=>iP l v s) (fun i a h=>by
  show iP l v i=_;unfold iP;rw[cB h,gP h hl,zn];rw[show(bP a.aL v.aL&&(T0 a.drop v.drop&&true))=oH v a by
   rw[Bool.eq_iff_iff,Mk];cases v;cases a;simp]) (by
  show iP l v l.length=_;unfold iP;rw[bW])
 unfold fi;rw[bY this];unfold sH;cases Lg (oH v) l <;> rfl
theorem nodup_iff:¬l.Nodup↔∃k,k<l.length∧∃j,j<k∧l[j]?=l[k]?:=by
 unfold List.Nodup;rw[List.pairwise_iff_getElem];constructor
 ·intro h;refine Classical.byContradiction fun hn=>h fun i j hi hj T5 he=>hn ⟨j,hj,i,T5,?_⟩
  rw[List.getElem?_eq_getElem hi,List.getElem?_eq_getElem hj,he]
 ·rintro⟨k,hk,j,hj,he⟩ h;rw[List.getElem?_eq_getElem hk,List.getElem?_eq_getElem (show j<l.length by omega)]at he
  exact h j k (by omega) hk hj (Option.some.inj he)
theorem CC{v:ab}{k:Nat}(hk:k≤l.length):v∈l.take k↔∃j,j<k∧l[j]?=some v:=by
 rw[List.mem_iff_getElem?];constructor
 ·rintro⟨j,h⟩;rw[List.getElem?_take]at h;split at h
  ·exact⟨j,‹_›,h⟩
  ·cases h
 ·rintro⟨j,hj,h⟩;exact⟨j,by rw[List.getElem?_take,if_pos hj,h]⟩
theorem Qhm(hl:l.length≤1048576):uW l=some (decide (¬l.Nodup)):=by
 have:=Kj (B:=fun s=>ky l s) hl (fun k=>match l[k]? with|some v=>(l.take k).any (oH v)|none=>false) (y:=(.inr true:Unit⊕Bool)) (N:=.inl ()) (b:=decide (¬l.Nodup)) (by
  rw[decide_eq_true_iff,nodup_iff];constructor
  ·rintro⟨k,hk,j,hj,he⟩;refine⟨k,hk,?_⟩;rw[List.getElem?_eq_getElem hk]at he ⊢;exact IU.2 ((CC (by omega)).2 ⟨j,hj,he⟩)
  ·rintro⟨k,hk,h⟩;rw[List.getElem?_eq_getElem hk]at h;obtain⟨j,hj,he⟩:=(CC (by omega)).1 (IU.1 h)
   exact⟨k,hk,j,hj,by rw[he,List.getElem?_eq_getElem hk]⟩) (fun i hi=>by
  have h:l[i]?=some l[i]:=List.getElem?_eq_getElem hi;show ky l i=_;unfold ky;rw[cB h,show vw l 0 (i:Int)=some (l.take i) by unfold vw;rw[if_pos (by omega)];simp,ai,BD (by rw[List.length_take];omega),ai,gP h hl,m7,zn]
  rw[h]) (by
  show ky l l.length=_;unfold ky;rw[bW])
 unfold uW;rw[bY this];split <;> simp_all
theorem u0{o:Int}:(gN x o).length≤2:=by
 unfold gN;split
 ·split <;> split <;> simp
 ·simp
theorem Ez(hx:cD x){o:Int}(h0:0≤o)(h1:o<x.ah.length):oT x.ah o=some (gN x o):=by
 have e:x.ah[o.toNat]?=some (x.ah[o.toNat]'(by omega)):=List.getElem?_eq_getElem _
 generalize x.ah[o.toNat]'(by omega)=q at e
 have hg:bq x.ah o=some q:=by unfold bq;rw[if_pos h0,e]
 unfold oT xl;rw[ai,bl (by simp [aC];omega),hg,ai]
 unfold gN;rw[e];have hJ:∀l1:List ab,l1.length≤1→qu x.ah o l1=some (l1++if 0≤q.drop.place then [ab.mk o true]else []):=fun l1 hl=>by
  unfold qu;rw[hg,ai,ch (by unfold e_;simp;omega),NK]
  simp only[kP];split <;> simp
 rw[hJ _ (by simp),hJ _ (by simp),ch (by unfold e_;simp),zn]
 simp only[kP];split <;> rfl
theorem IS(hx:cD x){o:Int}(h0:0≤o)(h1:o<x.ah.length):lX x o=some (gN x o):=by
 have e:x.ah[o.toNat]?=some (x.ah[o.toNat]'(by omega)):=List.getElem?_eq_getElem _
 generalize x.ah[o.toNat]'(by omega)=q at e
 have hq:=hx.ord q (List.mem_of_getElem? e);have hg:bq x.ah o=some q:=by unfold bq;rw[if_pos h0,e]
 have hp:cA q.pick.place (-1)=decide (0≤q.pick.place):=by
  have:=hq.pick;rw[Bool.eq_iff_iff,wk,decide_eq_true_iff];unfold IQ at this;omega
 have hd:cA q.drop.place (-1)=decide (0≤q.drop.place):=by
  have:=hq.drop;rw[Bool.eq_iff_iff,wk,decide_eq_true_iff];unfold IQ at this;omega
 unfold lX;rw[hg,ai];unfold gN;rw[e];have hJ:∀l1:List ab,l1.length≤1→lg x o l1=some (l1++if 0≤q.drop.place then [ab.mk o true]else []):=fun l1 hl=>by
  unfold lg;rw[hg,ai,ch (by unfold e_;simp;omega),hd,NK]
  simp only[decide_eq_true_iff];split <;> simp
 rw[hJ _ (by simp),hJ _ (by simp),ch (by unfold e_;simp),hp,zn]
 simp only[decide_eq_true_iff];split <;> rfl
theorem Ps{o:Int}{a b:ab}{r:List ab}(h:gN x o=a ::b ::r):r=[]∧a≠b:=by
 have h2:=u0 (x:=x) (o:=o);rw[h]at h2;have hr:r=[]:=by cases r with
  |nil=>rfl
  |cons c r=>simp at h2
 refine⟨hr,?_⟩;subst hr;unfold gN at h;split at h
 ·split at h <;> split at h <;> simp at h
  obtain⟨rfl,rfl⟩:=h;simp
 ·cases h
theorem Qey(hl:l.length≤1048576){r:List ab}(hr:r.length≤2)(v:Int):aK (fun s=>ep x l v r s.1 s.2) ((-1),0)=some (if M9 l r=true then .inl ()else .inr false):=by
 have out:∀(p:Int),ep x l v r p r.length=some (.inr (.inl ())):=fun p=>by
  unfold ep;rw[bW]
 have go:∀(k:Nat) (a:ab) (p:Int),r[k]?=some a→ep x l v r p k=some (if jD (sH (oH a) l) p=true then .inr (.inr false)else .inl (sH (oH a) l,(k:Int)+1)):=fun k a p h=>by
  unfold ep;rw[cB h,BD hl,ai,gP h (by omega),zn]
 match r,hr with
 | [],_=>exact EP 1 (by decide) (by simp only[uh];rw[show ep x l v [] (-1) 0=_ from out (-1)];rfl)
 | [a],_ =>
  refine EP 2 (by decide) ?_
  have g:=go 0 a (-1) rfl;simp only[uh];rw[show ep x l v [a] (-1) 0=_ from g];have hb:=WU (p:=oH a) (l:=l);by_cases h:jD (sH (oH a) l) (-1)=true
  ·rw[if_pos h,if_neg];simp only[M9,kP];simp only[ui]at h;omega
  ·rw[if_neg h,if_pos]
   ·simp only;rw[show ep x l v [a] (sH (oH a) l) ((0:Nat)+1:Int)=_ from out _]
   ·simp only[M9,kP];simp only[ui]at h;omega
 | [a,b],_ =>
  refine EP 3 (by decide) ?_
  have g:=go 0 a (-1) rfl;have g1:=go 1 b (sH (oH a) l) rfl;simp only[uh];rw[show ep x l v [a,b] (-1) 0=_ from g];have hb:=WU (p:=oH a) (l:=l);by_cases h:jD (sH (oH a) l) (-1)=true
  ·rw[if_pos h,if_neg];simp only[M9,kP,Bool.and_eq_true];simp only[ui]at h;omega
  ·rw[if_neg h];simp only;rw[show ep x l v [a,b] (sH (oH a) l) ((0:Nat)+1:Int)=_ from g1];simp only[ui]at h;by_cases h':jD (sH (oH b) l) (sH (oH a) l)=true
   ·rw[if_pos h',if_neg];simp only[M9,kP,fS,Bool.and_eq_true];simp only[ui]at h';omega
   ·rw[if_neg h',if_pos]
    ·simp only;rw[show ep x l v [a,b] (sH (oH b) l) ((1:Nat)+1:Int)=_ from out _]
    ·simp only[M9,kP,fS,Bool.and_eq_true];simp only[ui]at h';omega
theorem rP(h:l.any (fun v=>!Pw x v)=false){v:ab}(hv:v∈l):0≤v.aL∧v.aL<x.ah.length:=by
 have:=List.any_eq_false.1 h v hv;simpa [Pw]using this
theorem Qei(hx:cD x)(hl:l.length≤1048576)(ho:l.any (fun v=>!Pw x v)=false):tJ x l=some (!l.any (fun v=>!vN x l v)):=by
 have:=eh (B:=fun s=>jy x l s) hl (fun v=>!vN x l v) (y:=(.inr false:Unit⊕Bool)) (N:=.inl ()) (fun i a h=>by
  obtain⟨h0,h1⟩:=rP ho (List.mem_of_getElem? h);show jy x l i=_;unfold jy;have hv:=u0 (x:=x) (o:=a.aL);rw[cB h,Ez hx h0 h1,ai,contains_eq (by omega),ai,Qey hl hv,ai,gP h hl]
  unfold vN;cases(gN x a.aL).any (oH a) <;> cases M9 l (gN x a.aL) <;> rfl) (by
  show jy x l l.length=_;unfold jy;rw[bW])
 unfold tJ;rw[bY this];cases l.any (fun v=>!vN x l v) <;> rfl
theorem Me(hl:l.length≤1048576){r:List ab}(hr:r.length≤2):mq l r=some (!r.any (fun a=>aT (sH (oH a) l) 0)):=by
 have:=eh (B:=fun s=>gi l r s) (l:=r) (by omega) (fun a=>aT (sH (oH a) l) 0) (y:=(.inr false:Unit⊕Bool)) (N:=.inl ()) (fun i a h=>by
  show gi l r i=_;unfold gi;rw[cB h,wQ hl,ai,gP h (by omega),zn]) (by
  show gi l r r.length=_;unfold gi;rw[bW])
 unfold mq;rw[bY this];cases r.any (fun a=>aT (sH (oH a) l) 0) <;> rfl
theorem OB{a b:Int}:aT a b=!bZ a b:=by rw[Bool.eq_iff_iff];simp
theorem Zg(hx:cD x)(hl:l.length≤1048576)(ho:l.any (fun v=>!Pw x v)=false):qQ x l=some (!l.any (fun v=>!vN x l v)):=by
 have:=eh (B:=fun s=>gV x l s) hl (fun v=>!vN x l v) (y:=(.inr false:Unit⊕Bool)) (N:=.inl ()) (fun i a h=>by
  obtain⟨h0,h1⟩:=rP ho (List.mem_of_getElem? h);show gV x l i=_;unfold gV;have hv:=u0 (x:=x) (o:=a.aL);rw[cB h,IS hx h0 h1,ai,wQ (by omega),ai,Me hl hv,ai,gP h hl]
  rw[OB,m7];have hP:vN x l a=((gN x a.aL).any (oH a)&&M9 l (gN x a.aL)):=rfl;generalize vN x l a=P at hP ⊢;cases Qiz:(gN x a.aL).any (oH a)with
  |false=>rw[Qiz]at hP;subst hP;rfl
  |true =>
   rw[Qiz,Bool.true_and]at hP;rw[Bool.not_true,cL];cases Le:gN x a.aL with
   |nil=>rw[Le]at hP;subst hP;rfl
   |cons c r =>
    cases r with
    |nil =>
     rw[Le]at hP;rw[List.any_cons,List.any_nil,Bool.or_false,OB,Bool.not_not,←show P=bZ (sH (oH c) l) 0 from hP];cases P <;> rfl
    |cons d r =>
     obtain⟨rfl,sR⟩:=Ps Le;rw[Le]at hP;rw[List.any_cons,List.any_cons,List.any_nil,Bool.or_false];show br _ (br true (aS (some c) fun x2=>aS (fi l x2) fun r3=>aS (some d) fun x3=>aS (fi l x3) fun r4=>br (cQ r3 r4) _ _) _) _=_
     rw[dc,ai,wQ hl,ai,ai,wQ hl,ai];simp only[M9]at hP;have hc:=WU (p:=oH c) (l:=l);have hd:=WU (p:=oH d) (l:=l);have hcd:0≤sH (oH c) l→sH (oH c) l≠sH (oH d) l:=fun h0 he=>by
      obtain⟨k,hk⟩:∃k:Nat,sH (oH c) l=k:=⟨(sH (oH c) l).toNat,by omega⟩
      have e1:=(Jq hk).1;have e2:=(Jq (he.symm.trans hk)).1;rw[e1]at e2;exact sR (Option.some.inj e2)
     generalize sH (oH c) l=m at *;generalize sH (oH d) l=n at *;cases P with
     |true =>
      have hP':=hP.symm;simp only[Bool.and_eq_true,kP,fS]at hP';rw[bl (by simp;omega),a_ (by simp;omega)]
      rfl
     |false =>
      have hP':=hP.symm;simp only[Bool.and_eq_false_iff,Hk,jG]at hP';by_cases h1:0≤m∧0≤n
      ·have:=hcd h1.1;rw[bl (by simp;omega),bl (by simp;omega)]
       rfl
      ·rw[a_ (by simp;omega)]
       rfl) (by
  show gV x l l.length=_;unfold gV;rw[bW])
 unfold qQ;rw[bY this];cases l.any (fun v=>!vN x l v) <;> rfl
end
section
variable {x : ae} {l : List ab}
theorem QfO(hl:l.length≤1048576)(o:Int):dQ l o=some (sH (Q0 o) l):=by
 have:=vo hl (Q0 o) (fun k=>(.inr (k:Int):Unit⊕Int)) (N:=.inl ()) (B:=fun s=>cw l o s) (fun i a h=>by
  show cw l o i=_;unfold cw yN;rw[cB h,ai,gP h hl,zn];rfl) (by
  show cw l o l.length=_;unfold cw;rw[bW])
 unfold dQ;rw[bY this];unfold sH;cases Lg (Q0 o) l <;> rfl
theorem YJ(hl:l.length≤1048576)(o:Int):dG l o=some (sH (Q0 o) l):=by
 have:=vo hl (Q0 o) (fun k=>(.inr (k:Int):Unit⊕Int)) (N:=.inl ()) (B:=fun s=>cb l o s) (fun i a h=>by
  show cb l o i=_;unfold cb uu;rw[cB h,ai,gP h hl,zn];rfl) (by
  show cb l o l.length=_;unfold cb;rw[bW])
 unfold dG;rw[bY this];unfold sH;cases Lg (Q0 o) l <;> rfl
theorem R8(hl:l.length≤1048576)(o:Int):q8 l o=some (fx l o):=by
 unfold q8 eK;rw[QfO hl,ai,ai,m7];rfl
theorem YK(hl:l.length≤1048576):dt l x=some (l.any fun v=>!Pw x v):=by
 have:=vo hl (fun v=>!Pw x v) (fun k=>(.inr (k:Int):Unit⊕Int)) (N:=.inl ()) (B:=fun s=>cp l x s) (fun i a h=>by
  show cp l x i=_;unfold cp vq;rw[cB h,ai,gP h hl,zn];rw[show(aT a.aL 0||bZ a.aL (aC x.ah))=!Pw x a by
   unfold Pw aC;rw[Bool.eq_iff_iff];simp]) (by
  show cp l x l.length=_;unfold cp;rw[bW])
 have e:dJ l x=some (sH (fun v=>!Pw x v) l):=by
  unfold dJ;rw[bY this];unfold sH;cases Lg (fun v=>!Pw x v) l <;> rfl
 unfold dt;rw[e,ai,m7]
theorem R4{v:ab}(h0:0≤v.aL)(h1:v.aL<x.ah.length):∃o,bq x.ah v.aL=some o∧o∈x.ah∧LC x v=o.off∧x.ah[v.aL.toNat]?=some o:=by
 have e:x.ah[v.aL.toNat]?=some (x.ah[v.aL.toNat]'(by omega)):=List.getElem?_eq_getElem _
 refine⟨_,Dg h0 h1,List.getElem_mem _,?_,e⟩;unfold LC;rw[e]
theorem YL(hl:l.length≤1048576)(ho:l.any (fun v=>!Pw x v)=false):du l x=some (l.any (LC x)):=by
 have:=vo hl (LC x) (fun k=>(.inr (k:Int):Unit⊕Int)) (N:=.inl ()) (B:=fun s=>cq l x s) (fun i a h=>by
  obtain⟨h0,h1⟩:=rP ho (List.mem_of_getElem? h);obtain⟨o,g1,g2,g3,_⟩:=R4 h0 h1;show cq l x i=_;unfold cq vr;rw[cB h,g1,ai,ai,gP h hl,zn,g3]) (by
  show cq l x l.length=_;unfold cq;rw[bW])
 have e:dK l x=some (sH (LC x) l):=by
  unfold dK;rw[bY this];unfold sH;cases Lg (LC x) l <;> rfl
 unfold du;rw[e,ai,m7]
theorem Qbl(hl:l.length≤1048576)(p:aI):tI l p.x0 p.x1=some (!IW l p):=by
 unfold tI;rw[YJ hl,ai,R8 hl,ai];unfold IW;have hh:fx l p.x1=bZ (sH (Q0 p.x1) l) 0:=m7.symm;rw[hh];unfold Ml sH;cases h:Lg (Q0 p.x1) l with
 |none=>rfl
 |some k =>
  have hk:=(xI h).1;simp only;rw[a_ (by simp),show vw l (k:Int) (aC l)=some (l.drop k) by
   unfold vw aC;rw[if_pos (by omega)];congr 1;rw[List.take_of_length_le];· rfl
   ·simp]
  rw[ai,R8 (by simp;omega),ai,show bZ (k:Int) 0=true by simp]
  cases fx l p.x0 <;> cases fx (l.drop k) p.x0 <;> rfl
theorem ND{r:ay}(hx:cD x)(hl:r.ar.length≤1048576):sr x r=some (Kk x r.ar):=by
 unfold sr Kk;by_cases h0:r.ar.length=0
 ·rw[bl (by simp [aC,h0]),if_pos h0]
 rw[a_ (by simp only[aC,xC];omega),if_neg h0,YK hl,ai]
 by_cases h1:r.ar.any (fun v=>!Pw x v)=true
 ·rw[bl h1,if_pos h1]
 have h1':r.ar.any (fun v=>!Pw x v)=false:=by simpa using h1
 rw[a_ h1',if_neg h1,YL hl h1',ai];by_cases h2:r.ar.any (LC x)=true
 ·rw[bl h2,if_pos h2]
 rw[a_ (by simpa using h2),if_neg h2,Qhm hl,ai]
 by_cases h3:¬r.ar.Nodup
 ·rw[bl (decide_eq_true h3),if_pos h3]
 rw[a_ (decide_eq_false h3),if_neg h3,Qei hx hl h1',ai];by_cases h4:r.ar.any (fun v=>!vN x r.ar v)=true
 ·rw[a_ (by rw[h4];rfl),if_pos h4]
 rw[bl (by simpa using h4),if_neg h4]
 have ha:=hx.db;have hb:=hx.before;rw[bY (eh (B:=fun s=>kk x r s) (l:=x.db) (by omega) (wM r.ar) (y:=(.inr 20:Unit⊕Int)) (N:=.inl ()) (fun i a h=>by
  show kk x r i=_;unfold kk;rw[cB h,R8 hl,ai,R8 hl,ai,gP h (by omega)]
  unfold wM;cases fx r.ar a.x0 <;> cases fx r.ar a.x1 <;> rfl) (by
  show kk x r x.db.length=_;unfold kk;rw[bW]))]
 by_cases h5:x.db.any (wM r.ar)=true
 ·rw[if_pos h5,if_pos h5];rfl
 rw[if_neg h5,if_neg h5,en];rw[bY (eh (B:=fun s=>ko x r s) (l:=x.before) (by omega) (IW r.ar) (y:=(.inr 21:Unit⊕Int)) (N:=.inl ()) (fun i a h=>by
  show ko x r i=_;unfold ko;rw[cB h,Qbl hl,ai,gP h (by omega)]
  cases IW r.ar a <;> rfl) (by
  show ko x r x.before.length=_;unfold ko;rw[bW]))]
 by_cases h6:x.before.any (IW r.ar)=true
 ·rw[if_pos h6,if_pos h6];rfl
 ·rw[if_neg h6,if_neg h6];rfl
theorem SV{m:Nat}(hm:m<9223372036854775808){i:Int}(h0:0≤i)(h1:i≤62):js (m:Int) i=some (m.testBit i.toNat):=by
 obtain⟨k,rfl⟩:∃k:Nat,i=k:=⟨i.toNat,by omega⟩
 unfold js;rw[bl (by simp;omega),QmZ (by omega),ch (by omega),Qhg (by omega),RV]
 rfl
structure Hi (l:List ab) (s:Int):Prop where
 ex:∃m:Nat,s=m∧m<1024∧∀i:Nat,m.testBit i=fx l (i:Int)
theorem Zd{r:ay}(hx:cD x)(hl:r.ar.length≤1048576)(ho:r.ar.any (fun v=>!Pw x v)=false):post (lW r) fun s=>s.2=0∧Hi r.ar s.1:=by
 have QdW:=hx.ah;unfold lW;refine tW ?_
 refine fj (fun s=>∃(k m:Nat),s=((m:Int),(k:Int))∧k≤r.ar.length∧m<1024∧∀i:Nat,m.testBit i=fx (r.ar.take k) (i:Int)) (fun s=>r.ar.length-s.2.toNat) ⟨0,0,rfl,Nat.zero_le _,by omega,fun i=>by simp [fx]⟩ (by simp;omega) ?_
 rintro _ ⟨k,m,rfl,hk,hm,hb⟩;show post (nv r (m:Int) (k:Int)) _;unfold nv;rcases Nat.lt_or_ge k r.ar.length with h|h
 ·have e:r.ar[k]?=some r.ar[k]:=List.getElem?_eq_getElem h;have ry:=rP ho (List.getElem_mem h);have htk:r.ar.take (k+1)=r.ar.take k++[r.ar[k]]:=by rw[List.take_add_one,e];rfl
  generalize r.ar[k]=v at e ry htk;obtain⟨n,hn⟩:∃n:Nat,v.aL=n:=⟨v.aL.toNat,by omega⟩
  have hov:∀i:Nat,fx (r.ar.take (k+1)) (i:Int)=(fx (r.ar.take k) (i:Int)||decide (n=i)):=fun i=>by
   rw[htk];unfold fx;rw[List.any_append,List.any_cons,List.any_nil,Bool.or_false];congr 1;rw[Bool.eq_iff_iff,Hn,hn,decide_eq_true_iff];omega
  rw[cB e,a_ (by rw[hn];simp;omega),SV (by omega) (by omega) (by omega),ai,gP e hl,hn]
  simp only[Int.toNat_natCast];refine bA (fun h1=>fO ⟨⟨k+1,m,rfl,h,hm,fun i=>?_⟩,by simp;omega⟩) (fun h1=>?_)
  ·rw[hov,←hb];by_cases hi:n=i
   ·subst hi;rw[h1];rfl
   ·rw[decide_eq_false hi,Bool.or_false]
  ·rw[QmZ (by omega),ch (by omega),Qmi (by omega)]
   have h2:2 ^ n≤2 ^ 9:=Nat.pow_le_pow_right (by omega) (by omega)
   have h3:(0:Int)≤((2 ^ n:Nat):Int)∧((2 ^ n:Nat):Int)≤512:=⟨Int.natCast_nonneg _,Int.ofNat_le.2 (show 2 ^ n≤512 by omega)⟩
   rw[ig (by omega) (by omega)]
   have QdJ:∀i,(m+2 ^ n).testBit i=fx (r.ar.take (k+1)) (i:Int):=fun i=>by rw[Qh1 h1,hov,hb]
   refine fO ⟨⟨k+1,m+2 ^ n,by simp,h,?_,QdJ⟩,by simp;omega⟩
   refine Nat.lt_pow_two_of_testBit (n:=10) _ fun i hi=>?_
   rw[QdJ];rw[Bool.eq_false_iff];intro hh;obtain⟨w,hw,hwi⟩:=wO.1 hh;have:=rP ho (List.mem_of_mem_take hw);omega
 ·obtain rfl:k=r.ar.length:=by omega
  rw[bW];refine ef ?_
  rw[en];exact bg.2 ⟨rfl,⟨m,rfl,hm,fun i=>by rw[hb,List.take_length]⟩⟩
theorem Hi.has{s:Int}(h:Hi l s){i:Int}(h0:0≤i)(h1:i≤62):js s i=some (fx l i):=by
 obtain⟨m,rfl,hm,hb⟩:=h.ex;rw[SV (by omega) h0 h1,hb,Int.toNat_of_nonneg h0]
theorem Qah(hx:cD x){s:Int}(h:Hi l s):rT x s=some (!x.db.any (wM l)):=by
 have ha:=hx.db;have QdW:=hx.ah;have:=eh (B:=fun i=>iQ x s i) (l:=x.db) (by omega) (wM l) (y:=(.inr false:Unit⊕Bool)) (N:=.inl ()) (fun i a ha'=>by
  obtain⟨p0,p1,p2,p3,p4⟩:=hx.Qai a (List.mem_of_getElem? ha');show iQ x s i=_;unfold iQ;rw[cB ha',h.has p0 (by omega),ai,h.has p2 (by omega),ai,gP ha' (by omega)]
  unfold wM;cases fx l a.x0 <;> cases fx l a.x1 <;> rfl) (by
  show iQ x s x.db.length=_;unfold iQ;rw[bW])
 unfold rT;rw[bY this];cases x.db.any (wM l) <;> rfl
theorem QgB{p:aI}(sR:p.x0≠p.x1)(hb:fx l p.x1=true):Ml l p=true↔∃j,j<l.length∧∃k,k<j∧(∃v,l[j]?=some v∧v.aL=p.x0)∧∃w,l[k]?=some w∧w.aL=p.x1:=by
 unfold Ml;cases h:Lg (Q0 p.x1) l with
 |none =>
  obtain⟨w,hw,he⟩:=wO.1 hb;have:=Ok h w hw;rw[Hn.2 he]at this;cases this
 |some m =>
  obtain⟨g1,g2,g3⟩:=xI h;simp only;rw[wO];constructor
  ·rintro⟨v,hv,he⟩;obtain⟨q,hq,rfl⟩:=List.getElem_of_mem hv;rw[List.length_drop]at hq;rw[List.getElem_drop]at he;have hmq:q≠0:=fun h0=>by subst h0;exact sR (he.symm.trans (Hn.1 (by simpa using g2)))
   exact⟨m+q,by omega,m,by omega,⟨_,List.getElem?_eq_getElem (by omega),he⟩,⟨_,List.getElem?_eq_getElem g1,Hn.1 g2⟩⟩
  ·rintro⟨j,hj,k,hk,⟨v,hv,he⟩,⟨w,hw,hwe⟩⟩;have hmk:m≤k:=Nat.le_of_not_lt fun mj=>by
    have:=g3 k mj;rw[List.getElem?_eq_getElem (show k<l.length by omega)]at hw
    rw[Option.some.inj hw,Hn.2 hwe]at this;cases this
   exact⟨v,List.mem_iff_getElem?.2 ⟨j-m,by rw[List.getElem?_drop,show m+(j-m)=j by omega,hv]⟩,he⟩
theorem Yc(hx:cD x)(hl:l.length≤1048576){s:Int}(h:Hi l s):qP x s l=some (!x.before.any (IW l)):=by
 have hbf:=hx.before;have QdW:=hx.ah;have:=eh (B:=fun i=>gS x s l i) (l:=x.before) (by omega) (IW l) (y:=(.inr false:Unit⊕Bool)) (N:=.inl ()) (fun i a ha'=>by
  obtain⟨p0,p1,p2,p3,p4⟩:=hx.KM a (List.mem_of_getElem? ha');show gS x s l i=_;unfold gS;rw[cB ha',h.has p2 (by omega),ai,h.has p0 (by omega),ai,gP ha' (by omega)]
  have hP:IW l a=(fx l a.x1&&(!fx l a.x0||Ml l a)):=rfl;generalize IW l a=P at hP ⊢;cases hb:fx l a.x1 with
  |false=>rw[hb]at hP;subst hP;rfl
  |true =>
   rw[hb]at hP;cases hq:fx l a.x0 with
   |false=>rw[hq]at hP;subst hP;rfl
   |true =>
    rw[hq]at hP;obtain rfl:P=Ml l a:=hP;have inner:aK (fun q=>gT x s l (i:Int) a q) 0=some (if Ml l a=true then .inr false else .inl ()):=by
     refine Kj hl (fun j=>(List.range j).any fun k=>match l[j]?,l[k]? with|some v,some w=>decide (v.aL=a.x0)&&decide (w.aL=a.x1)|_,_=>false) ?_ (fun j hj=>?_) ?_
     ·rw[QgB p4 hb];constructor
      ·rintro⟨j,hj,k,hk,⟨v,hv,e1⟩,⟨w,hw,e2⟩⟩;refine⟨j,hj,List.any_eq_true.2 ⟨k,List.mem_range.2 hk,?_⟩⟩;rw[hv,hw];simp [e1,e2]
      ·rintro⟨j,hj,hh⟩;obtain⟨k,hk,hm⟩:=List.any_eq_true.1 hh;rw[List.mem_range]at hk;rw[List.getElem?_eq_getElem hj,List.getElem?_eq_getElem (show k<l.length by omega)]at hm
       simp only[Bool.and_eq_true,decide_eq_true_iff]at hm;exact⟨j,hj,k,hk,⟨_,List.getElem?_eq_getElem hj,hm.1⟩,⟨_,List.getElem?_eq_getElem (show k<l.length by omega),hm.2⟩⟩
     ·have ej:l[j]?=some l[j]:=List.getElem?_eq_getElem hj;show gT x s l (i:Int) a j=_;unfold gT;rw[bl (by simp [aC];omega),inc hj hl]
      have in2:=Kj (B:=fun q=>gU x s l (i:Int) a (j:Int) q) (n:=j) (by omega) (fun k=>match l[j]?,l[k]? with|some v,some w=>decide (v.aL=a.x0)&&decide (w.aL=a.x1)|_,_=>false) (y:=(.inr false:Unit⊕Bool)) (N:=.inl ())
       (b:=(List.range j).any fun k=>match l[j]?,l[k]? with|some v,some w=>decide (v.aL=a.x0)&&decide (w.aL=a.x1)|_,_=>false) (by
        rw[List.any_eq_true];exact⟨fun⟨k,hk,hm⟩=>⟨k,List.mem_range.1 hk,hm⟩,fun⟨k,hk,hm⟩=>⟨k,List.mem_range.2 hk,hm⟩⟩) (fun k hk=>by
       have ek:l[k]?=some (l[k]'(by omega)):=List.getElem?_eq_getElem _
       show gU x s l (i:Int) a (j:Int) k=_;unfold gU;rw[bl (by simp;omega),bt ej,ai,bt ek,ai,inc (n:=l.length) (by omega) hl,ej,ek]
       simp only[zn,pJ,Bool.and_eq_true,decide_eq_true_iff];by_cases c1:(l[j]).aL=a.x0
       ·rw[if_pos c1];by_cases c2:(l[k]'(by omega)).aL=a.x1
        ·rw[if_pos c2,if_pos ⟨c1,c2⟩]
        ·rw[if_neg c2,if_neg fun h=>c2 h.2]
       ·rw[if_neg c1,if_neg fun h=>c1 h.1]) (by
       show gU x s l (i:Int) a (j:Int) j=_;unfold gU;rw[a_ (by simp)])
      rw[bY in2];split <;> rfl
     ·show gT x s l (i:Int) a l.length=_;unfold gT;rw[a_ (by simp [aC])]
    rw[dc,dc,bY inner];cases Ml l a <;> rfl) (by
  show gS x s l x.before.length=_;unfold gS;rw[bW])
 unfold qP;rw[bY this];cases x.before.any (IW l) <;> rfl
theorem Sd{r:ay}(hx:cD x)(hl:r.ar.length≤1048576):pg x r=some (Kk x r.ar):=by
 unfold pg Kk;rw[bY (eh (B:=fun s=>iM x r s) hl (fun v=>!Pw x v) (y:=(.inr 2:Unit⊕Int)) (N:=.inl ()) (fun i a h=>by
  show iM x r i=_;unfold iM;rw[cB h,gP h hl];have hP:(!Pw x a)=(aT a.aL 0||bZ a.aL (aC x.ah)):=by
   unfold Pw aC;rw[Bool.eq_iff_iff];simp
  rw[hP];cases aT a.aL 0 <;> cases bZ a.aL (aC x.ah) <;> rfl) (by
  show iM x r r.ar.length=_;unfold iM;rw[bW]))]
 by_cases h1:r.ar.any (fun v=>!Pw x v)=true
 ·rw[if_pos h1,q7];split <;> rfl
 have h1':r.ar.any (fun v=>!Pw x v)=false:=by simpa using h1
 rw[if_neg h1,if_neg h1,en];obtain⟨s,hs,Z4,P0⟩:=Zd hx hl h1';rw[hs,ai,Z4];by_cases h0:r.ar.length=0
 ·rw[bl (by simp [aC,h0]),if_pos h0]
 rw[a_ (by simp only[aC,cA,Ql,xC];simp;intro h;exact h0 (by rw[h];rfl)),if_neg h0]
 rw[bY (eh (B:=fun q=>iN x r s q) hl (LC x) (y:=(.inr 9:Unit⊕Int)) (N:=.inl ()) (fun i a h=>by
  obtain⟨h0,h1⟩:=rP h1' (List.mem_of_getElem? h);obtain⟨o,g1,g2,g3,_⟩:=R4 h0 h1;show iN x r s i=_;unfold iN;rw[cB h,g1,ai,gP h hl,zn,g3]) (by
  show iN x r s r.ar.length=_;unfold iN;rw[bW]))]
 by_cases h2:r.ar.any (LC x)=true
 ·rw[if_pos h2,if_pos h2];rfl
 rw[if_neg h2,if_neg h2,en];rw[bY (Kj (B:=fun q=>iO x r s q) hl (fun k=>match r.ar[k]? with|some v=>cA (sH (oH v) r.ar) (k:Int)|none=>false) (y:=(.inr 6:Unit⊕Int)) (N:=.inl ()) (b:=decide (¬r.ar.Nodup)) (by
  rw[decide_eq_true_iff,nodup_iff];constructor
  ·rintro⟨k,hk,j,hj,he⟩;refine⟨k,hk,?_⟩;rw[List.getElem?_eq_getElem hk]at he ⊢;simp only[wk];intro h;exact(Jq h).2 j hj he
  ·rintro⟨k,hk,h⟩;rw[List.getElem?_eq_getElem hk]at h;simp only[wk]at h;have h0:=S5.2 (List.getElem_mem hk);obtain⟨m,hm⟩:∃m:Nat,sH (oH r.ar[k]) r.ar=m:=⟨(sH (oH r.ar[k]) r.ar).toNat,by omega⟩
   obtain⟨g1,g2⟩:=Jq hm;have hmk:m<k:=by
    rcases Nat.lt_trichotomy m k with h'|h'|h'
    ·exact h'
    ·exact absurd (by rw[hm,h']) h
    ·exact absurd (List.getElem?_eq_getElem hk) (g2 k h')
   exact⟨k,hk,m,hmk,by rw[g1,List.getElem?_eq_getElem hk]⟩) (fun i hi=>by
  have h:r.ar[i]?=some r.ar[i]:=List.getElem?_eq_getElem hi;show iO x r s i=_;unfold iO;rw[cB h,wQ hl,ai,gP h hl,zn,h]) (by
  show iO x r s r.ar.length=_;unfold iO;rw[bW]))]
 by_cases h3:¬r.ar.Nodup
 ·rw[if_pos (decide_eq_true h3),if_pos h3];rfl
 rw[if_neg (by rw[decide_eq_false h3];decide),if_neg h3,en,Zg hx hl h1',ai]
 by_cases h4:r.ar.any (fun v=>!vN x r.ar v)=true
 ·rw[a_ (by rw[h4];rfl),if_pos h4]
 rw[bl (by simpa using h4),if_neg h4,Qah hx P0,ai]
 by_cases h5:x.db.any (wM r.ar)=true
 ·rw[a_ (by rw[h5];rfl),if_pos h5]
 rw[bl (by simpa using h5),if_neg h5,Yc hx hl P0,ai]
 by_cases h6:x.before.any (IW r.ar)=true
 ·rw[a_ (by rw[h6];rfl),if_pos h6]
 ·rw[bl (by simpa using h6),if_neg h6]
end
def uy:Nat→(Nat→Int)→Int
 |0,_=>0
 |n+1,f=>uy n f+f n
theorem Hc{f g:Nat→Int}:∀n,(∀i,i<n→f i=g i)→uy n f=uy n g
 |0,_=>rfl
 |n+1,h=>by unfold uy;rw[Hc n fun i hi=>h i (by omega),h n (by omega)]
theorem TS{f g:Nat→Int}{o:Nat}:∀n,o<n→(∀i,i≠o→g i=f i)→uy n g=uy n f+(g o-f o)
 |0,h,_=>by omega
 |n+1,h,hg=>by
  unfold uy;rcases Nat.lt_or_eq_of_le (Nat.le_of_lt_succ h)with h'|rfl
  ·rw[TS n h' hg,hg n (by omega)];omega
  ·rw[Hc _ fun i hi=>hg i (by omega)];omega
theorem V6{f:Nat→Int}{n:Nat}: ∀m,n≤m→(∀i,n≤i→f i = 0)→uy m f = uy n f
  | 0, h, _ => by obtain rfl : n = 0 := by omega
                  rfl
  | m + 1, h, hf => by
    rcases Nat.lt_or_eq_of_le h with h' |rfl
    · unfold uy;rw[V6 m (by omega) hf,hf m (by omega)]
      cases n <;> simp [uy]
    · rfl
theorem XC{f:Nat→Int}{c:Int}(hc:0≤c):∀n,(∀i,0≤f i∧f i≤c)→0≤uy n f∧uy n f≤n*c
 |0,_=>by simp [uy]
 |n+1,h=>by
  have h1:=XC hc n h;have h2:=h n;unfold uy;rw[show((n+1:Nat):Int)*c=n*c+c by rw[Int.natCast_add,Int.add_mul];simp]
  omega
def fC(D:Nat)(f:Nat→Int):List Int:=(List.range D).map f
theorem mh{D:Nat}{f:Nat→Int}:(fC D f).length=D:=by simp [fC]
theorem oG{D:Nat}{f:Nat→Int}{k:Nat}(h:k<D):(fC D f)[k]?=some (f k):=by simp [fC,h]
theorem rl{D:Nat}{f g:Nat→Int}(h:∀d,d<D→f d=g d):fC D f=fC D g:=by
 unfold fC;exact List.map_congr_left fun d hd=>h d (List.mem_range.1 hd)
theorem ZT{D:Nat}{f:Nat→Int}{k:Nat}{y:Int}(h:k<D):gZ (fC D f) (k:Int) y=fC D (fun d=>if d=k then y else f d):=by
 unfold gZ;refine List.ext_getElem? fun i=>?_
 rw[List.getElem?_set];simp only[Int.toNat_natCast,mh];split
 ·rename_i he;subst he;exact((oG (f:=fun d=>if d=k then y else f d) h).trans (by simp)).symm
 ·rename_i he;rcases Nat.lt_or_ge i D with h'|h'
  ·rw[oG h',oG h',if_neg (by omega)]
  ·rw[List.getElem?_eq_none (by rw[mh];omega),List.getElem?_eq_none (by rw[mh];omega)]
theorem QjM{l:List Int}:l=fC l.length (fun d=>l.getD d 0):=by
 refine List.ext_getElem? fun i=>?_
 rcases Nat.lt_or_ge i l.length with h|h
 ·rw[oG h,List.getElem?_eq_getElem h,List.getD_eq_getElem?_getD,List.getElem?_eq_getElem h];rfl
 ·rw[List.getElem?_eq_none h,List.getElem?_eq_none (by rw[mh];omega)]
theorem U0{D:Nat}{f g h:Nat→Int}(hD:D≤3){B:List Int×Int→Option ((List Int×Int)⊕(List Int))}
  (ry:∀(k:Nat) (l1:List Int),k<D→l1.length=D→B (l1,(k:Int))=some (.inl (gZ l1 k (h k),(k:Int)+1))) (xG:∀l1:List Int,B (l1,(D:Int))=some (.inr l1)):
  aK B (List.replicate D 0,0)=some (fC D h):=by
 have h0:(List.replicate D (0:Int),(0:Int))=(fC D (fun d=>if d<0 then h d else 0),((0:Nat):Int)):=by
  congr 1;refine List.ext_getElem? fun i=>?_
  rcases Nat.lt_or_ge i D with h|h
  ·rw[oG h];simp [h]
  ·rw[List.getElem?_eq_none (by simp;omega),List.getElem?_eq_none (by rw[mh];omega)]
 rw[h0];refine dj D (fun k=>(fC D (fun d=>if d<k then h d else 0),(k:Int))) (by omega) (fun k hk=>?_) ?_
 ·rw[ry k _ hk mh,ZT hk];simp only[Int.natCast_add,Int.cast_ofNat_Int];congr 3;refine rl fun d hd=>?_
  by_cases h1:d=k
  ·rw[if_pos h1,if_pos (by omega),h1]
  ·rw[if_neg h1];by_cases h2:d<k
   ·rw[if_pos h2,if_pos (by omega)]
   ·rw[if_neg h2,if_neg (by omega)]
 ·rw[xG];congr 2;exact rl fun d hd=>if_pos hd
theorem Qe7{D:Nat}{f g:Nat→Int}(hD:D≤3)(hf:∀d,d<D→-4000000000≤f d∧f d≤4000000000)(hg:∀d,d<D→-4000000000≤g d∧g d≤4000000000):BC (fC D f) (fC D g)=some (fC D (fun d=>f d+g d),0):=by
 unfold BC sT;rw[a_ (by simp [aC,mh])]
 have hm:KY (aC (fC D f)) (aC (fC D f)) 8 (0:Int)=some (List.replicate D 0):=by
  unfold KY aC;rw[mh,if_pos (by omega)]
  rfl
 rw[hm,ai];rw[bY (U0 (D:=D) (f:=f) (g:=g) (h:=fun d=>f d+g d) hD (B:=fun s=>gA (fC D f) (fC D g) (List.replicate D 0) s.1 s.2) (fun k l1 hk hl=>by
  have a1:=hf k hk;have a2:=hg k hk;show gA (fC D f) (fC D g) (List.replicate D 0) l1 k=_;unfold gA FZ;rw[cB (oG hk),bt (oG hk),ai,ai,QaD (by omega),ai,ig (by omega) (by omega),ig (by omega) (by omega)]) (fun l1=>by
  show gA (fC D f) (fC D g) (List.replicate D 0) l1 D=_;unfold gA;rw[a_ (by simp [aC,mh])]))]
 rfl
theorem QkM{D:Nat}{f g:Nat→Int}(hD:D≤3)(hf:∀d,d<D→-4000000000≤f d∧f d≤4000000000)(hg:∀d,d<D→-4000000000≤g d∧g d≤4000000000):EN (fC D f) (fC D g)=some (fC D (fun d=>f d-g d),0):=by
 unfold EN rB;rw[a_ (by simp [aC,mh])]
 have hm:KY (aC (fC D f)) (aC (fC D f)) 8 (0:Int)=some (List.replicate D 0):=by
  unfold KY aC;rw[mh,if_pos (by omega)]
  rfl
 rw[hm,ai];rw[bY (U0 (D:=D) (f:=f) (g:=g) (h:=fun d=>f d-g d) hD (B:=fun s=>ga (fC D f) (fC D g) (List.replicate D 0) s.1 s.2) (fun k l1 hk hl=>by
  have a1:=hf k hk;have a2:=hg k hk;show ga (fC D f) (fC D g) (List.replicate D 0) l1 k=_;unfold ga Di;rw[cB (oG hk),bt (oG hk),ai,ai,QaD (by omega),ai,v9 (by omega) (by omega),ig (by omega) (by omega)]) (fun l1=>by
  show ga (fC D f) (fC D g) (List.replicate D 0) l1 D=_;unfold ga;rw[a_ (by simp [aC,mh])]))]
 rfl
section
variable {x : ae} {l : List ab} {r : ay}
theorem Hi.Has{s:Int}(h:Hi l s){i:Int}(h0:0≤i)(h1:i≤62):su s i=some (fx l i):=by
 obtain⟨m,rfl,hm,hb⟩:=h.ex;obtain⟨k,rfl⟩:∃k:Nat,i=k:=⟨i.toNat,by omega⟩
 unfold su;rw[bl (by simp;omega),ch (by omega),Qhg (by omega)]
 have hd:=Nat.div_le_self m (2 ^ k);rw[show(1:Int)=((1:Nat):Int)from rfl,QkW (by omega) (by omega),Nat.and_one_is_mod,←hb,Nat.testBit_eq_decide_div_mod_eq]
 congr 1;generalize m / 2 ^ k=q;rw[Bool.eq_iff_iff,pJ,decide_eq_true_iff];omega
theorem QO(hx:cD x)(hl:r.ar.length≤1048576)(ho:r.ar.any (fun v=>!Pw x v)=false):post (qw r) fun s=>s.2=0∧Hi r.ar s.1:=by
 have QdW:=hx.ah;unfold qw;refine tW ?_
 refine fj (fun s=>∃(k m:Nat),s=((m:Int),(k:Int))∧k≤r.ar.length∧m<1024∧∀i:Nat,m.testBit i=fx (r.ar.take k) (i:Int)) (fun s=>r.ar.length-s.2.toNat) ⟨0,0,rfl,Nat.zero_le _,by omega,fun i=>by simp [fx]⟩ (by simp;omega) ?_
 rintro _ ⟨k,m,rfl,hk,hm,hb⟩;show post (p6 r (m:Int) (k:Int)) _;unfold p6;rcases Nat.lt_or_ge k r.ar.length with h|h
 ·have e:r.ar[k]?=some r.ar[k]:=List.getElem?_eq_getElem h;have ry:=rP ho (List.getElem_mem h);have htk:r.ar.take (k+1)=r.ar.take k++[r.ar[k]]:=by rw[List.take_add_one,e];rfl
  generalize r.ar[k]=v at e ry htk;obtain⟨n,hn⟩:∃n:Nat,v.aL=n:=⟨v.aL.toNat,by omega⟩
  have hov:∀i:Nat,fx (r.ar.take (k+1)) (i:Int)=(fx (r.ar.take k) (i:Int)||decide (n=i)):=fun i=>by
   rw[htk];unfold fx;rw[List.any_append,List.any_cons,List.any_nil,Bool.or_false];congr 1;rw[Bool.eq_iff_iff,Hn,hn,decide_eq_true_iff];omega
  have h2:2 ^ n≤2 ^ 9:=Nat.pow_le_pow_right (by omega) (by omega)
  rw[cB e,a_ (by rw[hn];simp;omega),ch (by omega),gP e hl,hn,Qmi (by omega),orN (by omega) (by omega)]
  have QdJ:∀i,(m |||2 ^ n).testBit i=fx (r.ar.take (k+1)) (i:Int):=fun i=>by rw[Nat.testBit_or,Nat.testBit_two_pow,hov,hb]
  refine fO ⟨⟨k+1,m |||2 ^ n,by simp,h,?_,QdJ⟩,by simp;omega⟩
  exact Nat.or_lt_two_pow (n:=10) hm (by omega)
 ·obtain rfl:k=r.ar.length:=by omega
  rw[bW];refine ef ?_
  rw[en];exact bg.2 ⟨rfl,⟨m,rfl,hm,fun i=>by rw[hb,List.take_length]⟩⟩
def Aw(l:List ab):Nat→List Int
 |0=>[]
 |n+1=>Aw l n++(if fx l (n:Int)=true then [(n:Int)]else [])
theorem Fk:∀n,(Aw l n).length≤n
 |0=>Nat.le_refl 0
 |n+1=>by have:=Fk n;unfold Aw;split <;> simp <;> omega
theorem FJ{s:Int}(h:Hi l s):s6 s=some (Aw l 63):=by
 unfold s6;have this:aK (fun q:List Int×Int=>kO s q.1 q.2) ([],0)=some (Aw l 63):=dj 63 (fun k=>(Aw l k,(k:Int))) (B:=fun q=>kO s q.1 q.2) (by omega) (fun k hk=>by
  show kO s (Aw l k) (k:Int)=_;have:=Fk (l:=l) k;unfold kO;rw[bl (by simp;omega),h.Has (by omega) (by omega),ai,ig (by omega) (by omega),ch (by unfold e_;simp;omega),zn]
  show _=some (Sum.inl (Aw l k++(if fx l (k:Int)=true then [(k:Int)]else []),((k+1:Nat):Int)))
  split <;> simp) (by
  show kO s (Aw l 63) ((63:Nat):Int)=_;unfold kO;rw[a_ (by decide)])
 rw[bY this]
end
def lH{α:Type}(f:α→Int)(l:List α):Int:=(l.map f).sum
theorem FF{α:Type}{f:α→Int}{a b:List α}:lH f (a++b)=lH f a+lH f b:=by simp [lH,List.sum_append]
theorem FG{α:Type}{f:α→Int}{a:α}:lH f [a]=f a:=by simp [lH]
theorem TR{α:Type}{f:α→Int}:lH f []=0:=rfl
theorem take_one{α:Type}{l:List α}{k:Nat}{a:α}(h:l[k]?=some a):l.take (k+1)=l.take k++[a]:=by rw[List.take_add_one,h];rfl
theorem V5{α:Type}{f:α→Int}{l:List α}{k:Nat}{a:α}(h:l[k]?=some a):lH f (l.take (k+1))=lH f (l.take k)+f a:=by rw[take_one h,FF,FG]
theorem XB{α:Type}{f:α→Int}:∀{l:List α},(∀a∈l,0≤f a∧f a≤1000)→0≤lH f l∧lH f l≤1000*l.length
 | [],_=>by simp [lH]
 |a ::l,h=>by
  have h1:=XB (f:=f) (l:=l) fun b hb=>h b (List.mem_cons_of_mem _ hb)
  have h2:=h a (List.mem_cons_self ..);have e:lH f (a ::l)=f a+lH f l:=by simp [lH]
  rw[e,List.length_cons];omega
section
variable (x : ae)
def sP(i d:Nat):Int:=match x.ah[i]? with
 |some o=>o.load.getD d 0
 |none=>0
def pk0(i:Nat):Bool:=match x.ah[i]? with
 |some o=>decide (o.pick.place<0)
 |none=>false
def Uw(l:List ab)(i:Nat):Bool:=l.foldl (fun b v=>if v.aL=(i:Int)then !v.drop else b) (pk0 x i)
def Ry(l:List ab)(k i d:Nat):Int:=if(fx l (i:Int)&&Uw x (l.take k) i)=true then sP x i d else 0
def sO(l:List ab)(k d:Nat):Int:=uy x.ah.length fun i=>Ry x l k i d
end
section
variable {x : ae} {l : List ab} {r : ay}
theorem Ti(hx:cD x){i:Nat}(hi:i<x.ah.length):∃o,x.ah[i]?=some o∧o∈x.ah∧o.load=fC (eN x.types) (sP x i)∧(∀d,0≤sP x i d∧sP x i d≤1000)∧pk0 x i=decide (o.pick.place<0):=by
 have e:x.ah[i]?=some x.ah[i]:=List.getElem?_eq_getElem hi;have hm:=List.getElem_mem hi;generalize x.ah[i]=o at e hm;have hO:=hx.ord o hm;refine⟨o,e,hm,?_,fun d=>?_,by unfold pk0;rw[e]⟩
 ·have:=QjM (l:=o.load);rw[hO.load]at this;rw[this];refine rl fun d hd=>?_
  unfold sP;rw[e]
 ·unfold sP;rw[e];simp only;rw[List.getD_eq_getElem?_getD];rcases Nat.lt_or_ge d o.load.length with h|h
  ·rw[List.getElem?_eq_getElem h];exact hO.Qn5 d h _ (List.getElem?_eq_getElem h)
  ·rw[List.getElem?_eq_none h];simp
theorem S8(hx:cD x)(i d:Nat):0≤sP x i d∧sP x i d≤1000:=by
 rcases Nat.lt_or_ge i x.ah.length with h|h
 ·obtain⟨o,_,_,_,h,_⟩:=Ti hx h;exact h d
 ·unfold sP;rw[List.getElem?_eq_none h];simp
theorem QgJ(hx:cD x)(k d:Nat):0≤sO x l k d∧sO x l k d≤10000:=by
 have h:=XC (f:=fun i=>Ry x l k i d) (c:=1000) (by omega) x.ah.length fun i=>by
  have:=S8 hx i d;unfold Ry;split <;> omega
 have:=hx.ah;unfold sO;omega
theorem RX(hx:cD x):1≤eN x.types∧eN x.types≤3:=by
 have h1:=hx.Qho;cases ht:x.types with
 |nil=>rw[ht]at h1;simp at h1
 |cons t ts =>
  have:=(hx.Sa t (by rw[ht];simp)).Qm0
  rw[ht]at this;exact this
structure pD (x:ae) (l:List ab):Prop where
 ne:l.length≠0
 Vo:l.any (fun v=>!Pw x v)=false
 off:l.any (LC x)=false
 nodup:l.Nodup
 pair:∀v∈l,vN x l v=true
 db:x.db.any (wM l)=false
 before:x.before.any (IW l)=false
theorem Pe(h:Kk x l=0):pD x l:=by
 unfold Kk at h;by_cases h0:l.length=0
 ·rw[if_pos h0]at h;cases h
 rw[if_neg h0]at h;by_cases h1:l.any (fun v=>!Pw x v)=true
 ·rw[if_pos h1]at h;cases h
 rw[if_neg h1]at h;by_cases h2:l.any (LC x)=true
 ·rw[if_pos h2]at h;cases h
 rw[if_neg h2]at h;by_cases h3:¬l.Nodup
 ·rw[if_pos h3]at h;cases h
 rw[if_neg h3]at h;by_cases h4:l.any (fun v=>!vN x l v)=true
 ·rw[if_pos h4]at h;cases h
 rw[if_neg h4]at h;by_cases h5:x.db.any (wM l)=true
 ·rw[if_pos h5]at h;cases h
 rw[if_neg h5]at h;by_cases h6:x.before.any (IW l)=true
 ·rw[if_pos h6]at h;cases h
 refine⟨h0,by simpa using h1,by simpa using h2,Classical.not_not.1 h3,fun v hv=>?_,by simpa using h5,by simpa using h6⟩
 have:=List.any_eq_false.1 (by simpa using h4:l.any (fun v=>!vN x l v)=false) v hv
 simpa using this
theorem KQ{b:Bool}{i:Nat}:∀{m:List ab},(∀v∈m,v.aL≠(i:Int))→m.foldl (fun b v=>if v.aL=(i:Int)then !v.drop else b) b=b
 | [],_=>rfl
 |v ::m,h=>by
  rw[List.foldl_cons,if_neg (h v (List.mem_cons_self ..))];exact KQ fun w hw=>h w (List.mem_cons_of_mem _ hw)
theorem SJ{c:Bool}{i:Nat}:∀{m:List ab} {b:Bool},(∀v∈m,v.aL=(i:Int)→v.drop=c)→(b=(!c)∨∃v∈m,v.aL=(i:Int))→m.foldl (fun b v=>if v.aL=(i:Int)then !v.drop else b) b=!c
 | [],b,_,h=>by
  rcases h with h|⟨v,hv,_⟩
  ·exact h
  ·cases hv
 |v ::m,b,h,h'=>by
  rw[List.foldl_cons];by_cases hv:v.aL=(i:Int)
  ·rw[if_pos hv];exact SJ (fun w hw=>h w (List.mem_cons_of_mem _ hw)) (.inl (by rw[h v (List.mem_cons_self ..) hv]))
  ·rw[if_neg hv];refine SJ (fun w hw=>h w (List.mem_cons_of_mem _ hw)) ?_
   rcases h' with h'|⟨w,hw,he⟩
   ·exact .inl h'
   ·rcases List.mem_cons.1 hw with rfl|hw
    ·exact absurd he hv
    ·exact .inr ⟨w,hw,he⟩
theorem OL{j k:Nat}(h:l.Nodup){v:ab}(hj:l[j]?=some v)(hk:l[k]?=some v):j=k:=by
 refine Classical.byContradiction fun sR=>?_
 have Vk:=(List.getElem?_eq_some_iff.1 hj).1;have wP:=(List.getElem?_eq_some_iff.1 hk).1;refine(nodup_iff.2 ?_) h;rcases Nat.lt_or_gt_of_ne sR with mj|mj
 ·exact⟨k,wP,j,mj,by rw[hj,hk]⟩
 ·exact⟨j,Vk,k,mj,by rw[hj,hk]⟩
theorem Qn9(hx:cD x)(h:pD x l){k:Nat}{v:ab}(hk:l[k]?=some v){i:Nat}(hi:v.aL=(i:Int)):Uw x (l.take k) i=v.drop:=by
 have hv:=List.mem_of_getElem? hk;have XQ:=(List.getElem?_eq_some_iff.1 hk).1;have ry:=rP h.Vo hv;obtain⟨o,e,hm,_,_,hp⟩:=Ti hx (show i<x.ah.length by omega)
 have hO:=hx.ord o hm
 -- each visit of V7 aL is one of V7 Qo1 ar
 have vis:∀w∈l,w.aL=(i:Int)→w∈gN x (i:Int)∧M9 l (gN x (i:Int))=true:=fun w hw he=>by
  have:=h.pair w hw;unfold vN at this;rw[he,Bool.and_eq_true,IU]at this;exact this
 have hvo:gN x (i:Int)=(if 0≤o.pick.place then [ab.mk i false]else [])++(if 0≤o.drop.place then [ab.mk i true]else []):=by
  unfold gN;rw[Int.toNat_natCast,e]
 have same:∀w∈l.take k,w.aL=(i:Int)→w≠v:=fun w hw _ he=>by
  obtain⟨j,hj,hje⟩:=(CC (by omega)).1 hw
  rw[he]at hje;have:=OL h.nodup hje hk;omega
 have RY:∀w:ab,w.aL=(i:Int)→w=ab.mk i w.drop:=fun w hw=>by cases w;simp at hw;subst hw;rfl
 obtain⟨v1,v2⟩:=vis v hv hi;unfold Uw;by_cases hpk:0≤o.pick.place
 ·have hp':pk0 x i=false:=by rw[hp];simp;omega
  rw[if_pos hpk]at hvo;by_cases hdr:0≤o.drop.place
  ·rw[if_pos hdr]at hvo;rw[hvo]at v2;simp only[List.cons_append,List.nil_append,M9,Bool.and_eq_true,kP,fS]at v2;obtain⟨p,hpp⟩:∃p:Nat,sH (oH (ab.mk i false)) l=p:=⟨(sH (oH (ab.mk i false)) l).toNat,by omega⟩
   obtain⟨q,hqq⟩:∃q:Nat,sH (oH (ab.mk i true)) l=q:=⟨(sH (oH (ab.mk i true)) l).toNat,by omega⟩
   obtain⟨p1,p2⟩:=Jq hpp;obtain⟨q1,q2⟩:=Jq hqq;have hpq:p<q:=by omega
   cases hd:v.drop with
   |false =>
    have hve:=RY v hi;rw[hd]at hve;have hkp:k=p:=OL h.nodup (hve▸hk) p1;rw[KQ fun w hw he=>?_,hp']
    have hwe:=RY w he;cases hwd:w.drop with
    |false=>rw[hwd]at hwe;exact same w hw he (hwe.trans hve.symm)
    |true =>
     rw[hwd]at hwe;obtain⟨j,hj,hje⟩:=(CC (by omega)).1 hw
     have:=OL h.nodup (hwe▸hje) q1;omega
   |true =>
    have hve:=RY v hi;rw[hd]at hve;have hkq:k=q:=OL h.nodup (hve▸hk) q1;refine SJ (c:=false) (fun w hw he=>?_) (.inr ⟨ab.mk i false,(CC (by omega)).2 ⟨p,by omega,p1⟩,rfl⟩)
    have hwe:=RY w he;cases hwd:w.drop with
    |false=>rfl
    |true=>rw[hwd]at hwe;exact absurd (hwe.trans hve.symm) (same w hw he)
  ·rw[if_neg hdr,List.append_nil]at hvo;have only:∀w∈l,w.aL=(i:Int)→w=ab.mk i false:=fun w hw he=>by
    have:=(vis w hw he).1;rw[hvo]at this;exact List.mem_singleton.1 this
   rw[KQ fun w hw he=>same w hw he ((only w (List.mem_of_mem_take hw) he).trans (only v hv hi).symm),hp',only v hv hi]
 ·have hp':pk0 x i=true:=by rw[hp];simp;omega
  rw[if_neg hpk,List.nil_append]at hvo;have only:∀w∈l,w.aL=(i:Int)→w=ab.mk i true:=fun w hw he=>by
   have:=(vis w hw he).1;rw[hvo]at this;split at this
   ·exact List.mem_singleton.1 this
   ·cases this
  rw[KQ fun w hw he=>same w hw he ((only w (List.mem_of_mem_take hw) he).trans (only v hv hi).symm),hp',only v hv hi]
theorem OO{k i:Nat}{v:ab}(hk:l[k]?=some v):Uw x (l.take (k+1)) i=if v.aL=(i:Int)then !v.drop else Uw x (l.take k) i:=by
 unfold Uw;rw[take_one hk,List.foldl_append];rfl
theorem QaY(hx:cD x)(h:pD x l){k:Nat}{v:ab}(hk:l[k]?=some v){i:Nat}(hi:v.aL=(i:Int))(d:Nat):
  sO x l (k+1) d=if v.drop=true then sO x l k d-sP x i d else sO x l k d+sP x i d:=by
 have ry:=rP h.Vo (List.mem_of_getElem? hk);unfold sO;rw[TS (f:=fun j=>Ry x l k j d) (g:=fun j=>Ry x l (k+1) j d) (o:=i) x.ah.length (by omega) (fun j hj=>by
  show Ry x l (k+1) j d=Ry x l k j d;have e1:Uw x (l.take (k+1)) j=Uw x (l.take k) j:=by rw[OO hk,if_neg (by omega)]
  unfold Ry;rw[e1])]
 have ha:fx l (i:Int)=true:=wO.2 ⟨v,List.mem_of_getElem? hk,hi⟩;simp only[Ry,ha,Bool.true_and];rw[OO hk,if_pos hi,Qn9 hx h hk hi];cases v.drop
 ·simp
 ·simp;omega
end
section
variable {x : ae} {l : List ab} {r : ay}
theorem Yu(hx:cD x):wN x.types=some (eN x.types:Int)∧tA x=some (eN x.types:Int):=by
 have h1:=hx.Qho;unfold wN tA;cases ht:x.types with
 |nil=>rw[ht]at h1;simp at h1
 |cons t ts =>
  constructor
  ·rw[a_ (by simp [aC];omega)];rfl
  ·rw[a_ (by simp [aC];omega)];rfl
theorem JZ{i:Int}:∀{n:Nat},i∈Aw l n→∃k:Nat,i=k∧k<n∧fx l (k:Int)=true
 |0,h=>by cases h
 |n+1,h=>by
  unfold Aw at h;rcases List.mem_append.1 h with h|h
  ·obtain⟨k,h1,h2,h3⟩:=JZ h;exact⟨k,h1,by omega,h3⟩
  ·split at h
   ·exact⟨n,List.mem_singleton.1 h,by omega,‹_›⟩
   ·cases h
theorem QaJ(h:pD x l){i:Int}(hi:fx l i=true):0≤i∧i<x.ah.length:=by
 obtain⟨v,hv,rfl⟩:=wO.1 hi;exact rP h.Vo hv
theorem Sr{α β:Type}{a:β}{y z:Option α}:br (cA (a,(0:Int)).2 0) y z=z:=rfl
def Xx(x:ae)(d:Nat)(i:Int):Int:=if pk0 x i.toNat=true then sP x i.toNat d else 0
theorem Qmk(hx:cD x)(d:Nat)(i:Int):0≤Xx x d i∧Xx x d i≤1000:=by
 have:=S8 hx i.toNat d;unfold Xx;split <;> omega
theorem Qc6(d:Nat):∀n,lH (Xx x d) (Aw l n)=uy n fun i=>if(fx l (i:Int)&&pk0 x i)=true then sP x i d else 0
 |0=>rfl
 |n+1=>by
  show lH (Xx x d) (Aw l n++(if fx l (n:Int)=true then [(n:Int)]else []))=uy n _+(if(fx l (n:Int)&&pk0 x n)=true then sP x n d else 0)
  rw[FF,Qc6 d n];by_cases hh:fx l (n:Int)=true
  ·rw[if_pos hh,FG,hh,Bool.true_and];rfl
  ·rw[if_neg hh,TR,if_neg (by simp [hh])]
theorem QeD(hx:cD x)(h:pD x l){s:Int}(hs:Hi l s):zT x s (eN x.types:Int)=some (fC (eN x.types) (sO x l 0)):=by
 obtain⟨hd1,hd3⟩:=RX hx;have QdW:=hx.ah;have hm:=Fk (l:=l) 63;unfold zT;have hz:KY (eN x.types:Int) (eN x.types:Int) 8 (0:Int)=some (fC (eN x.types) fun d=>0):=by
  unfold KY;rw[if_pos (by omega)]
  congr 1;refine List.ext_getElem? fun i=>?_
  rcases Nat.lt_or_ge i (eN x.types)with h|h
  ·rw[oG h];simp [h]
  ·rw[List.getElem?_eq_none (by simp;omega),List.getElem?_eq_none (by rw[mh];omega)]
 rw[hz,ai,FJ hs,ai];have tZ:∀i∈Aw l 63,∃k:Nat,i=k∧k<63∧fx l (k:Int)=true:=fun i hi=>JZ hi
 have QiP:∀d,lH (Xx x d) (Aw l 63)=uy 63 fun i=>if(fx l (i:Int)&&pk0 x i)=true then sP x i d else 0:=fun d=>Qc6 d 63
 generalize Aw l 63=M at *;have this:aK (fun q:List Int×Int=>lR x (fC (eN x.types) fun d=>0) M q.1 q.2) (fC (eN x.types) (fun d=>0),0)=some (fC (eN x.types) fun d=>lH (Xx x d) M):=by
  have:=dj M.length (fun k=>(fC (eN x.types) (fun d=>lH (Xx x d) (M.take k)),(k:Int))) (B:=fun q:List Int×Int=>lR x (fC (eN x.types) fun d=>0) M q.1 q.2) (e:=fC (eN x.types) fun d=>lH (Xx x d) M) (by omega) (fun k hk=>by
   have e:M[k]?=some M[k]:=List.getElem?_eq_getElem hk;obtain⟨i,hi,_,hh⟩:=tZ _ (List.getElem_mem hk);rw[hi]at e;have hil:=QaJ h hh;obtain⟨o,eo,hmo,ho,hb,hp⟩:=Ti hx (show i<x.ah.length by omega)
   show lR x (fC (eN x.types) fun d=>0) M (fC (eN x.types) (fun d=>lH (Xx x d) (M.take k))) (k:Int)=some (Sum.inl (fC (eN x.types) (fun d=>lH (Xx x d) (M.take (k+1))),((k+1:Nat):Int)))
   unfold lR;rw[cB e,bt eo,ai,gP e (by omega),ho]
   have step:∀d,lH (Xx x d) (M.take (k+1))=lH (Xx x d) (M.take k)+Xx x d (i:Int):=fun d=>V5 e
   have sb:∀d,0≤lH (Xx x d) (M.take k)∧lH (Xx x d) (M.take k)≤1000*(M.take k).length:=fun d=>XB fun a _=>Qmk hx d a
   have mj:(M.take k).length≤63:=by rw[List.length_take];omega
   have nr:∀d,Xx x d (i:Int)=if o.pick.place<0 then sP x i d else 0:=fun d=>by
    unfold Xx;rw[Int.toNat_natCast,hp];simp
   by_cases AK:o.pick.place<0
   ·rw[bl (by simpa using AK),Qe7 hd3 (fun d _=>by have:=sb d;omega) (fun d _=>by have:=hb d;omega),ai]
    congr 3;exact rl fun d _=>by rw[step,nr,if_pos AK]
   ·rw[a_ (by simp;omega)]
    congr 3;exact rl fun d _=>by rw[step,nr,if_neg AK];omega) (by
   show lR x (fC (eN x.types) fun d=>0) M (fC (eN x.types) (fun d=>lH (Xx x d) (M.take M.length))) (M.length:Int)=_
   unfold lR;rw[bW,List.take_length])
  exact this
 rw[bY this];congr 1;refine rl fun d _=>?_
 rw[QiP,V6 (n:=x.ah.length) 63 (by omega) fun i hi=>by
  rw[if_neg];intro hh;rw[Bool.and_eq_true]at hh;have:=QaJ h hh.1;omega]
 unfold sO Ry;rfl
def jc(x:ae)(l:List ab)(n:Nat):List (List Int):=(List.range n).map fun k=>fC (eN x.types) (sO x l k)
theorem MK{n:Nat}:(jc x l n).length=n:=by simp [jc]
theorem Q_{n:Nat}:jc x l (n+1)=jc x l n++[fC (eN x.types) (sO x l n)]:=by simp [jc,List.range_succ]
theorem Qfb(hx:cD x)(hl:r.ar.length≤1048576)(h:pD x r.ar)(h0:Kk x r.ar=0):zS x r=some (jc x r.ar (r.ar.length+1),0):=by
 obtain⟨hd1,hd3⟩:=RX hx;have QdW:=hx.ah;unfold zS;rw[ND hx hl,ai,h0,a_ (by decide)]
 obtain⟨s,hs,Z4,P0⟩:=QO hx hl h.Vo;rw[hs,ai,Z4,a_ (by decide),(Yu hx).1,ai,QeD hx h P0,ai]
 have this:aK (fun q:List (List Int)×List Int×Int=>lQ x r q.1 q.2.1 q.2.2) ([fC (eN x.types) (sO x r.ar 0)],fC (eN x.types) (sO x r.ar 0),0)=some (.inl (jc x r.ar (r.ar.length+1))):=by
  have:=dj r.ar.length (fun k=>(jc x r.ar (k+1),fC (eN x.types) (sO x r.ar k),(k:Int))) (B:=fun q:List (List Int)×List Int×Int=>lQ x r q.1 q.2.1 q.2.2) (e:=.inl (jc x r.ar (r.ar.length+1))) (by omega) (fun k hk=>by
   have e:r.ar[k]?=some r.ar[k]:=List.getElem?_eq_getElem hk;have ry:=rP h.Vo (List.getElem_mem hk);generalize r.ar[k]=v at e ry;obtain⟨i,hi⟩:∃i:Nat,v.aL=i:=⟨v.aL.toNat,by omega⟩
   obtain⟨o,eo,hmo,ho,hb,hp⟩:=Ti hx (show i<x.ah.length by omega)
   have nr:=QaY hx h e hi;have Vl:=fun d=>QgJ (l:=r.ar) hx k d
   show lQ x r (jc x r.ar (k+1)) (fC (eN x.types) (sO x r.ar k)) (k:Int)=some (Sum.inl (jc x r.ar (k+1+1),fC (eN x.types) (sO x r.ar (k+1)),((k+1:Nat):Int)));unfold lQ;have ok:e_ (jc x r.ar (k+1)++[fC (eN x.types) (sO x r.ar (k+1))]).length 24:=by unfold e_;simp [MK];omega
   rw[cB e,hi,bt eo,ai,ai,gP e hl,ho,Q_ (n:=k+1)];cases hd:v.drop with
   |true =>
    rw[dc,QkM hd3 (fun d _=>by have:=Vl d;omega) (fun d _=>by have:=hb d;omega),ai,Sr]
    have ev:fC (eN x.types) (fun d=>sO x r.ar k d-sP x i d)=fC (eN x.types) (sO x r.ar (k+1)):=rl fun d _=>by rw[nr,if_pos hd]
    simp only[ev];rw[ch ok];rfl
   |false =>
    rw[cL,Qe7 hd3 (fun d _=>by have:=Vl d;omega) (fun d _=>by have:=hb d;omega),ai,Sr]
    have ev:fC (eN x.types) (fun d=>sO x r.ar k d+sP x i d)=fC (eN x.types) (sO x r.ar (k+1)):=rl fun d _=>by rw[nr,if_neg (by rw[hd];decide)]
    simp only[ev];rw[ch ok];rfl) (by
   show lQ x r (jc x r.ar (r.ar.length+1)) (fC (eN x.types) (sO x r.ar r.ar.length)) (r.ar.length:Int)=_;unfold lQ;rw[bW])
  exact this
 rw[bY this];rfl
def XU(x:ae)(l:List ab)(n:Nat):Nat→List (List Int)
 |0=>[]
 |i+1=>XU x l n i++(if(Uw x (l.take n) i&&fx l (i:Int))=true then [fC (eN x.types) (sP x i)]else [])
theorem WW{n:Nat}:∀i,(XU x l n i).length≤i
 |0=>Nat.le_refl 0
 |i+1=>by have:=WW (n:=n) i;unfold XU;split <;> simp <;> omega
theorem WX{n:Nat}{a:List Int}:∀{i},a∈XU x l n i→∃j,a=fC (eN x.types) (sP x j)
 |0,h=>by cases h
 |i+1,h=>by
  unfold XU at h;rcases List.mem_append.1 h with h|h
  ·exact WX h
  ·split at h
   ·exact⟨i,List.mem_singleton.1 h⟩
   ·cases h
theorem QcA{n d:Nat}(hd:d<eN x.types):∀i,lH (fun a:List Int=>a.getD d 0) (XU x l n i)=uy i fun j=>Ry x l n j d
 |0=>rfl
 |i+1=>by
  show lH (fun a:List Int=>a.getD d 0) (XU x l n i++(if(Uw x (l.take n) i&&fx l (i:Int))=true then [fC (eN x.types) (sP x i)]else []))=uy i _+(if(fx l (i:Int)&&Uw x (l.take n) i)=true then sP x i d else 0)
  rw[FF,QcA hd i,Bool.and_comm];split
  ·rw[FG,List.getD_eq_getElem?_getD,oG hd];rfl
  ·rw[TR]
theorem Qhl{D:Nat}(hD:D≤3){m:List (List Int)}(hm:m.length≤1000)(hl:∀a∈m,a.length=D)(hb:∀a∈m,∀d,0≤a.getD d 0∧a.getD d 0≤1000):uL m (D:Int)=some (fC D fun d=>lH (fun a=>a.getD d 0) m,0):=by
 have even:tq m (D:Int)=some true:=by
  unfold tq;rw[a_ (by simp;omega),bY (eh (B:=fun s=>jk m (D:Int) s) (l:=m) (by omega) (fun a=>cA (aC a) (D:Int)) (y:=(.inr false:Unit⊕Bool)) (N:=.inl ()) (fun i a h=>by
   show jk m (D:Int) i=_;unfold jk;rw[cB h,gP h (by omega),zn]) (by
   show jk m (D:Int) m.length=_;unfold jk;rw[bW]))]
  rw[if_neg]
  ·rfl
  ·rw[List.any_eq_true];rintro⟨a,ha,h⟩;rw[wk,aC,hl a ha]at h;exact h rfl
 unfold uL;rw[even,ai,dc];have this:aK (fun q:List Int×Int=>iU m (D:Int) q.1 q.2) ([],0)=some (fC D fun d=>lH (fun a=>a.getD d 0) m):=by
  have:=dj D (fun k=>(fC k (fun d=>lH (fun a=>a.getD d 0) m),(k:Int))) (B:=fun q:List Int×Int=>iU m (D:Int) q.1 q.2) (e:=fC D fun d=>lH (fun a=>a.getD d 0) m) (by omega) (fun k hk=>by
   show iU m (D:Int) (fC k (fun d=>lH (fun a=>a.getD d 0) m)) (k:Int)=some (Sum.inl (fC (k+1) (fun d=>lH (fun a=>a.getD d 0) m),((k+1:Nat):Int)))
   unfold iU;rw[bl (by simp;omega)]
   have inner:aK (fun q:Int×Int=>iV m (D:Int) (fC k (fun d=>lH (fun a=>a.getD d 0) m)) (k:Int) q.1 q.2) (0,0)=some (lH (fun a=>a.getD k 0) m):=by
    have:=dj m.length (fun j=>(lH (fun a:List Int=>a.getD k 0) (m.take j),(j:Int))) (B:=fun q:Int×Int=>iV m (D:Int) (fC k (fun d=>lH (fun a=>a.getD d 0) m)) (k:Int) q.1 q.2) (e:=lH (fun a=>a.getD k 0) m) (by omega) (fun j hj=>by
     have e:m[j]?=some m[j]:=List.getElem?_eq_getElem hj;have hmj:=List.getElem_mem hj;generalize m[j]=a at e hmj;have ha:=hl a hmj;have hab:=hb a hmj k;have e2:a[k]?=some (a.getD k 0):=by rw[List.getD_eq_getElem?_getD,List.getElem?_eq_getElem (show k<a.length by omega)];rfl
     have sb:=XB (f:=fun a:List Int=>a.getD k 0) (l:=m.take j) fun c hc=>hb c (List.mem_of_mem_take hc) k
     have mj:(m.take j).length≤1000:=by rw[List.length_take];omega
     show iV m (D:Int) (fC k (fun d=>lH (fun a=>a.getD d 0) m)) (k:Int) (lH (fun a:List Int=>a.getD k 0) (m.take j)) (j:Int)=some (Sum.inl (lH (fun a:List Int=>a.getD k 0) (m.take (j+1)),((j+1:Nat):Int)))
     unfold iV;rw[cB e,bt e2,ai,gP e (by omega),ig (by omega) (by omega),V5 e]
     rfl) (by
     show iV m (D:Int) (fC k (fun d=>lH (fun a=>a.getD d 0) m)) (k:Int) (lH (fun a:List Int=>a.getD k 0) (m.take m.length)) (m.length:Int)=_
     unfold iV;rw[bW,List.take_length])
    exact this
   have ev:fC (k+1) (fun d=>lH (fun a:List Int=>a.getD d 0) m)=fC k (fun d=>lH (fun a:List Int=>a.getD d 0) m)++[lH (fun a:List Int=>a.getD k 0) m]:=by simp [fC,List.range_succ]
   rw[bY inner,ch (by unfold e_;simp [mh];omega),ig (by omega) (by omega),ev]
   rfl) (by
   show iU m (D:Int) (fC D (fun d=>lH (fun a=>a.getD d 0) m)) (D:Int)=_
   unfold iU;rw[a_ (by simp)])
  exact this
 rw[bY this]
theorem Qdj(hx:cD x)(hl:l.length≤1048576){n:Nat}(hn:n≤l.length):rX x l (n:Int)=some (fC (eN x.types) (sO x l n),0):=by
 obtain⟨hd1,hd3⟩:=RX hx;have QdW:=hx.ah;unfold rX;have this:aK (fun q:List (List Int)×Int=>gH x l (n:Int) q.1 q.2) ([],0)=some (XU x l n x.ah.length):=by
  have:=dj x.ah.length (fun k=>(XU x l n k,(k:Int))) (B:=fun q:List (List Int)×Int=>gH x l (n:Int) q.1 q.2) (e:=XU x l n x.ah.length) (by omega) (fun i hi=>by
   obtain⟨o,eo,hmo,ho,hb,hp⟩:=Ti hx hi;show gH x l (n:Int) (XU x l n i) (i:Int)=some (Sum.inl (XU x l n (i+1),((i+1:Nat):Int)));unfold gH;rw[cB eo];have inner:aK (fun q:Bool×Bool×Int=>gI x l (n:Int) (XU x l n i) (i:Int) q.1 q.2.1 q.2.2) (aT o.pick.place 0,false,0)=some (Uw x (l.take n) i,fx l (i:Int)):=by
    have:=dj l.length (fun k=>(Uw x (l.take (min k n)) i,fx (l.take k) (i:Int),(k:Int))) (B:=fun q:Bool×Bool×Int=>gI x l (n:Int) (XU x l n i) (i:Int) q.1 q.2.1 q.2.2) (e:=(Uw x (l.take n) i,fx l (i:Int))) (by omega) (fun k hk=>by
     have e:l[k]?=some l[k]:=List.getElem?_eq_getElem hk;generalize l[k]=v at e;show gI x l (n:Int) (XU x l n i) (i:Int) (Uw x (l.take (min k n)) i) (fx (l.take k) (i:Int)) (k:Int)=some (Sum.inl (Uw x (l.take (min (k+1) n)) i,fx (l.take (k+1)) (i:Int),((k+1:Nat):Int)));unfold gI;have hh:fx (l.take (k+1)) (i:Int)=(fx (l.take k) (i:Int)||Q0 (i:Int) v):=by rw[take_one e];simp [fx]
     rw[cB e,gP e hl,hh];by_cases hv:v.aL=(i:Int)
     ·rw[a_ (by simpa using hv),Hn.2 hv,Bool.or_true]
      by_cases hkn:k<n
      ·rw[bl (by simpa using hkn),show min (k+1) n=k+1 by omega,OO e,if_pos hv]
       rfl
      ·rw[a_ (by simp;omega),show min (k+1) n=min k n by omega]
       rfl
     ·have hvf:Q0 (i:Int) v=false:=by
       rw[Bool.eq_false_iff];exact fun h=>hv (Hn.1 h)
      rw[bl (by simpa using hv),hvf,Bool.or_false]
      by_cases hkn:k<n
      ·rw[show min (k+1) n=k+1 by omega,OO e,if_neg hv,show min k n=k by omega]
       rfl
      ·rw[show min (k+1) n=min k n by omega]
       rfl) (by
     show gI x l (n:Int) (XU x l n i) (i:Int) (Uw x (l.take (min l.length n)) i) (fx (l.take l.length) (i:Int)) (l.length:Int)=_;unfold gI;rw[bW,List.take_length,show min l.length n=n by omega])
    have h0:(Uw x (l.take (min 0 n)) i,fx (l.take 0) (i:Int),((0:Nat):Int))=(aT o.pick.place 0,false,0):=by
     rw[Nat.zero_min,List.take_zero];unfold Uw fx;rw[List.foldl_nil,hp];congr 1
    rw[←h0];exact this
   rw[bY inner];simp only;rw[bt eo,ai,ho,gP eo (by omega)]
   have hlen:=WW (x:=x) (l:=l) (n:=n) i;rw[ch (by unfold e_;simp;omega),zn]
   show _=some (Sum.inl (XU x l n i++(if(Uw x (l.take n) i&&fx l (i:Int))=true then [fC (eN x.types) (sP x i)]else []),((i+1:Nat):Int)))
   split <;> simp) (by
   show gH x l (n:Int) (XU x l n x.ah.length) (x.ah.length:Int)=_;unfold gH;rw[bW])
  exact this
 rw[bY this,(Yu hx).2,ai];have hlen:=WW (x:=x) (l:=l) (n:=n) x.ah.length;rw[Qhl hd3 (by omega) (fun a ha=>by obtain⟨j,rfl⟩:=WX ha;exact mh) (fun a ha d=>by
  obtain⟨j,rfl⟩:=WX ha;rw[List.getD_eq_getElem?_getD];rcases Nat.lt_or_ge d (eN x.types)with h|h
  ·rw[oG h];exact S8 hx j d
  ·rw[List.getElem?_eq_none (by rw[mh];omega)];simp),ai]
 congr 2;exact rl fun d hd=>QcA hd _
theorem Qaa(hx:cD x)(hl:r.ar.length≤1048576)(h0:Kk x r.ar=0):rV x r=some (jc x r.ar (r.ar.length+1),0):=by
 unfold rV;rw[Sd hx hl,ai,h0,a_ (by decide)]
 have this:aK (fun q:List (List Int)×Int=>gF x r q.1 q.2) ([],0)=some (.inl (jc x r.ar (r.ar.length+1))):=by
  have:=dj (r.ar.length+1) (fun k=>(jc x r.ar k,(k:Int))) (B:=fun q:List (List Int)×Int=>gF x r q.1 q.2) (e:=.inl (jc x r.ar (r.ar.length+1))) (by omega) (fun k hk=>by
   show gF x r (jc x r.ar k) (k:Int)=some (Sum.inl (jc x r.ar (k+1),((k+1:Nat):Int)));unfold gF;rw[bl (by simp [aC];omega),Qdj hx hl (by omega),ai,Sr,ch (by unfold e_;simp [MK];omega),ig (by omega) (by omega),Q_]
   rfl) (by
   show gF x r (jc x r.ar (r.ar.length+1)) ((r.ar.length+1:Nat):Int)=_;unfold gF;rw[a_ (by simp [aC];omega)])
  exact this
 rw[bY this];rfl
def Hr(cap a:List Int):Bool:=(List.range a.length).any fun i=>cQ (a.getD i 0) (cap.getD i 0)
theorem Qb1{a cap:List Int}(ha:a.length=cap.length)(hl:a.length≤1048576):BW a cap=some (!Hr cap a)∧tp a cap=some (!Hr cap a):=by
 have g:∀i,i<a.length→a[i]?=some (a.getD i 0)∧cap[i]?=some (cap.getD i 0):=fun i hi=>by
  rw[List.getD_eq_getElem?_getD,List.getD_eq_getElem?_getD,List.getElem?_eq_getElem hi,List.getElem?_eq_getElem (show i<cap.length by omega)]
  exact⟨rfl,rfl⟩
 have hb:Hr cap a=true↔∃k,k<a.length∧cQ (a.getD k 0) (cap.getD k 0)=true:=by
  unfold Hr;rw[List.any_eq_true];exact⟨fun⟨k,hk,h⟩=>⟨k,List.mem_range.1 hk,h⟩,fun⟨k,hk,h⟩=>⟨k,List.mem_range.2 hk,h⟩⟩
 constructor
 ·unfold BW;rw[a_ (by simp [aC,ha]),bY (Kj (B:=fun s=>o7 a cap s) hl (fun k=>cQ (a.getD k 0) (cap.getD k 0)) (y:=(.inr false:Unit⊕Bool)) (N:=.inl ()) hb (fun i hi=>by
   show o7 a cap i=_;unfold o7;rw[cB (g i hi).1,bt (g i hi).2,ai,inc hi hl,zn]) (by
   show o7 a cap a.length=_;unfold o7;rw[bW]))]
  cases Hr cap a <;> rfl
 ·unfold tp;rw[a_ (by simp [aC,ha]),bY (Kj (B:=fun s=>ji a cap s) hl (fun k=>cQ (a.getD k 0) (cap.getD k 0)) (y:=(.inr false:Unit⊕Bool)) (N:=.inl ()) hb (fun i hi=>by
   show ji a cap i=_;unfold ji;rw[cB (g i hi).1,bt (g i hi).2,ai,inc hi hl,zn]) (by
   show ji a cap a.length=_;unfold ji;rw[bW]))]
  cases Hr cap a <;> rfl
def YD(x:ae)(r:ay):Int:=if(jc x r.ar (r.ar.length+1)).any (Hr (bU x r).cap)=true then 17 else 0
theorem Nw(h0:0≤r.aR)(h1:r.aR<x.types.length):bq x.types r.aR=some (bU x r)∧bU x r∈x.types:=by
 have e:x.types[r.aR.toNat]?=some (x.types[r.aR.toNat]'(by omega)):=List.getElem?_eq_getElem _
 have ht:bU x r=x.types[r.aR.toNat]'(by omega):=by unfold bU;rw[List.getD_eq_getElem?_getD,e];rfl
 rw[ht];exact⟨Dg h0 h1,List.getElem_mem _⟩
theorem QbH(hx:cD x)(hl:r.ar.length≤1000000)(h0:Kk x r.ar=0)(ht:0≤r.aR∧r.aR<x.types.length):BN x r=some (YD x r)∧tz x r=some (YD x r):=by
 have h:=Pe h0;obtain⟨t1,t2⟩:=Nw ht.1 ht.2;have SX:=(hx.Sa _ t2).cap;have hd:=RX hx;have lens:∀a∈jc x r.ar (r.ar.length+1),a.length=(bU x r).cap.length:=fun a ha=>by
  obtain⟨k,_,rfl⟩:=List.mem_map.1 ha;rw[mh,SX]
 have hlen:=MK (x:=x) (l:=r.ar) (n:=r.ar.length+1);constructor
 ·unfold BN;rw[a_ (by simp [aC];omega),Qfb hx (by omega) h h0,ai,Sr]
  have:=vo (B:=fun s=>cR (jc x r.ar (r.ar.length+1)) x r s) (l:=jc x r.ar (r.ar.length+1)) (by omega) (Hr (bU x r).cap) (fun k=>(.inr (k:Int):Unit⊕Int)) (N:=.inl ()) (fun i a h=>by
   have hm:=lens a (List.mem_of_getElem? h);show cR (jc x r.ar (r.ar.length+1)) x r i=_;unfold cR Bf;rw[cB h,t1,ai,(Qb1 hm (by omega)).1,ai,ai,gP h (by omega),Bool.not_not,zn]) (by
   show cR (jc x r.ar (r.ar.length+1)) x r (jc x r.ar (r.ar.length+1)).length=_;unfold cR;rw[bW])
  have e:fg (jc x r.ar (r.ar.length+1)) x r=some (sH (Hr (bU x r).cap) (jc x r.ar (r.ar.length+1))):=by
   unfold fg;rw[bY this];unfold sH;cases Lg (Hr (bU x r).cap) (jc x r.ar (r.ar.length+1)) <;> rfl
  unfold fM;simp only;rw[e,ai,ai,m7,zn];rfl
 ·unfold tz;rw[a_ (by simp [aC];omega),Qaa hx (by omega) h0,ai,Sr]
  rw[bY (eh (B:=fun s=>jt x r (jc x r.ar (r.ar.length+1),0) s) (l:=jc x r.ar (r.ar.length+1)) (by omega) (Hr (bU x r).cap) (y:=(.inr 17:Unit⊕Int)) (N:=.inl ()) (fun i a h=>by
   have hm:=lens a (List.mem_of_getElem? h);show jt x r (jc x r.ar (r.ar.length+1),0) i=_;unfold jt;rw[cB h,t1,ai,(Qb1 hm (by omega)).2,ai,gP h (by omega)]
   cases Hr (bU x r).cap a <;> rfl) (by
   show jt x r (jc x r.ar (r.ar.length+1),0) (jc x r.ar (r.ar.length+1)).length=_;unfold jt;rw[bW]))]
  unfold YD;split <;> rfl
end
theorem QgS{m:List (Int×Int)}{k k' v z:Int}:pY bP (vh bP m k v) k' z=if k'=k then v else pY bP m k' z:=by
 induction m with
 |nil =>
  unfold vh pY pY;by_cases h:k'=k
  ·rw[if_pos h,show bP k' k=true by simpa using h];rfl
  ·rw[if_neg h,show bP k' k=false by simpa using h];rfl
 |cons p r ih =>
  unfold vh;cases hp:bP k p.1 with
  |true =>
   have hp':k=p.1:=by simpa using hp
   simp only[cond_true];unfold pY;by_cases h:k'=k
   ·rw[if_pos h,show bP k' k=true by simpa using h];rfl
   ·rw[if_neg h,show bP k' k=false by simpa using h,show bP k' p.1=false by rw[←hp'];simpa using h];rfl
  |false =>
   have hp':k≠p.1:=by simpa using hp
   simp only[cond_false];unfold pY;rw[ih];by_cases h:k'=k
   ·rw[if_pos h,show bP k' p.1=false by rw[h];exact hp,if_pos h];rfl
   ·rw[if_neg h,if_neg h]
section
variable {x : ae} {l : List ab} {r : ay} {s0 : aQ}
def MA(l:List ab)(o:Int):Int:=lH (fun v:ab=>if v.aL=o then 1 else 0) l
theorem Wu{o:Int}:0≤MA l o∧MA l o≤l.length∧(0<MA l o↔fx l o=true):=by
 induction l with
 |nil=>simp [MA,lH,fx]
 |cons v l ih =>
  have e:MA (v ::l) o=(if v.aL=o then 1 else 0)+MA l o:=by simp [MA,lH]
  have e2:fx (v ::l) o=(Q0 o v||fx l o):=by simp [fx]
  rw[e,e2,List.length_cons,Bool.or_eq_true,Hn];split
  ·rename_i h;refine⟨by omega,by omega,fun _=>.inl h,fun _=>by omega⟩
  ·rename_i h;refine⟨by omega,by omega,fun h'=>.inr (ih.2.2.1 (by omega)),fun h'=>?_⟩
   rcases h' with h'|h'
   ·exact absurd h' h
   ·have:=ih.2.2.2 h';omega
def RC(l:List ab):List (Int×Int):=l.foldl (fun m v=>vh bP m v.aL (aY .i64 (pY bP m v.aL 0) 1)) []
theorem VC{v:ab}:RC (l++[v])=vh bP (RC l) v.aL (aY .i64 (pY bP (RC l) v.aL 0) 1):=by simp [RC]
theorem QgT{l:List ab}(hl:l.length≤1048576)(o:Int):pY bP (RC l) o 0=MA l o:=by
 have main:∀k,k≤l.length→pY bP (RC (l.take k)) o 0=MA (l.take k) o:=by
  intro k hk;induction k generalizing o with
  |zero=>rfl
  |succ k ih =>
   have e:l[k]?=some l[k]:=List.getElem?_eq_getElem (by omega)
   generalize l[k]=v at e;rw[take_one e,VC,QgS];have e2:MA (l.take k++[v]) o=MA (l.take k) o+(if v.aL=o then 1 else 0):=by unfold MA;rw[FF,FG]
   have hb:=(Wu (l:=l.take k) (o:=v.aL)).2.1;have hb0:=(Wu (l:=l.take k) (o:=v.aL)).1;have hlen:(l.take k).length≤k:=by rw[List.length_take];omega
   rw[e2,ih v.aL (by omega),ih o (by omega),ig (by omega) (by omega)]
   by_cases h:o=v.aL
   ·rw[if_pos h,if_pos h.symm,h]
   ·rw[if_neg h,if_neg fun h'=>h h'.symm];omega
 have:=main l.length (Nat.le_refl _);rwa [List.take_length]at this
def Jf(kind own:Int):Bool:=cA kind (-1)&&cA kind own
def Mz(b:Bool):Int:=if b=true then 1 else 0
def fT(x:ae)(r:ay):Nat→Int×Int
 |0=>(0,0)
 |k+1=>match r.ar[k]? with
  |none=>fT x r k
  |some v=>match(if 0≤v.aL then x.ah[v.aL.toNat]? else none)with
   |none=>fT x r k
   |some o=>if fx (r.ar.take k) v.aL=true then fT x r k else((fT x r k).1+Mz (Jf o.now r.aR),(fT x r k).2+Mz (Jf o.bI r.aR))
theorem QbP{b:Bool}:0≤Mz b∧Mz b≤1:=by cases b <;> simp [Mz]
theorem Tl:∀k,(0≤(fT x r k).1∧(fT x r k).1≤k)∧(0≤(fT x r k).2∧(fT x r k).2≤k)
 |0=>by simp [fT]
 |k+1=>by
  have ih:=Tl k;unfold fT;split
  ·omega
  ·split
   ·omega
   ·rename_i o _;have h1:=QbP (b:=Jf o.now r.aR);have h2:=QbP (b:=Jf o.bI r.aR);split
    ·omega
    ·simp only;omega
def ZC(x:ae)(r:ay)(s0:aQ):bJ:=
 bJ.mk (aY .i64 (aY .i64 (bU x r).pK (m_ .i64 (bU x r).ia s0.cT)) (m_ .i64 (bU x r).ib (dZ .i64 s0.lE (bU x r).bm))) (fT x r r.ar.length).1 (fT x r r.ar.length).2 (m_ .i64 (uw .i64 (dZ .i64 s0.lE (bU x r).bm) 64) (uw .i64 (dZ .i64 s0.lE (bU x r).bm) 64))
theorem X4(hx:cD x)(hl:r.ar.length≤1048576)(ht:0≤r.aR∧r.aR<x.types.length):Ai x r s0=some (ZC x r s0):=by
 obtain⟨t1,t2⟩:=Nw ht.1 ht.2;have dN:=hx.ah;unfold Ai;rw[a_ (by simp [aC];omega),t1,ai]
 have this:aK (fun q:List (Int×Int)×Int×Int×Int=>l_ x r s0 (bU x r) q.1 q.2.1 q.2.2.1 q.2.2.2) ([],0,0,0)=some (fT x r r.ar.length):=by
  have:=dj r.ar.length (fun k=>(RC (r.ar.take k),(fT x r k).1,(fT x r k).2,(k:Int))) (B:=fun q:List (Int×Int)×Int×Int×Int=>l_ x r s0 (bU x r) q.1 q.2.1 q.2.2.1 q.2.2.2) (e:=fT x r r.ar.length) (by omega) (fun k hk=>by
   have e:r.ar[k]?=some r.ar[k]:=List.getElem?_eq_getElem hk;generalize r.ar[k]=v at e;show l_ x r s0 (bU x r) (RC (r.ar.take k)) (fT x r k).1 (fT x r k).2 (k:Int)=some (Sum.inl (RC (r.ar.take (k+1)),(fT x r (k+1)).1,(fT x r (k+1)).2,((k+1:Nat):Int)));unfold l_ uT wy;rw[cB e,←VC,←take_one e,gP e hl];have hlen:(r.ar.take k).length≤1048576:=by rw[List.length_take];omega
   have Qny:(r.ar.take (k+1)).length≤1048576:=by rw[List.length_take];omega
   have hp:=Tl (x:=x) (r:=r) k;have hg:cQ (pY bP (RC (r.ar.take (k+1))) v.aL 0) 1=fx (r.ar.take k) v.aL:=by
    rw[QgT Qny,take_one e];have e2:MA (r.ar.take k++[v]) v.aL=MA (r.ar.take k) v.aL+1:=by unfold MA;rw[FF,FG,if_pos rfl]
    have:=(Wu (l:=r.ar.take k) (o:=v.aL)).2.2;rw[e2,Bool.eq_iff_iff,qi,←this];omega
   rw[hg];show _=some (Sum.inl (RC (r.ar.take (k+1)),(fT x r (k+1)).1,(fT x r (k+1)).2,(k:Int)+1));have hP:fT x r (k+1)=match(if 0≤v.aL then x.ah[v.aL.toNat]? else none)with
    |none=>fT x r k
    |some o=>if fx (r.ar.take k) v.aL=true then fT x r k else((fT x r k).1+Mz (Jf o.now r.aR),(fT x r k).2+Mz (Jf o.bI r.aR)):=by
    show(match r.ar[k]? with
     |none=>fT x r k
     |some v=>match(if 0≤v.aL then x.ah[v.aL.toNat]? else none)with
      |none=>fT x r k
      |some o=>if fx (r.ar.take k) v.aL=true then fT x r k else((fT x r k).1+Mz (Jf o.now r.aR),(fT x r k).2+Mz (Jf o.bI r.aR)))=_
    rw[e]
   rw[hP];by_cases ry:0≤v.aL∧v.aL<x.ah.length
   ·rw[a_ (by simp [aC];omega),if_pos ry.1]
    have eo:x.ah[v.aL.toNat]?=some (x.ah[v.aL.toNat]'(by omega)):=List.getElem?_eq_getElem _
    generalize x.ah[v.aL.toNat]'(by omega)=o at eo
    have eg:bq x.ah v.aL=some o:=by unfold bq;rw[if_pos ry.1,eo]
    rw[eo,eg];simp only[ai];cases fx (r.ar.take k) v.aL with
    |true=>rfl
    |false =>
     rw[cL,if_neg (by decide),show(cA o.now (-1)&&cA o.now r.aR)=Jf o.now r.aR from rfl,show(cA o.bI (-1)&&cA o.bI r.aR)=Jf o.bI r.aR from rfl,ig (by omega) (by omega),ig (by omega) (by omega)]
     generalize fT x r k=p;cases Jf o.now r.aR <;> cases Jf o.bI r.aR <;> simp [Mz]
   ·rw[bl (by simp [aC];omega)]
    have:(if 0≤v.aL then x.ah[v.aL.toNat]? else none)=none:=by
     split
     ·exact List.getElem?_eq_none (by omega)
     ·rfl
    rw[this]) (by
   show l_ x r s0 (bU x r) (RC (r.ar.take r.ar.length)) (fT x r r.ar.length).1 (fT x r r.ar.length).2 (r.ar.length:Int)=_;unfold l_;rw[bW])
  exact this
 rw[bY this];rfl
theorem Qdr(hl:l.length≤1048576){k:Nat}{v:ab}(e:l[k]?=some v):qU l (k:Int)=some (!fx (l.take k) v.aL):=by
 have hk:=(List.getElem?_eq_some_iff.1 e).1;have:=Kj (B:=fun q=>gW l (k:Int) q) (n:=k) (by omega) (fun j=>match l[j]? with|some w=>bP w.aL v.aL|none=>false) (y:=(.inr false:Unit⊕Bool)) (N:=.inl ()) (b:=fx (l.take k) v.aL) (by
  rw[wO];constructor
  ·rintro⟨w,hw,he⟩;obtain⟨j,hj,hje⟩:=(CC (by omega)).1 hw
   exact⟨j,hj,by rw[hje];simpa using he⟩
  ·rintro⟨j,hj,h⟩;rw[List.getElem?_eq_getElem (show j<l.length by omega)]at h
   exact⟨_,(CC (by omega)).2 ⟨j,hj,List.getElem?_eq_getElem (by omega)⟩,by simpa using h⟩) (fun j hj=>by
  have ej:l[j]?=some (l[j]'(by omega)):=List.getElem?_eq_getElem _
  show gW l (k:Int) j=_;unfold gW;rw[bl (by simp;omega),bt ej,ai,bt e,ai,gP ej hl,zn,ej]) (by
  show gW l (k:Int) k=_;unfold gW;rw[a_ (by simp)])
 unfold qU;rw[bY this];cases fx (l.take k) v.aL <;> rfl
theorem Qad(hx:cD x)(hl:r.ar.length≤1048576)(ht:0≤r.aR∧r.aR<x.types.length):rZ x r s0=some (ZC x r s0):=by
 obtain⟨t1,t2⟩:=Nw ht.1 ht.2;have dN:=hx.ah;unfold rZ;rw[a_ (by simp [aC];omega),t1,ai]
 have this:aK (fun q:Int×Int×Int=>gJ x r s0 (bU x r) q.1 q.2.1 q.2.2) (0,0,0)=some (fT x r r.ar.length):=by
  have:=dj r.ar.length (fun k=>((fT x r k).1,(fT x r k).2,(k:Int))) (B:=fun q:Int×Int×Int=>gJ x r s0 (bU x r) q.1 q.2.1 q.2.2) (e:=fT x r r.ar.length) (by omega) (fun k hk=>by
   have e:r.ar[k]?=some r.ar[k]:=List.getElem?_eq_getElem hk;generalize r.ar[k]=v at e;show gJ x r s0 (bU x r) (fT x r k).1 (fT x r k).2 (k:Int)=some (Sum.inl ((fT x r (k+1)).1,(fT x r (k+1)).2,((k+1:Nat):Int)));unfold gJ od;rw[cB e,gP e hl,Qdr hl e];have hp:=Tl (x:=x) (r:=r) k;show _=some (Sum.inl ((fT x r (k+1)).1,(fT x r (k+1)).2,(k:Int)+1));have hP:fT x r (k+1)=match(if 0≤v.aL then x.ah[v.aL.toNat]? else none)with
    |none=>fT x r k
    |some o=>if fx (r.ar.take k) v.aL=true then fT x r k else((fT x r k).1+Mz (Jf o.now r.aR),(fT x r k).2+Mz (Jf o.bI r.aR)):=by
    show(match r.ar[k]? with
     |none=>fT x r k
     |some v=>match(if 0≤v.aL then x.ah[v.aL.toNat]? else none)with
      |none=>fT x r k
      |some o=>if fx (r.ar.take k) v.aL=true then fT x r k else((fT x r k).1+Mz (Jf o.now r.aR),(fT x r k).2+Mz (Jf o.bI r.aR)))=_
    rw[e]
   rw[hP];by_cases ry:0≤v.aL∧v.aL<x.ah.length
   ·rw[a_ (by simp [aC];omega),if_pos ry.1]
    have eo:x.ah[v.aL.toNat]?=some (x.ah[v.aL.toNat]'(by omega)):=List.getElem?_eq_getElem _
    generalize x.ah[v.aL.toNat]'(by omega)=o at eo
    have eg:bq x.ah v.aL=some o:=by unfold bq;rw[if_pos ry.1,eo]
    rw[eo,eg];simp only[ai];cases fx (r.ar.take k) v.aL with
    |true=>rfl
    |false =>
     rw[Bool.not_false,dc,if_neg (by decide),ig (by omega) (by omega),ig (by omega) (by omega)]
     generalize fT x r k=p;unfold Jf;cases cA o.now (-1) <;> cases cA o.now r.aR <;> cases cA o.bI (-1) <;> cases cA o.bI r.aR <;> simp [Mz]
   ·rw[bl (by simp [aC];omega)]
    have:(if 0≤v.aL then x.ah[v.aL.toNat]? else none)=none:=by
     split
     ·exact List.getElem?_eq_none (by omega)
     ·rfl
    rw[this]) (by
   show gJ x r s0 (bU x r) (fT x r r.ar.length).1 (fT x r r.ar.length).2 (r.ar.length:Int)=_;unfold gJ;rw[bW])
  exact this
 rw[bY this];rfl
end
theorem Qdi(s:bJ):∃w,yH s=some w∧qT s=some w:=by
 unfold yH qT DH vg;simp only[ai];cases h1:aT s.iq 0 with
 |true=>exact⟨_,rfl,rfl⟩
 |false =>
  cases h2:aT s.ee 0 with
  |true=>exact⟨_,rfl,rfl⟩
  |false =>
   cases h3:aT s.eQ 0 with
   |true=>exact⟨_,rfl,rfl⟩
   |false =>
    cases h4:aT s.C9 0 with
    |true=>exact⟨_,rfl,rfl⟩
    |false =>
     have e:(((((((bZ s.iq 0&&jD s.iq 1073741824)&&bZ s.ee 0)&&jD s.ee 15)&&bZ s.eQ 0)&&jD s.eQ 15)&&bZ s.C9 0)&&jD s.C9 65535)=!(((cQ s.iq 1073741824||bZ s.ee 16)||bZ s.eQ 16)||bZ s.C9 65536):=by
      simp only[jG]at h1 h2 h3 h4;rw[Bool.eq_iff_iff];simp only[Bool.and_eq_true,kP,ui,Bool.not_eq_true',Bool.or_eq_false_iff,nq,Hk];omega
     rw[e];simp only[cL];cases((cQ s.iq 1073741824||bZ s.ee 16)||bZ s.eQ 16)||bZ s.C9 65536
     ·exact⟨_,rfl,rfl⟩
     ·exact⟨_,rfl,rfl⟩
theorem OM:∀(n:Nat) (l:List Nat),l.Nodup→(∀a∈l,a<n)→l.length≤n
 |0,l,_,h=>by
  cases l with
  |nil=>simp
  |cons a r=>exact absurd (h a (by simp)) (by omega)
 |n+1,l,hd,h=>by
  by_cases hm:n∈l
  ·have h1:=OM n (l.erase n) (hd.erase n) fun a ha=>by
    have h2:=(hd.mem_erase_iff).1 ha;have:=h a h2.2;omega
   rw[List.length_erase_of_mem hm]at h1;omega
  ·have:=OM n l hd fun a ha=>by
    have:=h a ha;have:a≠n:=fun e=>hm (e▸ha)
    omega
   omega
section
variable {x : ae} {l : List ab} {r : ay}
theorem pD.short(hx:cD x)(h:pD x l):l.length≤20:=by
 have dN:=hx.ah;have hm:(l.map fun v:ab=>2*v.aL.toNat+(if v.drop=true then 1 else 0)).Nodup:=by
  unfold List.Nodup;rw[List.pairwise_map];refine h.nodup.imp_of_mem fun{a b} ha hb sR he=>sR ?_
  have h1:=rP h.Vo ha;have h2:=rP h.Vo hb;cases a with
  |mk ao ad =>
   cases b with
   |mk bo bd =>
    simp only at h1 h2 he;have hd:ad=bd∧ao=bo:=by
     cases ad <;> cases bd <;> simp at he ⊢ <;> omega
    rw[hd.1,hd.2]
 have:=OM 20 _ hm fun a ha=>by
  obtain⟨v,hv,rfl⟩:=List.mem_map.1 ha;have h1:=rP h.Vo hv;split <;> omega
 simpa using this
def zM(t:ag)(bD:Int):Bool:=(rb t bD).getD false
def p7(x:ae)(r:ay)(v:ab):Bool:=match x.ah[v.aL.toNat]? with
 |some o=>zM (bU x r) o.bD
 |none=>false
theorem Wh(hx:cD x)(ht:0≤r.aR∧r.aR<x.types.length){v:ab}(hv:0≤v.aL∧v.aL<x.ah.length):∃o,bq x.ah v.aL=some o∧rb (bU x r) o.bD=some (p7 x r v)∧nS (bU x r) o.bD=some (p7 x r v)∧x.ah[v.aL.toNat]?=some o:=by
 obtain⟨o,g1,g2,_,g4⟩:=R4 (x:=x) hv.1 hv.2;obtain⟨b,b1,b2⟩:=Qfj (t:=bU x r) (hx.Sa _ (Nw ht.1 ht.2).2).bD (hx.ord o g2).bD;have:p7 x r v=b:=by unfold p7 zM;rw[g4];simp only;rw[b1];rfl
 exact⟨o,g1,by rw[this,b1],by rw[this,b2],g4⟩
def TY:bJ:=bJ.mk 0 0 0 0
theorem Qds(hx:cD x)(hR:mM r)(h9:¬(9<r.ar.length∧r.ar.length≤20)):
  ∃A,zp x r=some A∧qp x r=some A∧A.1.je.length≤1048576∧(A.2≠0→A.1=ud)∧
   (A.2=0→(rq x r=true∧r.aP.length≤r.ar.length+1)∧∃b,y3 x.bG (bU x r) (bh x r) r.aH r.aP b∧Uu x.bG (bU x r) (bh x r) r.aH r.aP b∧A.1=(pL x.bG (bU x r) (bh x r) r.aH b).dD):=by
 obtain⟨A,hA,pA⟩:=UQ hx hR h9;obtain⟨B,hB,pB⟩:=UA hx hR h9;have hv:=hR.ar;have hr:=hR.aP;have key:A=B∧A.1.je.length≤1048576∧(A.2≠0→A.1=ud)∧(A.2=0→(rq x r=true∧r.aP.length≤r.ar.length+1)∧∃b,y3 x.bG (bU x r) (bh x r) r.aH r.aP b∧Uu x.bG (bU x r) (bh x r) r.aH r.aP b∧A.1=(pL x.bG (bU x r) (bh x r) r.aH b).dD):=by
  rcases pA with⟨a1,a2⟩|⟨a1,a2⟩
  ·rcases pB with⟨_,b2⟩|⟨b1,_⟩
   ·rw[a2,b2];exact⟨rfl,Nat.zero_le _,fun _=>rfl,fun h=>by cases h⟩
   ·exact absurd b1 a1
  ·rcases pB with⟨b1,_⟩|⟨_,b2⟩
   ·exact absurd a1 b1
   ·rcases a2 with⟨a,fa,ma,ea⟩|⟨na,ea⟩
    ·rcases b2 with⟨b,fb,mb,eb⟩|⟨nb,eb⟩
     ·have hab:=Y6 fa fb ma mb;rw[ea,eb,hab];refine⟨rfl,?_,fun h=>absurd rfl h,fun _=>⟨a1,b,fb,mb,rfl⟩⟩
      have h1:=QgE (n:=x.bG) (t:=bU x r) (aG:=bh x r) (aH:=r.aH) (b:=b);have h2:=fb.1;rw[tX]at h2;have:=(of_decide_eq_true (wx a1.1)).2.2.2.2;show(pL x.bG (bU x r) (bh x r) r.aH b).dD.je.length≤_;omega
     ·exact absurd fa (nb a)
    ·rcases b2 with⟨b,fb,mb,eb⟩|⟨nb,eb⟩
     ·exact absurd fb (na b)
     ·rw[ea,eb];have WO:¬okB x.bG (bU x r) (bh x r) r.aH (r.aP++List.replicate (r.ar.length+1-r.aP.length) false):=fun mA=>by
       refine na _ ⟨?_,?_,mA⟩
       ·rw[tX,List.length_append,List.length_replicate];omega
       ·rw[←FP];exact YG
      obtain⟨n1,n2⟩:=Pa WO;refine⟨rfl,?_,fun _=>by rw[n2],fun h=>absurd h n1⟩
      rw[n2];exact Nat.zero_le _
 exact⟨A,hA,by rw[key.1];exact hB,key.2.1,key.2.2.1,key.2.2.2⟩
structure Qdf (x:ae) (r:ay) (s:aQ) (b:List Bool):Prop where
 aR:0≤r.aR∧r.aR<x.types.length
 seq:Kk x r.ar=0
 Qh0:∀v∈r.ar,p7 x r v=true
 fits:YD x r=0
 Qek:rq x r=true
 aP:r.aP.length≤r.ar.length+1
 full:y3 x.bG (bU x r) (bh x r) r.aH r.aP b
 min:Uu x.bG (bU x r) (bh x r) r.aH r.aP b
 dD:s=(pL x.bG (bU x r) (bh x r) r.aH b).dD
theorem QbZ(hx:cD x)(hR:mM r)(h9:¬(9<r.ar.length∧r.ar.length≤20)):
  ∃E,me x r=some E∧kb x r=some E∧E.1.je.length≤1048576∧(E.2.2≠0→E.1=ud∧E.2.1=TY)∧(E.2.2=0→E.2.1=ZC x r E.1∧∃b,Qdf x r E.1 b):=by
 have hv:=hR.ar;unfold me kb;by_cases ht:0≤r.aR∧r.aR<x.types.length
 ·rw[a_ (by simp [aC];omega),a_ (by simp [aC];omega),ND hx hv,ai,Sd hx hv,ai]
  by_cases hs:Kk x r.ar=0
  ·have hq:=Pe hs;have va:=hq.short hx;rw[a_ (by simpa using hs),a_ (by simpa using hs)]
   have a1:wY x r=some (if r.ar.any (fun v=>!p7 x r v)=true then 18 else 0):=by
    unfold wY;rw[bY (eh (B:=fun s=>iu x r s) hv (fun v=>!p7 x r v) (y:=(.inr 18:Unit⊕Int)) (N:=.inl ()) (fun i a h=>by
     obtain⟨o,g1,g2,g3,_⟩:=Wh (r:=r) hx ht (rP hq.Vo (List.mem_of_getElem? h));show iu x r i=_;unfold iu;rw[cB h,(Nw ht.1 ht.2).1,ai,g1,ai,g2,ai,gP h hv];cases p7 x r a <;> rfl) (by
     show iu x r r.ar.length=_;unfold iu;rw[bW]))]
    split <;> rfl
   have a2:aK (fun s=>fG x r s) 0=some (if r.ar.any (fun v=>!p7 x r v)=true then .inr (ud,TY,18)else .inl ()):=
    eh (B:=fun s=>fG x r s) hv (fun v=>!p7 x r v) (y:=(.inr (ud,TY,18):Unit⊕(aQ×bJ×Int))) (N:=.inl ()) (fun i a h=>by
     obtain⟨o,g1,g2,g3,_⟩:=Wh (r:=r) hx ht (rP hq.Vo (List.mem_of_getElem? h));show fG x r i=_;unfold fG;have mj:=(List.getElem?_eq_some_iff.1 h).1;rw[bl (by simp [aC];omega),(Nw ht.1 ht.2).1,ai,bt h,ai,g1,ai,g3,ai,gP h hv]
     cases p7 x r a <;> rfl) (by
     show fG x r r.ar.length=_;unfold fG;rw[a_ (by simp [aC])])
   rw[a1,ai,a2,ai];by_cases hab:r.ar.any (fun v=>!p7 x r v)=true
   ·rw[if_pos hab,if_pos hab,bl (by decide),q7]
    exact⟨_,rfl,rfl,Nat.zero_le _,fun _=>⟨rfl,rfl⟩,fun h=>by cases h⟩
   ·rw[if_neg hab,if_neg hab,a_ (by decide),en]
    obtain⟨f1,f2⟩:=QbH (r:=r) hx (by omega) hs ht
    rw[f1,ai,f2,ai];by_cases hf:YD x r=0
    ·rw[a_ (by simpa using hf),a_ (by simpa using hf)]
     obtain⟨A,hA,hB,QZ,hz,Og⟩:=Qds hx hR h9;rw[hA,ai,hB,ai];by_cases hA2:A.2=0
     ·rw[a_ (by simpa using hA2),a_ (by simpa using hA2),X4 hx hv ht,ai,Qad hx hv ht,ai]
      obtain⟨⟨p1,p2⟩,b,fb,mb,eb⟩:=Og hA2;refine⟨_,rfl,rfl,QZ,fun h=>absurd rfl h,fun _=>⟨rfl,b,ht,hs,fun v R2=>?_,hf,p1,p2,fb,mb,eb⟩⟩
      have:=List.any_eq_false.1 (by simpa using hab:r.ar.any (fun v=>!p7 x r v)=false) v R2
      simpa using this
     ·rw[bl (by simpa using hA2),bl (by simpa using hA2)]
      exact⟨_,rfl,rfl,Nat.zero_le _,fun _=>⟨rfl,rfl⟩,fun h=>absurd h hA2⟩
    ·rw[bl (by simpa using hf),bl (by simpa using hf)]
     exact⟨_,rfl,rfl,Nat.zero_le _,fun _=>⟨rfl,rfl⟩,fun h=>absurd h hf⟩
  ·rw[bl (by simpa using hs),bl (by simpa using hs)]
   exact⟨_,rfl,rfl,Nat.zero_le _,fun _=>⟨rfl,rfl⟩,fun h=>absurd h hs⟩
 ·rw[bl (by simp [aC];omega),bl (by simp [aC];omega)]
  exact⟨_,rfl,rfl,Nat.zero_le _,fun _=>⟨rfl,rfl⟩,fun h=>by cases h⟩
theorem Qac(hx:cD x)(hR:mM r)(h9:¬(9<r.ar.length∧r.ar.length≤20)):∃w,lu x r=some w∧ph x r=some w:=by
 obtain⟨E,e1,e2,e3,e4,e5⟩:=QbZ hx hR h9;obtain⟨w,w1,w2⟩:=Qdi E.2.1;unfold lu ph;rw[e1,ai,e2,ai,w1,ai,w2,ai,zn];exact⟨_,rfl,rfl⟩
end
inductive Pth (bf:List aI):Int→Int→Prop where
 |one {p:aI} (h:p∈bf):Pth bf p.x0 p.x1
 |more {a:Int} {p:aI} (h:Pth bf a p.x0) (h':p∈bf):Pth bf a p.x1
section
variable {x : ae} {l : List ab} {r : ay}
theorem SD(h:pD x l){p:aI}(hp:p∈x.before)(hb:fx l p.x1=true):fx l p.x0=true∧sH (Q0 p.x0) l<sH (Q0 p.x1) l:=by
 have h1:=List.any_eq_false.1 h.before p hp;unfold IW at h1;rw[hb,Bool.true_and]at h1;simp only[Bool.or_eq_true,Bool.not_eq_true',not_or,Bool.not_eq_false,Bool.not_eq_true]at h1;obtain⟨h2,h3⟩:=h1;refine⟨h2,?_⟩;unfold Ml at h3;have QW:0≤sH (Q0 p.x1) l:=by rw[←kP,m7];exact hb
 have Qln:0≤sH (Q0 p.x0) l:=by rw[←kP,m7];exact h2
 unfold sH at QW Qln ⊢;cases e1:Lg (Q0 p.x1) l with
 |none=>rw[e1]at QW;simp at QW
 |some k =>
  rw[e1]at h3;simp only at h3;cases e0:Lg (Q0 p.x0) l with
  |none=>rw[e0]at Qln;simp at Qln
  |some j =>
   obtain⟨j1,j2,_⟩:=xI e0;simp only;have hjk:j<k:=Nat.lt_of_not_le fun hle=>by
    have:fx (l.drop k) p.x0=true:=wO.2 ⟨l[j],List.mem_iff_getElem?.2 ⟨j-k,by rw[List.getElem?_drop,show k+(j-k)=j by omega,List.getElem?_eq_getElem j1]⟩,Hn.1 j2⟩
    rw[this]at h3;cases h3
   omega
theorem Qji(h:pD x l){a b:Int}(hp:Pth x.before a b):fx l b=true→fx l a=true∧sH (Q0 a) l<sH (Q0 b) l:=by
 induction hp with
 |one hm=>exact SD h hm
 |more _ hm ih =>
  intro hb;obtain⟨h1,h2⟩:=SD h hm hb;obtain⟨h3,h4⟩:=ih h1;exact⟨h3,by omega⟩
theorem K_{D:Nat}{f:Nat→Int}{i:Int}(h0:0≤i)(h1:i<D):bq (fC D f) i=some (f i.toNat):=by
 unfold bq;rw[if_pos h0,oG (by omega)]
structure ChI (bf:List aI) (m:Nat→Nat):Prop where
 lt:∀i,m i<1024
 pth:∀i a:Nat,(m i).testBit a=true→Pth bf (a:Int) (i:Int)
theorem QS(hx:cD x):post (yJ (aC x.ah) x.before) fun c=>∃m,c=fC x.ah.length (fun i=>((m i:Nat):Int))∧ChI x.before m:=by
 have dN:=hx.ah;have Qnc:=hx.before;have sb:∀m:Nat→Nat,(∀i,m i<1024)→0≤uy x.ah.length (fun i=>((m i:Nat):Int))∧uy x.ah.length (fun i=>((m i:Nat):Int))≤10240:=fun m hm=>by
  have:=XC (f:=fun i=>((m i:Nat):Int)) (c:=1024) (by omega) x.ah.length fun i=>by have:=hm i;omega
  omega
 unfold yJ;have hz:KY (zz (aC x.ah) 0) (zz (aC x.ah) 0) 8 (0:Int)=some (fC x.ah.length fun i=>(((fun _=>0:Nat→Nat) i:Nat):Int)):=by
  have hm:zz (aC x.ah) 0=(x.ah.length:Int):=by rw[Bn];unfold aC;omega
  rw[hm];unfold KY;rw[if_pos (by omega)]
  congr 1;refine List.ext_getElem? fun i=>?_
  rcases Nat.lt_or_ge i x.ah.length with h|h
  ·rw[oG h];simp [h]
  ·rw[List.getElem?_eq_none (by simp;omega),List.getElem?_eq_none (by rw[mh];omega)]
 rw[hz,ai];refine b_ (R:=fun c=>∃m,c=fC x.ah.length (fun i=>((m i:Nat):Int))∧ChI x.before m) ?_ fun c hc=>bg.2 hc
 refine fj (fun s:List Int×Bool=>∃m,s.1=fC x.ah.length (fun i=>((m i:Nat):Int))∧ChI x.before m) (fun s=>2*(10240-uy x.ah.length (fun i=>s.1.getD i 0)).toNat+(if s.2=true then 1 else 0)) ⟨fun _=>0,rfl,fun _=>by omega,fun i a h=>by simp at h⟩ ?_ ?_
 ·have hz0:0≤uy x.ah.length (fun i=>(fC x.ah.length fun i=>(((fun _=>0:Nat→Nat) i:Nat):Int)).getD i 0):=by
   rw[Hc (g:=fun i=>(((fun _=>0:Nat→Nat) i:Nat):Int)) _ fun i hi=>by rw[List.getD_eq_getElem?_getD,oG hi];rfl]
   exact(sb (fun _=>0) fun _=>by omega).1
  refine Nat.lt_of_le_of_lt (m:=2*10240+1) ?_ (by decide)
  refine Nat.add_le_add (Nat.mul_le_mul_left 2 (Int.toNat_le.2 ?_)) (by split <;> decide)
  exact Int.sub_le_self _ hz0
 rintro⟨_,more⟩ ⟨m,rfl,hm⟩;have Qpd:∀m:Nat→Nat,uy x.ah.length (fun i=>(fC x.ah.length fun i=>((m i:Nat):Int)).getD i 0)=uy x.ah.length (fun i=>((m i:Nat):Int)):=fun m=>Hc _ fun i hi=>by rw[List.getD_eq_getElem?_getD,oG hi];rfl
 show post (tE x.before _ (fC x.ah.length fun i=>((m i:Nat):Int)) more) _
 unfold tE;refine bA (fun Qkg=>?_) (fun Qkg=>ef ⟨m,rfl,hm⟩)
 refine b_ (R:=fun e:List Int×Bool=>∃m',e.1=fC x.ah.length (fun i=>((m' i:Nat):Int))∧ChI x.before m'∧uy x.ah.length (fun i=>((m i:Nat):Int))≤uy x.ah.length (fun i=>((m' i:Nat):Int))∧(e.2=true→uy x.ah.length (fun i=>((m i:Nat):Int))<uy x.ah.length (fun i=>((m' i:Nat):Int)))) ?_ ?_
 ·refine fj (fun s:List Int×Bool×Int=>∃(k:Nat) (m':Nat→Nat),s.2.2=(k:Int)∧k≤x.before.length∧s.1=fC x.ah.length (fun i=>((m' i:Nat):Int))∧ChI x.before m'∧uy x.ah.length (fun i=>((m i:Nat):Int))≤uy x.ah.length (fun i=>((m' i:Nat):Int))∧(s.2.1=true→uy x.ah.length (fun i=>((m i:Nat):Int))<uy x.ah.length (fun i=>((m' i:Nat):Int)))) (fun s=>x.before.length-s.2.2.toNat) ⟨0,m,rfl,Nat.zero_le _,rfl,hm,Int.le_refl _,fun h=>by cases h⟩ (by simp;omega) ?_
  rintro⟨_,f,_⟩ ⟨k,m',rfl,hk,rfl,hm',hle,hf⟩;show post (tF x.before _ (fC x.ah.length fun i=>((m' i:Nat):Int)) f (k:Int)) _
  unfold tF;rcases Nat.lt_or_ge k x.before.length with h|h
  ·have e:x.before[k]?=some x.before[k]:=List.getElem?_eq_getElem h;have tZ:=List.getElem_mem h;generalize x.before[k]=p at e tZ;obtain⟨p0,p1,p2,p3,p4⟩:=hx.KM p tZ;obtain⟨a,ha⟩:∃a:Nat,p.x0=a:=⟨p.x0.toNat,by omega⟩
   obtain⟨b,hb⟩:∃b:Nat,p.x1=b:=⟨p.x1.toNat,by omega⟩
   have hpa:Pth x.before (a:Int) (b:Int):=ha▸hb▸Pth.one tZ;have hpb:∀c:Int,Pth x.before c (a:Int)→Pth x.before c (b:Int):=fun c hc=>by
    rw[←ha]at hc;rw[←hb];exact Pth.more hc tZ
   rw[ha]at p0 p1;rw[hb]at p2 p3;have hma:=hm'.lt a;have hmb:=hm'.lt b;have h2:2 ^ a≤2 ^ 9:=Nat.pow_le_pow_right (by omega) (by omega)
   rw[cB e,ha,hb,a_ (by simp [aC,mh];omega),K_ p2 p3,ai,K_ p0 p1,ai,ch (by omega),gP e (by omega),Int.toNat_natCast,Int.toNat_natCast,Qmi (by omega),orN (by omega) (by omega)]
   have Qqf:m' b |||m' a<1024:=Nat.or_lt_two_pow (n:=10) hmb hma;rw[orN (by omega) (by omega)]
   have Qqg:m' b |||m' a |||2 ^ a<1024:=Nat.or_lt_two_pow (n:=10) Qqf (by omega)
   have QW:m' b≤m' b |||m' a |||2 ^ a:=Nat.le_trans Nat.left_le_or Nat.left_le_or;refine bA (fun sR=>fO ⟨⟨k+1,fun i=>if i=b then m' b |||m' a |||2 ^ a else m' i,rfl,h,?_,⟨fun i=>?_,fun i c hc=>?_⟩,?_,fun _=>?_⟩,by simp;omega⟩) (fun _=>fO ⟨⟨k+1,m',rfl,h,rfl,hm',hle,hf⟩,by simp;omega⟩)
   ·show gZ (fC x.ah.length fun i=>((m' i:Nat):Int)) (b:Int) _=_
    rw[ZT (by omega)]
    refine rl fun d _=>?_
    show(if d=b then _ else _:Int)=(((if d=b then _ else _:Nat):Nat):Int)
    split <;> rfl
   ·show(if i=b then _ else _)<1024
    split
    ·exact Qqg
    ·exact hm'.lt i
   ·have hc':(if i=b then m' b |||m' a |||2 ^ a else m' i).testBit c=true:=hc
    by_cases hi:i=b
    ·rw[if_pos hi,Nat.testBit_or,Nat.testBit_or,Nat.testBit_two_pow]at hc';rw[hi];simp only[Bool.or_eq_true,decide_eq_true_iff]at hc';rcases hc' with(hc'|hc')|hc'
     ·exact hm'.pth b c hc'
     ·exact hpb _ (hm'.pth a c hc')
     ·exact hc'▸hpa
    ·rw[if_neg hi]at hc';exact hm'.pth i c hc'
   all_goals
    have up:=TS (f:=fun i=>((m' i:Nat):Int)) (g:=fun i=>(((if i=b then m' b |||m' a |||2 ^ a else m' i:Nat):Nat):Int)) (o:=b) x.ah.length (by omega) (fun j hj=>by
     show(((if j=b then _ else _:Nat):Nat):Int)=_
     rw[if_neg hj])
    simp only[if_pos]at up;rw[wk]at sR;show _≤uy x.ah.length (fun i=>(((if i=b then m' b |||m' a |||2 ^ a else m' i:Nat):Nat):Int))
    rw[up];omega
  ·obtain rfl:k=x.before.length:=by omega
   rw[bW];exact ef ⟨m',rfl,hm',hle,hf⟩
 ·rintro⟨_,f⟩ ⟨m',rfl,hm',hle,hf⟩;refine fO ⟨⟨m',rfl,hm'⟩,?_⟩;simp only[Qpd];have s1:=sb m hm.lt;have s2:=sb m' hm'.lt;rw[if_pos Qkg];simp only at hle hf;cases f with
  |true=>have:=hf rfl;simp;omega
  |false=>simp;omega
theorem Qag(hx:cD x)(h:pD x l){s:Int}(hs:Hi l s):o8 x s=some 0:=by
 have dN:=hx.ah;have Qpv:=hx.db;have Qnc:=hx.before;have hlen:=Fk (l:=l) 63;have tZ:∀i∈Aw l 63,∃k:Nat,i=k∧k<63∧fx l (k:Int)=true:=fun i hi=>JZ hi
 have Z4:¬s<0:=by obtain⟨m,rfl,_⟩:=hs.ex;omega
 unfold o8;rw[a_ (by simp;omega),FJ hs,ai]
 generalize Aw l 63=M at *;have hat:∀{i:Nat} {a:Int},M[i]?=some a→0≤a∧a<x.ah.length∧fx l a=true:=fun hh=>by
  obtain⟨k,rfl,_,hk⟩:=tZ _ (List.mem_of_getElem? hh);have:=QaJ h hk;exact⟨this.1,this.2,hk⟩
 have l1:aK (fun q=>fk x s M q) 0=some (.inl ()):=by
  have:=eh (B:=fun q=>fk x s M q) (l:=M) (by omega) (fun _=>false) (y:=(.inr 2:Unit⊕Int)) (N:=.inl ()) (fun i a hh=>by
   have ry:=hat hh;show fk x s M i=_;unfold fk;rw[cB hh,a_ (by simp [aC];omega),gP hh (by omega)]
   rfl) (by
   show fk x s M M.length=_;unfold fk;rw[bW])
  simpa using this
 have l2:aK (fun q=>fl x s M q) 0=some (.inl ()):=by
  have:=eh (B:=fun q=>fl x s M q) (l:=M) (by omega) (fun _=>false) (y:=(.inr 9:Unit⊕Int)) (N:=.inl ()) (fun i a hh=>by
   obtain⟨q0,q1,q2⟩:=hat hh;obtain⟨v,hv,hvo⟩:=wO.1 q2;have Jk:=List.any_eq_false.1 h.off v hv;obtain⟨o,g1,g2,g3,_⟩:=R4 (x:=x) (v:=v) (by omega) (by omega)
   show fl x s M i=_;unfold fl;rw[hvo]at g1;rw[cB hh,g1,ai,a_ (by rw[←g3];simpa using Jk),gP hh (by omega)]
   rfl) (by
   show fl x s M M.length=_;unfold fl;rw[bW])
  simpa using this
 have l3:aK (fun q=>fm x s M q) 0=some (.inl ()):=by
  have:=eh (B:=fun q=>fm x s M q) (l:=x.db) (by omega) (fun _=>false) (y:=(.inr 20:Unit⊕Int)) (N:=.inl ()) (fun i a hh=>by
   obtain⟨p0,p1,p2,p3,p4⟩:=hx.Qai a (List.mem_of_getElem? hh);have Rw:wM l a=false:=by simpa using List.any_eq_false.1 h.db a (List.mem_of_getElem? hh)
   unfold wM at Rw;show fm x s M i=_;unfold fm;rw[cB hh,hs.Has p0 (by omega),ai,hs.Has p2 (by omega),ai,gP hh (by omega)]
   cases e1:fx l a.x0 <;> cases e2:fx l a.x1
   ·rfl
   ·rfl
   ·rfl
   ·rw[e1,e2]at Rw;cases Rw) (by
   show fm x s M x.db.length=_;unfold fm;rw[bW])
  simpa using this
 have l4:aK (fun q=>fp x s M q) 0=some (.inl ()):=by
  have:=eh (B:=fun q=>fp x s M q) (l:=x.before) (by omega) (fun _=>false) (y:=(.inr 21:Unit⊕Int)) (N:=.inl ()) (fun i a hh=>by
   have hm:=List.mem_of_getElem? hh;obtain⟨p0,p1,p2,p3,p4⟩:=hx.KM a hm;show fp x s M i=_;unfold fp;rw[cB hh,hs.Has p2 (by omega),ai,hs.Has p0 (by omega),ai,gP hh (by omega)]
   cases e1:fx l a.x1
   ·rfl
   ·rw[(SD h hm e1).1];rfl) (by
   show fp x s M x.before.length=_;unfold fp;rw[bW])
  simpa using this
 obtain⟨c,hc,m,rfl,hm⟩:=QS hx;have l5:aK (fun q=>fq M (fC x.ah.length fun i=>((m i:Nat):Int)) q) 0=some (.inl ()):=by
  have:=eh (B:=fun q=>fq M (fC x.ah.length fun i=>((m i:Nat):Int)) q) (l:=M) (by omega) (fun _=>false) (y:=(.inr 21:Unit⊕Int)) (N:=.inl ()) (fun i a hh=>by
   obtain⟨q0,q1,q2⟩:=hat hh;obtain⟨k,rfl⟩:∃k:Nat,a=k:=⟨a.toNat,by omega⟩
   show fq M (fC x.ah.length fun i=>((m i:Nat):Int)) i=_
   unfold fq;have mj:=hm.lt k;have QdJ:(m k).testBit k=false:=by
    rw[Bool.eq_false_iff];intro hb;have:=(Qji h (hm.pth k k hb) q2).2;omega
   have Qlo:su ((m k:Nat):Int) (k:Int)=some false:=by
    unfold su;rw[bl (by simp;omega),ch (by omega),Qhg (by omega)]
    have hd:=Nat.div_le_self (m k) (2 ^ k);rw[show(1:Int)=((1:Nat):Int)from rfl,QkW (by omega) (by omega),Nat.and_one_is_mod]
    rw[Nat.testBit_eq_decide_div_mod_eq,decide_eq_false_iff_not]at QdJ;congr 1;generalize m k / 2 ^ k=q at *;rw[xC];omega
   rw[cB hh,K_ q0 q1,ai,Int.toNat_natCast,Qlo,ai,gP hh (by omega)]
   rfl) (by
   show fq M (fC x.ah.length fun i=>((m i:Nat):Int)) M.length=_
   unfold fq;rw[bW])
  simpa using this
 rw[bY l1,en,bY l2,en,bY l3,en,bY l4,en,hc,ai,bY l5,en]
end
def Je{α S E:Type}(f:S→α→S⊕E)(N:S→E):S→List α→E
 |s,[]=>N s
 |s,a ::r=>match f s a with
  | .inl s'=>Je f N s' r
  | .inr e=>e
theorem Va{α S E:Type}{f:S→α→S⊕E}{N:S→E}{s s':S}{a:α}{r:List α}(h:f s a=.inl s'):Je f N s (a ::r)=Je f N s' r:=by rw[Je,h]
theorem Tc{α S E:Type}{l:List α}(hl:l.length≤1048576)(f:S→α→S⊕E)(N:S→E)(Inv:Nat→S→Prop){B:S×Int→Option ((S×Int)⊕E)}
  (ry:∀(s:S) (i:Nat) (a:α),l[i]?=some a→Inv i s→B (s,(i:Int))=some (match f s a with|.inl s'=>.inl (s',(i:Int)+1)|.inr e=>.inr e)∧∀s',f s a=.inl s'→Inv (i+1) s')
  (xG:∀s,Inv l.length s→B (s,(l.length:Int))=some (.inr (N s))) {s0:S} (h0:Inv 0 s0):aK B (s0,0)=some (Je f N s0 l):=by
 have main:∀(m:List α) (k:Nat) (s:S),l.drop k=m→k≤l.length→Inv k s→uh B (m.length+1) (s,(k:Int))=some (Je f N s m):=by
  intro m;induction m with
  |nil =>
   intro k s hd hk hi;have:k=l.length:=by
    have:=congrArg List.length hd;rw[List.length_drop,List.length_nil]at this;omega
   subst this;simp only[List.length_nil,uh];rw[xG s hi];rfl
  |cons a m ih =>
   intro k s hd hk hi;have wP:k<l.length:=Nat.lt_of_not_le fun h=>by rw[List.drop_eq_nil_of_le h]at hd;cases hd
   have YV:=List.drop_eq_getElem_cons wP;rw[hd]at YV;injection YV with h1 h2;have e:l[k]?=some a:=by rw[List.getElem?_eq_getElem wP,←h1]
   obtain⟨g1,g2⟩:=ry s k a e hi;rw[List.length_cons,uh,g1];show _=some (match f s a with|.inl s'=>Je f N s' m|.inr e=>e)
   cases hf:f s a with
   |inl s'=>exact ih (k+1) s' h2.symm wP (g2 s' hf)
   |inr e=>rfl
 have:=main l 0 s0 rfl (Nat.zero_le _) h0;exact EP (l.length+1) (by unfold sU;omega) this
def Em(r:ay):Prop:=¬(9<r.ar.length∧r.ar.length≤20)
section
variable {x : ae} {r : ay} {s : aQ} {now : Int}
def Uk(x:ae)(r:ay):aQ×bJ×Int:=(me x r).getD (ud,TY,0)
theorem Bh(hx:cD x)(hR:mM r)(h9:Em r):me x r=some (Uk x r)∧kb x r=some (Uk x r)∧(Uk x r).1.je.length≤1048576∧((Uk x r).2.2≠0→(Uk x r).1=ud∧(Uk x r).2.1=TY)∧((Uk x r).2.2=0→(Uk x r).2.1=ZC x r (Uk x r).1∧∃b,Qdf x r (Uk x r).1 b):=by
 obtain⟨E,e1,e2,e3,e4,e5⟩:=QbZ hx hR h9;have:Uk x r=E:=by unfold Uk;rw[e1];rfl
 rw[this];exact⟨e1,e2,e3,e4,e5⟩
end
theorem Qi7{n:ak}(h:ak.ok 1048576 n):Mw n:=by
 obtain⟨⟨h1,h2⟩,⟨h3,h4⟩,_⟩:=h;refine⟨h1,h3,h2,fun a ha=>?_⟩
 obtain⟨_,_,_,_,⟨h5,h6⟩,⟨h7,h8⟩,_⟩:=h4 a ha;exact⟨h5,h7,fun p hp=>⟨(h6 p hp).1,(h6 p hp).2.1⟩,fun p hp=>⟨(h8 p hp).1,(h8 p hp).2.1⟩⟩
theorem Qgv{x:ae}(h:ae.ok 1048576 x):BI x:=by
 obtain⟨h0,⟨h1,h2⟩,⟨h3,h4⟩,⟨h5,_⟩,⟨h6,_⟩,_⟩:=h;refine⟨Qi7 h0,h1,h3,h5,h6,fun t ht=>?_,fun o ho=>?_⟩
 ·obtain⟨a,_,_,_,⟨b,_⟩,_⟩:=h2 t ht;exact⟨a,b⟩
 ·obtain⟨a,⟨b,_⟩,_⟩:=h4 o ho;exact⟨a,b⟩
end
end Go.Proofs.YtbilkblifgaflaaGreatDoor
