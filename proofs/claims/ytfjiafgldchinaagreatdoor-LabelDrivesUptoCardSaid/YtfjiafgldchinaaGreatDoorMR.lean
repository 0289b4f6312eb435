/- Part MR of the proof: texts Lra Lrb Lrc Lrd Lre Lrf Lrg Lrh Lri Lrj Lta Ltb Lqz Lqze. -/
import Derived.Test.YtfjiafgldchinaaGreatDoorMP
import Derived.Test.YtfjiafgldchinaaGreatDoorMQ
import Derived.Test.YtfjiafgldchinaaGreatDoorMT
namespace Go.Proofs.YtfjiafgldchinaaGreatDoor
set_option linter.unusedSimpArgs false
set_option linter.unusedVariables false
set_option linter.unusedSectionVars false
def ixP {α:Type} (p:α→Bool):List α→Option Nat
 | []=>none
 | a :: r=>if p a=true then some 0 else (ixP p r).map (·+1)
section
variable {α : Type} {p : α → Bool}
theorem QsE {l:List α} {k:Nat} (h:ixP p l=some k):∃ hk:k<l.length,p l[k]=true∧∀ j (hj:j<k),p (l[j]'(by omega))=false:=by
 induction l generalizing k with
 | nil=>cases h
 | cons a r ih =>
  unfold ixP at h
  split at h
  ·cases h
   exact ⟨by simp,by simpa,fun j hj=>by omega⟩
  ·rename_i ha
   rw [Option.map_eq_some_iff] at h
   obtain ⟨m,hm,rfl⟩:=h
   obtain ⟨h1,h2,h3⟩:=ih hm
   refine ⟨by simp; omega,by simpa using h2,fun j hj=>?_⟩
   cases j with
   | zero=>simpa using ha
   | succ j=>simpa using h3 j (by omega)
theorem QuL {l:List α} (h:ixP p l=none):∀ a∈l,p a=false:=by
 induction l with
 | nil=>simp
 | cons a r ih =>
  unfold ixP at h
  split at h
  ·cases h
  ·rename_i ha
   rw [Option.map_eq_none_iff] at h
   intro b hb
   rcases List.mem_cons.1 hb with rfl|hb
   ·simpa using ha
   ·exact ih h b hb
def ixI (p:α→Bool) (l:List α):Int:=match ixP p l with
 | some k=>k
 | none=>-1
theorem QyK {l:List α}:0≤ixI p l↔∃ a∈l,p a=true:=by
 unfold ixI
 cases h:ixP p l with
 | some k =>
  obtain ⟨h1,h2,_⟩:=QsE h
  exact ⟨fun _=>⟨_,List.getElem_mem h1,h2⟩,fun _=>Int.natCast_nonneg k⟩
 | none=>exact ⟨fun h'=>by simp at h',fun ⟨a,ha,hp⟩=>by rw [QuL h a ha] at hp; cases hp⟩
theorem Qx8 {l:List α}:geI (ixI p l) 0=l.any p:=by
 rw [Bool.eq_iff_iff,geI_t,QyK,List.any_eq_true]
end
section
variable {E : Type} {B : Int → Option (Int ⊕ E)}
theorem QyR {n:Nat} (hn:n≤1048576) (p:Nat→Bool) (Y:Nat→E) {N:E}
  (hin:∀ i:Nat,i<n→B (i:Int)=some (if p i=true then .inr (Y i) else .inl ((i:Int)+1))) (hend:B (n:Int)=some (.inr N)) :
  (∃ k,k<n∧p k=true∧(∀ j,j<k→p j=false)∧loopF B 0=some (Y k))∨((∀ j,j<n→p j=false)∧loopF B 0=some N):=by
 have main:post (loopF B 0) fun e=>(∃ k,k<n∧p k=true∧(∀ j,j<k→p j=false)∧e=Y k)∨((∀ j,j<n→p j=false)∧e=N):=by
  refine QdH (fun i=>∃ k:Nat,i=(k:Int)∧k≤n∧∀ j,j<k→p j=false) (fun i=>n-i.toNat) ⟨0,rfl,Nat.zero_le _,fun j hj=>by omega⟩ (by simp; omega) ?_
  rintro _ ⟨k,rfl,hk,hf⟩
  rcases Nat.lt_or_ge k n with h|h
  ·rw [hin k h]
   split
   ·rename_i hp
    exact QcO (.inl ⟨k,h,hp,hf,rfl⟩)
   ·rename_i hp
    refine QfV ⟨⟨k+1,by simp,by omega,fun j hj=>?_⟩,by simp; omega⟩
    rcases Nat.lt_or_eq_of_le (Nat.le_of_lt_succ hj) with hj|rfl
    ·exact hf j hj
    ·simpa using hp
  ·obtain rfl:k=n:=by omega
   rw [hend]
   exact QcO (.inr ⟨hf,rfl⟩)
 obtain ⟨e,he,h⟩:=main
 rcases h with ⟨k,h1,h2,h3,rfl⟩|⟨h1,rfl⟩
 ·exact .inl ⟨k,h1,h2,h3,he⟩
 ·exact .inr ⟨h1,he⟩
theorem QvA {n:Nat} (hn:n≤1048576) (p:Nat→Bool) {y N:E} {b:Bool} (hb:b=true↔∃ k,k<n∧p k=true)
  (hin:∀ i:Nat,i<n→B (i:Int)=some (if p i=true then .inr y else .inl ((i:Int)+1))) (hend:B (n:Int)=some (.inr N)) :
  loopF B 0=some (if b=true then y else N):=by
 rcases QyR hn p (fun _=>y) hin hend with ⟨k,h1,h2,_,h4⟩|⟨h1,h4⟩
 ·rw [h4,if_pos (hb.2 ⟨k,h1,h2⟩)]
 ·rw [h4,if_neg fun h=>by obtain ⟨k,h5,h6⟩:=hb.1 h; rw [h1 k h5] at h6; cases h6]
theorem QlT {α:Type} {l:List α} (hl:l.length≤1048576) (p:α→Bool) {y N:E}
  (hin:∀ (i:Nat) a,l[i]?=some a→B (i:Int)=some (if p a=true then .inr y else .inl ((i:Int)+1))) (hend:B (l.length:Int)=some (.inr N)) :
  loopF B 0=some (if l.any p=true then y else N):=by
 refine QvA hl (fun i=>match l[i]? with|some a=>p a|none=>false) ?_ (fun i hi=>?_) hend
 ·rw [List.any_eq_true]
  constructor
  ·rintro ⟨a,ha,hp⟩
   obtain ⟨k,hk,rfl⟩:=List.getElem_of_mem ha
   exact ⟨k,hk,by rw [List.getElem?_eq_getElem hk]; exact hp⟩
  ·rintro ⟨k,hk,hp⟩
   rw [List.getElem?_eq_getElem hk] at hp
   exact ⟨_,List.getElem_mem hk,hp⟩
 ·rw [List.getElem?_eq_getElem hi]
  exact hin i _ (List.getElem?_eq_getElem hi)
end
theorem wrapN {m:Nat} (h:m<9223372036854775808):IntKind.i64.wrap (m:Int)=m:=IntWalk.i64_in _ ⟨by omega,by omega⟩
theorem cvuN {m:Nat} (h:m<9223372036854775808):cvK .u64 (m:Int)=m:=by
 unfold cvK
 simp only [IntKind.wrap,IntKind.bits,IntKind.signed]
 simp
 omega
theorem shrN {m i:Nat} (hi:i≤64):shrK .i64 (m:Int) (i:Int)=((m / 2 ^ i:Nat):Int):=by
 unfold shrK
 rw [show min (i:Int).toNat IntKind.i64.bits=i by simp [IntKind.bits]; omega,show (2:Int) ^ i=((2 ^ i:Nat):Int) by simp,Int.fdiv_eq_ediv_of_nonneg _ (Int.natCast_nonneg _)]
 rfl
theorem shlN {i:Nat} (hi:i≤62):shlK .i64 1 (i:Int)=((2 ^ i:Nat):Int):=by
 have h2:2 ^ i≤2 ^ 62:=Nat.pow_le_pow_right (by omega) hi
 unfold shlK
 rw [show min (i:Int).toNat IntKind.i64.bits=i by simp [IntKind.bits]; omega,Int.one_mul,show (2:Int) ^ i=((2 ^ i:Nat):Int) by simp]
 exact wrapN (by omega)
theorem orN {a b:Nat} (ha:a<9223372036854775808) (hb:b<9223372036854775808):orK .i64 (a:Int) (b:Int)=((a ||| b:Nat):Int):=by
 unfold orK
 have h:=Nat.or_lt_two_pow (n:=63) ha hb
 have e:(BitVec.ofInt IntKind.i64.bits (a:Int) ||| BitVec.ofInt IntKind.i64.bits (b:Int)).toNat=a ||| b:=by
  rw [BitVec.toNat_or]
  show (BitVec.ofInt 64 (a:Int)).toNat ||| (BitVec.ofInt 64 (b:Int)).toNat=_
  rw [BitVec.ofInt_natCast,BitVec.ofInt_natCast,BitVec.toNat_ofNat,BitVec.toNat_ofNat,Nat.mod_eq_of_lt (by omega),Nat.mod_eq_of_lt (by omega)]
 rw [e]
 exact wrapN (by omega)
theorem andN {a b:Nat} (ha:a<9223372036854775808) (hb:b<9223372036854775808):andK .i64 (a:Int) (b:Int)=((a &&& b:Nat):Int):=by
 unfold andK
 have h:=Nat.and_le_left (n:=a) (m:=b)
 have e:(BitVec.ofInt IntKind.i64.bits (a:Int) &&& BitVec.ofInt IntKind.i64.bits (b:Int)).toNat=a &&& b:=by
  rw [BitVec.toNat_and]
  show (BitVec.ofInt 64 (a:Int)).toNat &&& (BitVec.ofInt 64 (b:Int)).toNat=_
  rw [BitVec.ofInt_natCast,BitVec.ofInt_natCast,BitVec.toNat_ofNat,BitVec.toNat_ofNat,Nat.mod_eq_of_lt (by omega),Nat.mod_eq_of_lt (by omega)]
 rw [e]
 exact wrapN (by omega)
theorem QwH {a b:Nat} (ha:a<9223372036854775808) (hb:b<9223372036854775808):QnK .i64 (a:Int) (b:Int)=0↔∀ i,a.testBit i=true→b.testBit i=true:=by
 show IntKind.i64.wrap (((BitVec.ofInt 64 (a:Int) &&& ~~~BitVec.ofInt 64 (b:Int)).toNat:Nat):Int)=0↔_
 rw [BitVec.ofInt_natCast,BitVec.ofInt_natCast]
 have hle:(BitVec.ofNat 64 a &&& ~~~BitVec.ofNat 64 b).toNat<9223372036854775808:=by
  rw [BitVec.toNat_and,BitVec.toNat_ofNat,Nat.mod_eq_of_lt (by omega)]
  exact Nat.lt_of_le_of_lt Nat.and_le_left ha
 rw [wrapN hle]
 have bit:∀ i,(BitVec.ofNat 64 a &&& ~~~BitVec.ofNat 64 b).toNat.testBit i=(a.testBit i&&!b.testBit i):=fun i=>by
  rw [BitVec.testBit_toNat,BitVec.getLsbD_and,BitVec.getLsbD_not,BitVec.getLsbD_ofNat,BitVec.getLsbD_ofNat]
  rcases Nat.lt_or_ge i 64 with h|h
  ·simp [h]
  ·have:a.testBit i=false:=Nat.testBit_lt_two_pow (Nat.lt_of_lt_of_le ha (Nat.le_trans (by decide) (Nat.pow_le_pow_right (n:=2) (by omega) h)))
   simp [this]
 constructor
 ·intro h i hi
  have:=bit i
  rw [show (BitVec.ofNat 64 a &&& ~~~BitVec.ofNat 64 b).toNat=0 by omega,Nat.zero_testBit,hi] at this
  simpa using this.symm
 ·intro h
  have:(BitVec.ofNat 64 a &&& ~~~BitVec.ofNat 64 b).toNat=0:=Nat.eq_of_testBit_eq fun i=>by
   rw [bit,Nat.zero_testBit]
   cases hi:a.testBit i with
   | false=>rfl
   | true=>rw [h i hi]; rfl
  omega
theorem Qta {m i:Nat}:eqI (remK (((m / 2 ^ i:Nat):Int)) 2) 1=m.testBit i:=by
 rw [Bool.eq_iff_iff,eqI_t,Nat.testBit_eq_decide_div_mod_eq,decide_eq_true_iff]
 unfold remK
 generalize m / 2 ^ i=q
 rw [Int.tmod_eq_emod_of_nonneg (by omega)]
 omega
theorem Qx0 {m i:Nat} (h:m.testBit i=false) (j:Nat):(m+2 ^ i).testBit j=(m.testBit j||decide (i=j)):=by
 rw [Nat.add_comm]
 rcases Nat.lt_trichotomy j i with hj|rfl|hj
 ·rw [Nat.testBit_two_pow_add_gt hj,decide_eq_false (by omega),Bool.or_false]
 ·rw [Nat.testBit_two_pow_add_eq,h]; simp
 ·rw [decide_eq_false (by omega),Bool.or_false]
  have h0:m / 2 ^ i % 2=0:=by
   rw [Nat.testBit_eq_decide_div_mod_eq,decide_eq_false_iff_not] at h
   omega
  have e1:(2 ^ i+m) / 2 ^ (i+1)=m / 2 ^ (i+1):=by
   rw [Nat.pow_succ,← Nat.div_div_eq_div_mul,← Nat.div_div_eq_div_mul,Nat.add_div_left _ (Nat.two_pow_pos i)]
   omega
  rw [Nat.testBit_eq_decide_div_mod_eq,Nat.testBit_eq_decide_div_mod_eq]
  have hp:2 ^ j=2 ^ (i+1)*2 ^ (j-(i+1)):=by rw [← Nat.pow_add]; congr 1; omega
  rw [hp,← Nat.div_div_eq_div_mul,← Nat.div_div_eq_div_mul,e1]
theorem QyG {t:Qah} {skills:Int} (ht:0≤t.skills∧t.skills≤1073741823) (hs:0≤skills∧skills≤1073741823):∃ b,QgF t skills=some b∧Qdj t skills=some b:=by
 obtain ⟨a,ha⟩:∃ a:Nat,skills=a:=⟨skills.toNat,by omega⟩
 obtain ⟨c,hc⟩:∃ c:Nat,t.skills=c:=⟨t.skills.toNat,by omega⟩
 subst ha
 refine ⟨eqI (QnK .i64 (a:Int) (c:Int)) 0,?_,?_⟩
 ·unfold QgF
  rw [hc]
  rw [show geI (c:Int) 0=true by simp,show geI (a:Int) 0=true by simp]
  rfl
 ·unfold Qdj
  rw [Qa2 (by simp; omega)]
  have key:loopF (fun s=>Qca t (a:Int) s) 1=some (if (eqI (QnK .i64 (a:Int) (c:Int)) 0)=true then .inl () else .inr false):=by
   have bigpow:∀ k:Nat,k≤62→(0:Int)<((2 ^ k:Nat):Int)∧((2 ^ k:Nat):Int)≤4611686018427387904:=fun k hk=>by
    have h1:=Nat.two_pow_pos k
    have h2:2 ^ k≤2 ^ 62:=Nat.pow_le_pow_right (by omega) hk
    omega
   have main:post (loopF (fun s=>Qca t (a:Int) s) 1) fun e=>e=if (eqI (QnK .i64 (a:Int) (c:Int)) 0)=true then .inl () else .inr false:=by
    refine QdH (fun s=>∃ k:Nat,k≤63∧s=(if k=63 then -9223372036854775808 else ((2 ^ k:Nat):Int))∧∀ i,i<k→a.testBit i=true→c.testBit i=true) (fun s=>if s<0 then 0 else 9223372036854775808-s.toNat) ⟨0,by omega,rfl,fun i hi=>by omega⟩ (by decide) ?_
    rintro _ ⟨k,hk,rfl,hb⟩
    show post (Qca t (a:Int) _) _
    unfold Qca
    rcases Nat.lt_or_ge k 63 with hk'|hk'
    ·rw [if_neg (by omega)]
     obtain ⟨p1,p2⟩:=bigpow k (by omega)
     rw [Qcq (by simp only [gtI_t]; exact p1),Qjq (by omega),hc]
     have hq:∀ z:Nat,z<9223372036854775808→quoK .i64 (z:Int) ((2 ^ k:Nat):Int)=((z / 2 ^ k:Nat):Int):=fun z hz=>by
      have e:(z:Int).tdiv ((2 ^ k:Nat):Int)=((z / 2 ^ k:Nat):Int):=by rw [Int.tdiv_eq_ediv_of_nonneg (by omega)]; rfl
      have h1:=Nat.div_le_self z (2 ^ k)
      rw [quoI,e] <;> (rw [e]; generalize z / 2 ^ k=q at h1; omega)
     rw [hq a (by omega),hq c (by omega),Qta]
     have go:∀ h:(a.testBit k=true→c.testBit k=true),post (some (Sum.inl (mulK .i64 ((2 ^ k:Nat):Int) 2):Int⊕(Unit⊕Bool))) fun x=>(∀ s',x=.inl s'→(∃ k':Nat,k'≤63∧s'=(if k'=63 then -9223372036854775808 else ((2 ^ k':Nat):Int))∧∀ i,i<k'→a.testBit i=true→c.testBit i=true)∧(if s'<0 then 0 else 9223372036854775808-s'.toNat)<(if ((2 ^ k:Nat):Int)<0 then 0 else 9223372036854775808-((2 ^ k:Nat):Int).toNat))∧∀ e,x=.inr e→e=if (eqI (QnK .i64 (a:Int) (c:Int)) 0)=true then .inl () else .inr false:=by
      intro h
      have hm:mulK .i64 ((2 ^ k:Nat):Int) 2=if k+1=63 then -9223372036854775808 else ((2 ^ (k+1):Nat):Int):=by
       split
       ·rename_i h62
        obtain rfl:k=62:=by omega
        decide
       ·obtain ⟨q1,q2⟩:=bigpow (k+1) (by omega)
        have e:((2 ^ k:Nat):Int)*2=((2 ^ (k+1):Nat):Int):=by rw [Nat.pow_succ]; simp
        rw [mulI (by omega) (by omega),e]
      refine QfV ⟨⟨k+1,by omega,hm,fun i hi=>?_⟩,?_⟩
      ·rcases Nat.lt_or_eq_of_le (Nat.le_of_lt_succ hi) with hi|rfl
       ·exact hb i hi
       ·exact h
      ·rw [hm,if_neg (show ¬ ((2 ^ k:Nat):Int)<0 by omega)]
       split
       ·rw [if_pos (by omega)]; omega
       ·obtain ⟨q1,q2⟩:=bigpow (k+1) (by omega)
        have e:2 ^ (k+1)=2 ^ k*2:=Nat.pow_succ ..
        rw [if_neg (by omega)]
        omega
     refine QaF (fun h1=>Qa9 (by omega) (QaF (fun h2=>QcO ?_) (fun h2=>go fun _=>?_))) (fun h1=>go fun h=>by rw [h1] at h; cases h)
     ·rw [if_neg]
      intro h
      have h3:=(QwH (by omega) (by omega)).1 (eqI_t.1 h) k h1
      rw [← Qta,eqI_t] at h3
      rw [eqI_t] at h2
      omega
     ·rw [eqI_f] at h2
      rw [← Qta,eqI_t]
      unfold remK at h2 ⊢
      generalize c / 2 ^ k=q at h2 ⊢
      rw [Int.tmod_eq_emod_of_nonneg (by omega)] at h2 ⊢
      omega
    ·obtain rfl:k=63:=by omega
     rw [if_pos rfl,Qa2 (by decide)]
     refine QcO ?_
     rw [if_pos]
     rw [eqI_t]
     refine (QwH (by omega) (by omega)).2 fun i hi=>?_
     rcases Nat.lt_or_ge i 63 with h|h
     ·exact hb i h hi
     ·rw [Nat.testBit_lt_two_pow (Nat.lt_of_lt_of_le (show a<2 ^ 63 by omega) (Nat.pow_le_pow_right (n:=2) (by omega) h))] at hi; cases hi
   exact main.eq
  rw [key,Qam]
  split <;> simp_all
end Go.Proofs.YtfjiafgldchinaaGreatDoor
namespace Go.Proofs.YtfjiafgldchinaaGreatDoor
set_option linter.unusedSimpArgs false
set_option linter.unusedVariables false
set_option linter.unusedSectionVars false
theorem brs {α:Type} {b:Bool} {x y:α}:br b (some x) (some y)=some (if b=true then x else y):=by cases b <;> rfl
theorem Qd8 {α β:Type} {l:List α} {i:Nat} {a:α} (h:l[i]?=some a) (f:α→Option β) (z:Option β):br (ltI (i:Int) (lenI l)) (bnd (getI l i) f) z=f a:=by
 have:=(List.getElem?_eq_some_iff.1 h).1
 rw [Qcq (by simp [lenI]; omega),QaG h,Qam]
theorem QcL {α β:Type} {l:List α} {y z:Option β}:br (ltI (l.length:Int) (lenI l)) y z=z:=Qa2 (by simp [lenI])
theorem incL {α:Type} {l:List α} {i:Nat} {a:α} (h:l[i]?=some a) (hl:l.length≤1048576):addK .i64 (i:Int) 1=(i:Int)+1:=inc (List.getElem?_eq_some_iff.1 h).1 hl
def inO (x:Qac) (v:Qab):Bool:=decide (0≤v.order∧v.order<x.orders.length)
def offV (x:Qac) (v:Qab):Bool:=match x.orders[v.order.toNat]? with
 | some o=>o.off
 | none=>false
def isO (o:Int) (v:Qab):Bool:=eqI v.order o
def hasO (l:List Qab) (o:Int):Bool:=l.any (isO o)
def isV (v a:Qab):Bool:=eqI v.order a.order&&(eqB v.drop a.drop&&true)
def visO (x:Qac) (o:Int):List Qab:=match x.orders[o.toNat]? with
 | some q=>(if 0≤q.pick.place then [Qab.mk o false] else [])++(if 0≤q.drop.place then [Qab.mk o true] else [])
 | none=>[]
def rowB (l:List Qab):List Qab→Bool
 | []=>true
 | [a]=>geI (ixI (isV a) l) 0
 | a :: b :: _=>geI (ixI (isV a) l) 0&&ltI (ixI (isV a) l) (ixI (isV b) l)
def pairV (x:Qac) (l:List Qab) (v:Qab):Bool:=(visO x v.order).any (isV v)&&rowB l (visO x v.order)
def QyI (l:List Qab) (p:Qar):Bool:=hasO l p.x0&&hasO l p.x1
def lateB (l:List Qab) (p:Qar):Bool:=match ixP (isO p.x1) l with
 | some k=>hasO (l.drop k) p.x0
 | none=>false
def badB (l:List Qab) (p:Qar):Bool:=hasO l p.x1&&(!hasO l p.x0||lateB l p)
instance (l:List Qab):Decidable l.Nodup:=inferInstanceAs (Decidable (List.Nodup l))
section
variable {x : Qac} {l : List Qab}
theorem isV_t {v a:Qab}:isV v a=true↔a=v:=by
 unfold isV
 cases v; cases a
 simp
 exact ⟨fun ⟨h1,h2⟩=>⟨h1.symm,h2.symm⟩,fun ⟨h1,h2⟩=>⟨h1.symm,h2.symm⟩⟩
theorem isO_t {o:Int} {v:Qab}:isO o v=true↔v.order=o:=by simp [isO]
theorem Qwc {o:Int}:hasO l o=true↔∃ v∈l,v.order=o:=by simp [hasO,List.any_eq_true,isO]
theorem any_V {v:Qab}:l.any (isV v)=true↔v∈l:=by
 rw [List.any_eq_true]
 exact ⟨fun ⟨a,h,h'⟩=>isV_t.1 h' ▸ h,fun h=>⟨v,h,isV_t.2 rfl⟩⟩
theorem Qwh {v:Qab}:0≤ixI (isV v) l↔v∈l:=by rw [← geI_t,Qx8,any_V]
theorem Qye {v:Qab} {k:Nat} (h:ixI (isV v) l=k):l[k]?=some v∧∀ j,j<k→l[j]?≠some v:=by
 unfold ixI at h
 cases hx:ixP (isV v) l with
 | none=>rw [hx] at h; simp only at h; omega
 | some m =>
  rw [hx] at h
  simp only at h
  obtain rfl:m=k:=by omega
  obtain ⟨h1,h2,h3⟩:=QsE hx
  refine ⟨by rw [List.getElem?_eq_getElem h1,isV_t.1 h2],fun j hj he=>?_⟩
  have:=h3 j hj
  rw [List.getElem?_eq_getElem (show j<l.length by omega)] at he
  rw [isV_t.2 (Option.some.inj he)] at this
  cases this
theorem QvN {v:Qab} {k:Nat} (hk:k≤l.length):v∈l.take k↔∃ j,j<k∧l[j]?=some v:=by
 rw [List.mem_iff_getElem?]
 constructor
 ·rintro ⟨j,h⟩
  rw [List.getElem?_take] at h
  split at h
  ·exact ⟨j,‹_›,h⟩
  ·cases h
 ·rintro ⟨j,hj,h⟩
  exact ⟨j,by rw [List.getElem?_take,if_pos hj,h]⟩
theorem QxS {o:Int}:(visO x o).length≤2:=by
 unfold visO
 split
 ·split <;> split <;> simp
 ·simp
theorem QvR {o:Int} {a b:Qab} {r:List Qab} (h:visO x o=a :: b :: r):r=[]∧a≠b:=by
 have h2:=QxS (x:=x) (o:=o)
 rw [h] at h2
 have hr:r=[]:=by cases r with
  | nil=>rfl
  | cons c r=>simp at h2
 refine ⟨hr,?_⟩
 subst hr
 unfold visO at h
 split at h
 ·split at h <;> split at h <;> simp at h
  obtain ⟨rfl,rfl⟩:=h
  simp
 ·cases h
theorem Qwf (h:l.any (fun v=>!inO x v)=false) {v:Qab} (hv:v∈l):0≤v.order∧v.order<x.orders.length:=by
 have:=List.any_eq_false.1 h v hv
 simpa [inO] using this
end
end Go.Proofs.YtfjiafgldchinaaGreatDoor
namespace Go.Proofs.YtfjiafgldchinaaGreatDoor
set_option linter.unusedSimpArgs false
set_option linter.unusedVariables false
set_option linter.unusedSectionVars false
def sumN:Nat→(Nat→Int)→Int
 | 0,_=>0
 | n+1,f=>sumN n f+f n
theorem Qss {f g:Nat→Int}:∀ n,(∀ i,i<n→f i=g i)→sumN n f=sumN n g
 | 0,_=>rfl
 | n+1,h=>by unfold sumN; rw [Qss n fun i hi=>h i (by omega),h n (by omega)]
theorem QvM {f g:Nat→Int} {o:Nat}:∀ n,o<n→(∀ i,i≠o→g i=f i)→sumN n g=sumN n f+(g o-f o)
 | 0,h,_=>by omega
 | n+1,h,hg=>by
  unfold sumN
  rcases Nat.lt_or_eq_of_le (Nat.le_of_lt_succ h) with h'|rfl
  ·rw [QvM n h' hg,hg n (by omega)]; omega
  ·rw [Qss _ fun i hi=>hg i (by omega)]; omega
theorem QvL {f:Nat→Int} {c:Int} (hc:0≤c):∀ n,(∀ i,0≤f i∧f i≤c)→0≤sumN n f∧sumN n f≤n*c
 | 0,_=>by simp [sumN]
 | n+1,h=>by
  have h1:=QvL hc n h
  have h2:=h n
  unfold sumN
  rw [show ((n+1:Nat):Int)*c=n*c+c by rw [Int.natCast_add,Int.add_mul]; simp]
  omega
def vecN (D:Nat) (f:Nat→Int):List Int:=(List.range D).map f
theorem Qb6 {D:Nat} {f:Nat→Int}:(vecN D f).length=D:=by simp [vecN]
theorem Qe3 {D:Nat} {f:Nat→Int} {k:Nat} (h:k<D):(vecN D f)[k]?=some (f k):=by simp [vecN,h]
theorem Qfw {D:Nat} {f g:Nat→Int} (h:∀ d,d<D→f d=g d):vecN D f=vecN D g:=by
 unfold vecN
 exact List.map_congr_left fun d hd=>h d (List.mem_range.1 hd)
theorem QxR {D:Nat} {f:Nat→Int} {k:Nat} {y:Int} (h:k<D):setI (vecN D f) (k:Int) y=vecN D (fun d=>if d=k then y else f d):=by
 unfold setI
 refine List.ext_getElem? fun i=>?_
 rw [List.getElem?_set]
 simp only [Int.toNat_natCast,Qb6]
 split
 ·rename_i he
  subst he
  exact ((Qe3 (f:=fun d=>if d=k then y else f d) h).trans (by simp)).symm
 ·rename_i he
  rcases Nat.lt_or_ge i D with h'|h'
  ·rw [Qe3 h',Qe3 h',if_neg (by omega)]
  ·rw [List.getElem?_eq_none (by rw [Qb6]; omega),List.getElem?_eq_none (by rw [Qb6]; omega)]
theorem QyA {l:List Int}:l=vecN l.length (fun d=>l.getD d 0):=by
 refine List.ext_getElem? fun i=>?_
 rcases Nat.lt_or_ge i l.length with h|h
 ·rw [Qe3 h,List.getElem?_eq_getElem h,List.getD_eq_getElem?_getD,List.getElem?_eq_getElem h]; rfl
 ·rw [List.getElem?_eq_none h,List.getElem?_eq_none (by rw [Qb6]; omega)]
theorem Qte {D:Nat} {f g h:Nat→Int} (hD:D≤3) {B:List Int×Int→Option ((List Int×Int)⊕(List Int))}
  (hin:∀ (k:Nat) (l1:List Int),k<D→l1.length=D→B (l1,(k:Int))=some (.inl (setI l1 k (h k),(k:Int)+1))) (hend:∀ l1:List Int,B (l1,(D:Int))=some (.inr l1)) :
  loopF B (List.replicate D 0,0)=some (vecN D h):=by
 have h0:(List.replicate D (0:Int),(0:Int))=(vecN D (fun d=>if d<0 then h d else 0),((0:Nat):Int)):=by
  congr 1
  refine List.ext_getElem? fun i=>?_
  rcases Nat.lt_or_ge i D with h|h
  ·rw [Qe3 h]; simp [h]
  ·rw [List.getElem?_eq_none (by simp; omega),List.getElem?_eq_none (by rw [Qb6]; omega)]
 rw [h0]
 refine Qgh D (fun k=>(vecN D (fun d=>if d<k then h d else 0),(k:Int))) (by omega) (fun k hk=>?_) ?_
 ·rw [hin k _ hk Qb6,QxR hk]
  simp only [Int.natCast_add,Int.cast_ofNat_Int]
  congr 3
  refine Qfw fun d hd=>?_
  by_cases h1:d=k
  ·rw [if_pos h1,if_pos (by omega),h1]
  ·rw [if_neg h1]
   by_cases h2:d<k
   ·rw [if_pos h2,if_pos (by omega)]
   ·rw [if_neg h2,if_neg (by omega)]
 ·rw [hend]
  congr 2
  exact Qfw fun d hd=>if_pos hd
theorem QxV {D:Nat} {f g:Nat→Int} (hD:D≤3) (hf:∀ d,d<D→-4000000000≤f d∧f d≤4000000000) (hg:∀ d,d<D→-4000000000≤g d∧g d≤4000000000):Qnn (vecN D f) (vecN D g)=some (vecN D (fun d=>f d+g d),0):=by
 unfold Qnn Qfz
 rw [Qa2 (by simp [lenI,Qb6])]
 have hm:mkI (lenI (vecN D f)) (lenI (vecN D f)) 8 (0:Int)=some (List.replicate D 0):=by
  unfold mkI lenI
  rw [Qb6,if_pos (by omega)]
  rfl
 rw [hm,Qam]
 rw [Qee (Qte (D:=D) (f:=f) (g:=g) (h:=fun d=>f d+g d) hD (B:=fun s=>Qbc (vecN D f) (vecN D g) (List.replicate D 0) s.1 s.2) (fun k l1 hk hl=>by
  have a1:=hf k hk
  have a2:=hg k hk
  show Qbc (vecN D f) (vecN D g) (List.replicate D 0) l1 k=_
  unfold Qbc Qot
  rw [Qd8 (Qe3 hk),QaG (Qe3 hk),Qam,Qam,Qt1 (by omega),Qam,addI (by omega) (by omega),addI (by omega) (by omega)]) (fun l1=>by
  show Qbc (vecN D f) (vecN D g) (List.replicate D 0) l1 D=_
  unfold Qbc
  rw [Qa2 (by simp [lenI,Qb6])]))]
 rfl
theorem QyF {D:Nat} {f g:Nat→Int} (hD:D≤3) (hf:∀ d,d<D→-4000000000≤f d∧f d≤4000000000) (hg:∀ d,d<D→-4000000000≤g d∧g d≤4000000000):Qos (vecN D f) (vecN D g)=some (vecN D (fun d=>f d-g d),0):=by
 unfold Qos Qe4
 rw [Qa2 (by simp [lenI,Qb6])]
 have hm:mkI (lenI (vecN D f)) (lenI (vecN D f)) 8 (0:Int)=some (List.replicate D 0):=by
  unfold mkI lenI
  rw [Qb6,if_pos (by omega)]
  rfl
 rw [hm,Qam]
 rw [Qee (Qte (D:=D) (f:=f) (g:=g) (h:=fun d=>f d-g d) hD (B:=fun s=>Qa4 (vecN D f) (vecN D g) (List.replicate D 0) s.1 s.2) (fun k l1 hk hl=>by
  have a1:=hf k hk
  have a2:=hg k hk
  show Qa4 (vecN D f) (vecN D g) (List.replicate D 0) l1 k=_
  unfold Qa4 Qno
  rw [Qd8 (Qe3 hk),QaG (Qe3 hk),Qam,Qam,Qt1 (by omega),Qam,subI (by omega) (by omega),addI (by omega) (by omega)]) (fun l1=>by
  show Qa4 (vecN D f) (vecN D g) (List.replicate D 0) l1 D=_
  unfold Qa4
  rw [Qa2 (by simp [lenI,Qb6])]))]
 rfl
end Go.Proofs.YtfjiafgldchinaaGreatDoor
namespace Go.Proofs.YtfjiafgldchinaaGreatDoor
set_option linter.unusedSimpArgs false
set_option linter.unusedVariables false
set_option linter.unusedSectionVars false
def sumF {α:Type} (f:α→Int) (l:List α):Int:=(l.map f).sum
theorem QqO {α:Type} {f:α→Int} {a b:List α}:sumF f (a++b)=sumF f a+sumF f b:=by simp [sumF,List.sum_append]
theorem QqP {α:Type} {f:α→Int} {a:α}:sumF f [a]=f a:=by simp [sumF]
theorem take_one {α:Type} {l:List α} {k:Nat} {a:α} (h:l[k]?=some a):l.take (k+1)=l.take k++[a]:=by rw [List.take_add_one,h]; rfl
theorem QtP {α:Type} {f:α→Int} {l:List α} {k:Nat} {a:α} (h:l[k]?=some a):sumF f (l.take (k+1))=sumF f (l.take k)+f a:=by rw [take_one h,QqO,QqP]
theorem QtO {α:Type} {f:α→Int}:∀ {l:List α},(∀ a∈l,0≤f a∧f a≤1000)→0≤sumF f l∧sumF f l≤1000*l.length
 | [],_=>by simp [sumF]
 | a :: l,h=>by
  have h1:=QtO (f:=f) (l:=l) fun b hb=>h b (List.mem_cons_of_mem _ hb)
  have h2:=h a (List.mem_cons_self ..)
  have e:sumF f (a :: l)=f a+sumF f l:=by simp [sumF]
  rw [e,List.length_cons]
  omega
section
variable (x : Qac)
def loadO (i d:Nat):Int:=match x.orders[i]? with
 | some o=>o.load.getD d 0
 | none=>0
def pk0 (i:Nat):Bool:=match x.orders[i]? with
 | some o=>decide (o.pick.place<0)
 | none=>false
end
section
variable {x : Qac} {l : List Qab} {r : Qaw}
theorem QpO (hx:Qcy x) {i:Nat} (hi:i<x.orders.length):∃ o,x.orders[i]?=some o∧o∈x.orders∧o.load=vecN (Qcr x.types) (loadO x i)∧(∀ d,0≤loadO x i d∧loadO x i d≤1000)∧pk0 x i=decide (o.pick.place<0):=by
 have e:x.orders[i]?=some x.orders[i]:=List.getElem?_eq_getElem hi
 have hm:=List.getElem_mem hi
 generalize x.orders[i]=o at e hm
 have hO:=hx.ord o hm
 refine ⟨o,e,hm,?_,fun d=>?_,by unfold pk0; rw [e]⟩
 ·have:=QyA (l:=o.load)
  rw [hO.load] at this
  rw [this]
  refine Qfw fun d hd=>?_
  unfold loadO
  rw [e]
 ·unfold loadO
  rw [e]
  simp only
  rw [List.getD_eq_getElem?_getD]
  rcases Nat.lt_or_ge d o.load.length with h|h
  ·rw [List.getElem?_eq_getElem h]
   exact hO.loads d h _ (List.getElem?_eq_getElem h)
  ·rw [List.getElem?_eq_none h]; simp
theorem QsG (hx:Qcy x) (i d:Nat):0≤loadO x i d∧loadO x i d≤1000:=by
 rcases Nat.lt_or_ge i x.orders.length with h|h
 ·obtain ⟨o,_,_,_,h,_⟩:=QpO hx h
  exact h d
 ·unfold loadO
  rw [List.getElem?_eq_none h]; simp
theorem Qpv (hx:Qcy x):1≤Qcr x.types∧Qcr x.types≤3:=by
 have h1:=hx.types1
 cases ht:x.types with
 | nil=>rw [ht] at h1; simp at h1
 | cons t ts =>
  have:=(hx.typ t (by rw [ht]; simp)).dims1
  rw [ht] at this
  exact this
structure SeqOK (x:Qac) (l:List Qab):Prop where
 ne:l.length≠0
 inn:l.any (fun v=>!inO x v)=false
 off:l.any (offV x)=false
 nodup:l.Nodup
 pair:∀ v∈l,pairV x l v=true
 apart:x.apart.any (QyI l)=false
 before:x.before.any (badB l)=false
end
end Go.Proofs.YtfjiafgldchinaaGreatDoor
namespace Go.Proofs.YtfjiafgldchinaaGreatDoor
set_option linter.unusedSimpArgs false
set_option linter.unusedVariables false
set_option linter.unusedSectionVars false
section
variable {x : Qac} {l : List Qab} {r : Qaw}
def stO (x:Qac) (d:Nat) (i:Int):Int:=if pk0 x i.toNat=true then loadO x i.toNat d else 0
theorem Qys (hx:Qcy x) (d:Nat) (i:Int):0≤stO x d i∧stO x d i≤1000:=by
 have:=QsG hx i.toNat d
 unfold stO
 split <;> omega
theorem QxO {D:Nat} (hD:D≤3) {m:List (List Int)} (hm:m.length≤1000) (hl:∀ a∈m,a.length=D) (hb:∀ a∈m,∀ d,0≤a.getD d 0∧a.getD d 0≤1000):QfC m (D:Int)=some (vecN D fun d=>sumF (fun a=>a.getD d 0) m,0):=by
 have even:Qf0 m (D:Int)=some true:=by
  unfold Qf0
  rw [Qa2 (by simp; omega),Qee (QlT (B:=fun s=>QbU m (D:Int) s) (l:=m) (by omega) (fun a=>neI (lenI a) (D:Int)) (y:=(.inr false:Unit⊕Bool)) (N:=.inl ()) (fun i a h=>by
   show QbU m (D:Int) i=_
   unfold QbU
   rw [Qd8 h,incL h (by omega),brs]) (by
   show QbU m (D:Int) m.length=_
   unfold QbU
   rw [QcL]))]
  rw [if_neg]
  ·rfl
  ·rw [List.any_eq_true]
   rintro ⟨a,ha,h⟩
   rw [neI_t,lenI,hl a ha] at h
   exact h rfl
 unfold QfC
 rw [even,Qam,Qb4]
 have this:loopF (fun q:List Int×Int=>QbL m (D:Int) q.1 q.2) ([],0)=some (vecN D fun d=>sumF (fun a=>a.getD d 0) m):=by
  have:=Qgh D (fun k=>(vecN k (fun d=>sumF (fun a=>a.getD d 0) m),(k:Int))) (B:=fun q:List Int×Int=>QbL m (D:Int) q.1 q.2) (e:=vecN D fun d=>sumF (fun a=>a.getD d 0) m) (by omega) (fun k hk=>by
   show QbL m (D:Int) (vecN k (fun d=>sumF (fun a=>a.getD d 0) m)) (k:Int)=some (Sum.inl (vecN (k+1) (fun d=>sumF (fun a=>a.getD d 0) m),((k+1:Nat):Int)))
   unfold QbL
   rw [Qcq (by simp; omega)]
   have inner:loopF (fun q:Int×Int=>QbM m (D:Int) (vecN k (fun d=>sumF (fun a=>a.getD d 0) m)) (k:Int) q.1 q.2) (0,0)=some (sumF (fun a=>a.getD k 0) m):=by
    have:=Qgh m.length (fun j=>(sumF (fun a:List Int=>a.getD k 0) (m.take j),(j:Int))) (B:=fun q:Int×Int=>QbM m (D:Int) (vecN k (fun d=>sumF (fun a=>a.getD d 0) m)) (k:Int) q.1 q.2) (e:=sumF (fun a=>a.getD k 0) m) (by omega) (fun j hj=>by
     have e:m[j]?=some m[j]:=List.getElem?_eq_getElem hj
     have hmj:=List.getElem_mem hj
     generalize m[j]=a at e hmj
     have ha:=hl a hmj
     have hab:=hb a hmj k
     have e2:a[k]?=some (a.getD k 0):=by rw [List.getD_eq_getElem?_getD,List.getElem?_eq_getElem (show k<a.length by omega)]; rfl
     have sb:=QtO (f:=fun a:List Int=>a.getD k 0) (l:=m.take j) fun c hc=>hb c (List.mem_of_mem_take hc) k
     have hlt:(m.take j).length≤1000:=by rw [List.length_take]; omega
     show QbM m (D:Int) (vecN k (fun d=>sumF (fun a=>a.getD d 0) m)) (k:Int) (sumF (fun a:List Int=>a.getD k 0) (m.take j)) (j:Int)=some (Sum.inl (sumF (fun a:List Int=>a.getD k 0) (m.take (j+1)),((j+1:Nat):Int)))
     unfold QbM
     rw [Qd8 e,QaG e2,Qam,incL e (by omega),addI (by omega) (by omega),QtP e]
     rfl) (by
     show QbM m (D:Int) (vecN k (fun d=>sumF (fun a=>a.getD d 0) m)) (k:Int) (sumF (fun a:List Int=>a.getD k 0) (m.take m.length)) (m.length:Int)=_
     unfold QbM
     rw [QcL,List.take_length])
    exact this
   have ev:vecN (k+1) (fun d=>sumF (fun a:List Int=>a.getD d 0) m)=vecN k (fun d=>sumF (fun a:List Int=>a.getD d 0) m)++[sumF (fun a:List Int=>a.getD k 0) m]:=by simp [vecN,List.range_succ]
   rw [Qee inner,Qjq (by unfold okN; simp [Qb6]; omega),addI (by omega) (by omega),ev]
   rfl) (by
   show QbL m (D:Int) (vecN D (fun d=>sumF (fun a=>a.getD d 0) m)) (D:Int)=_
   unfold QbL
   rw [Qa2 (by simp)])
  exact this
 rw [Qee this]
def overB (cap a:List Int):Bool:=(List.range a.length).any fun i=>gtI (a.getD i 0) (cap.getD i 0)
theorem Qrc {a cap:List Int} (ha:a.length=cap.length) (hl:a.length≤1048576):QgH a cap=some (!overB cap a)∧Qdh a cap=some (!overB cap a):=by
 have g:∀ i,i<a.length→a[i]?=some (a.getD i 0)∧cap[i]?=some (cap.getD i 0):=fun i hi=>by
  rw [List.getD_eq_getElem?_getD,List.getD_eq_getElem?_getD,List.getElem?_eq_getElem hi,List.getElem?_eq_getElem (show i<cap.length by omega)]
  exact ⟨rfl,rfl⟩
 have hb:overB cap a=true↔∃ k,k<a.length∧gtI (a.getD k 0) (cap.getD k 0)=true:=by
  unfold overB
  rw [List.any_eq_true]
  exact ⟨fun ⟨k,hk,h⟩=>⟨k,List.mem_range.1 hk,h⟩,fun ⟨k,hk,h⟩=>⟨k,List.mem_range.2 hk,h⟩⟩
 constructor
 ·unfold QgH
  rw [Qa2 (by simp [lenI,ha]),Qee (QvA (B:=fun s=>QdN a cap s) hl (fun k=>gtI (a.getD k 0) (cap.getD k 0)) (y:=(.inr false:Unit⊕Bool)) (N:=.inl ()) hb (fun i hi=>by
   show QdN a cap i=_
   unfold QdN
   rw [Qd8 (g i hi).1,QaG (g i hi).2,Qam,inc hi hl,brs]) (by
   show QdN a cap a.length=_
   unfold QdN
   rw [QcL]))]
  cases overB cap a <;> rfl
 ·unfold Qdh
  rw [Qa2 (by simp [lenI,ha]),Qee (QvA (B:=fun s=>QbT a cap s) hl (fun k=>gtI (a.getD k 0) (cap.getD k 0)) (y:=(.inr false:Unit⊕Bool)) (N:=.inl ()) hb (fun i hi=>by
   show QbT a cap i=_
   unfold QbT
   rw [Qd8 (g i hi).1,QaG (g i hi).2,Qam,inc hi hl,brs]) (by
   show QbT a cap a.length=_
   unfold QbT
   rw [QcL]))]
  cases overB cap a <;> rfl
theorem Qyy (h0:0≤r.type_) (h1:r.type_<x.types.length):getI x.types r.type_=some (typS x r)∧typS x r∈x.types:=by
 have e:x.types[r.type_.toNat]?=some (x.types[r.type_.toNat]'(by omega)):=List.getElem?_eq_getElem _
 have ht:typS x r=x.types[r.type_.toNat]'(by omega):=by unfold typS; rw [List.getD_eq_getElem?_getD,e]; rfl
 rw [ht]
 exact ⟨Qqd h0 h1,List.getElem_mem _⟩
end
end Go.Proofs.YtfjiafgldchinaaGreatDoor
namespace Go.Proofs.YtfjiafgldchinaaGreatDoor
set_option linter.unusedSimpArgs false
set_option linter.unusedVariables false
set_option linter.unusedSectionVars false
theorem QxB {m:List (Int×Int)} {k k' v z:Int}:mGet eqI (mPut eqI m k v) k' z=if k'=k then v else mGet eqI m k' z:=by
 induction m with
 | nil =>
  unfold mPut mGet mGet
  by_cases h:k'=k
  ·rw [if_pos h,show eqI k' k=true by simpa using h]; rfl
  ·rw [if_neg h,show eqI k' k=false by simpa using h]; rfl
 | cons p r ih =>
  unfold mPut
  cases hp:eqI k p.1 with
  | true =>
   have hp':k=p.1:=by simpa using hp
   simp only [cond_true]
   unfold mGet
   by_cases h:k'=k
   ·rw [if_pos h,show eqI k' k=true by simpa using h]; rfl
   ·rw [if_neg h,show eqI k' k=false by simpa using h,show eqI k' p.1=false by rw [← hp']; simpa using h]; rfl
  | false =>
   have hp':k≠p.1:=by simpa using hp
   simp only [cond_false]
   unfold mGet
   rw [ih]
   by_cases h:k'=k
   ·rw [if_pos h,show eqI k' p.1=false by rw [h]; exact hp,if_pos h]; rfl
   ·rw [if_neg h,if_neg h]
section
variable {x : Qac} {l : List Qab} {r : Qaw} {s0 : QaB}
def cntV (l:List Qab) (o:Int):Int:=sumF (fun v:Qab=>if v.order=o then 1 else 0) l
theorem Qus {o:Int}:0≤cntV l o∧cntV l o≤l.length∧(0<cntV l o↔hasO l o=true):=by
 induction l with
 | nil=>simp [cntV,sumF,hasO]
 | cons v l ih =>
  have e:cntV (v :: l) o=(if v.order=o then 1 else 0)+cntV l o:=by simp [cntV,sumF]
  have e2:hasO (v :: l) o=(isO o v||hasO l o):=by simp [hasO]
  rw [e,e2,List.length_cons,Bool.or_eq_true,isO_t]
  split
  ·rename_i h
   refine ⟨by omega,by omega,fun _=>.inl h,fun _=>by omega⟩
  ·rename_i h
   refine ⟨by omega,by omega,fun h'=>.inr (ih.2.2.1 (by omega)),fun h'=>?_⟩
   rcases h' with h'|h'
   ·exact absurd h' h
   ·have:=ih.2.2.2 h'; omega
def mapK (l:List Qab):List (Int×Int):=l.foldl (fun m v=>mPut eqI m v.order (addK .i64 (mGet eqI m v.order 0) 1)) []
theorem Qtw {v:Qab}:mapK (l++[v])=mPut eqI (mapK l) v.order (addK .i64 (mGet eqI (mapK l) v.order 0) 1):=by simp [mapK]
theorem QxC {l:List Qab} (hl:l.length≤1048576) (o:Int):mGet eqI (mapK l) o 0=cntV l o:=by
 have main:∀ k,k≤l.length→mGet eqI (mapK (l.take k)) o 0=cntV (l.take k) o:=by
  intro k hk
  induction k generalizing o with
  | zero=>rfl
  | succ k ih =>
   have e:l[k]?=some l[k]:=List.getElem?_eq_getElem (by omega)
   generalize l[k]=v at e
   rw [take_one e,Qtw,QxB]
   have e2:cntV (l.take k++[v]) o=cntV (l.take k) o+(if v.order=o then 1 else 0):=by unfold cntV; rw [QqO,QqP]
   have hb:=(Qus (l:=l.take k) (o:=v.order)).2.1
   have hb0:=(Qus (l:=l.take k) (o:=v.order)).1
   have hlen:(l.take k).length≤k:=by rw [List.length_take]; omega
   rw [e2,ih v.order (by omega),ih o (by omega),addI (by omega) (by omega)]
   by_cases h:o=v.order
   ·rw [if_pos h,if_pos h.symm,h]
   ·rw [if_neg h,if_neg fun h'=>h h'.symm]; omega
 have:=main l.length (Nat.le_refl _)
 rwa [List.take_length] at this
def forB (kind own:Int):Bool:=neI kind (-1)&&neI kind own
def bit1 (b:Bool):Int:=if b=true then 1 else 0
def pairK (x:Qac) (r:Qaw):Nat→Int×Int
 | 0=>(0,0)
 | k+1=>match r.visits[k]? with
  | none=>pairK x r k
  | some v=>match (if 0≤v.order then x.orders[v.order.toNat]? else none) with
   | none=>pairK x r k
   | some o=>if hasO (r.visits.take k) v.order=true then pairK x r k else ((pairK x r k).1+bit1 (forB o.now r.type_),(pairK x r k).2+bit1 (forB o.last_ r.type_))
theorem Qq7 {b:Bool}:0≤bit1 b∧bit1 b≤1:=by cases b <;> simp [bit1]
theorem QrE:∀ k,(0≤(pairK x r k).1∧(pairK x r k).1≤k)∧(0≤(pairK x r k).2∧(pairK x r k).2≤k)
 | 0=>by simp [pairK]
 | k+1=>by
  have ih:=QrE k
  unfold pairK
  split
  ·omega
  ·split
   ·omega
   ·rename_i o _
    have h1:=Qq7 (b:=forB o.now r.type_)
    have h2:=Qq7 (b:=forB o.last_ r.type_)
    split
    ·omega
    ·simp only; omega
theorem QtC (hx:Qcy x):∀ k,k≤r.visits.length→(pairK x r k).1≤sumN x.orders.length (fun i=>bit1 (hasO (r.visits.take k) (i:Int)))∧(pairK x r k).2≤sumN x.orders.length (fun i=>bit1 (hasO (r.visits.take k) (i:Int)))
 | 0,_=>by
  have:=(QvL (f:=fun i=>bit1 (hasO (r.visits.take 0) (i:Int))) (c:=1) (by omega) x.orders.length fun i=>Qq7).1
  simp only [pairK]
  omega
 | k+1,hk=>by
  have ih:=QtC hx k (by omega)
  have e:r.visits[k]?=some r.visits[k]:=List.getElem?_eq_getElem (by omega)
  generalize r.visits[k]=v at e
  have hh:∀ i:Nat,hasO (r.visits.take (k+1)) (i:Int)=(hasO (r.visits.take k) (i:Int)||isO (i:Int) v):=fun i=>by rw [take_one e]; simp [hasO]
  have mono:sumN x.orders.length (fun i=>bit1 (hasO (r.visits.take k) (i:Int)))≤sumN x.orders.length (fun i=>bit1 (hasO (r.visits.take (k+1)) (i:Int))):=by
   generalize x.orders.length=n
   induction n with
   | zero=>exact Int.le_refl _
   | succ n ihn =>
    show sumN n (fun i=>bit1 (hasO (r.visits.take k) (i:Int)))+bit1 (hasO (r.visits.take k) (n:Int))≤sumN n (fun i=>bit1 (hasO (r.visits.take (k+1)) (i:Int)))+bit1 (hasO (r.visits.take (k+1)) (n:Int))
    have:=hh n
    have h2:bit1 (hasO (r.visits.take k) (n:Int))≤bit1 (hasO (r.visits.take (k+1)) (n:Int)):=by
     rw [this]
     cases hasO (r.visits.take k) (n:Int) <;> cases isO (n:Int) v <;> simp [bit1]
    omega
  unfold pairK
  rw [e]
  simp only
  split
  ·omega
  ·rename_i o ho
   split at ho
   ·rename_i h0
    have hlt:=(List.getElem?_eq_some_iff.1 ho).1
    have h1:=Qq7 (b:=forB o.now r.type_)
    have h2:=Qq7 (b:=forB o.last_ r.type_)
    split
    ·omega
    ·rename_i hn
     obtain ⟨i,hi⟩:∃ i:Nat,v.order=i:=⟨v.order.toNat,by omega⟩
     rw [hi] at hn hlt
     have up:=QvM (f:=fun i=>bit1 (hasO (r.visits.take k) (i:Int))) (g:=fun i=>bit1 (hasO (r.visits.take (k+1)) (i:Int))) (o:=i) x.orders.length (by omega) (fun j hj=>by
      have hjf:isO (j:Int) v=false:=by
       rw [Bool.eq_false_iff]
       intro h
       have:=isO_t.1 h
       omega
      show bit1 (hasO (r.visits.take (k+1)) (j:Int))=bit1 (hasO (r.visits.take k) (j:Int))
      rw [hh,hjf,Bool.or_false])
     rw [up]
     have e1:bit1 (hasO (r.visits.take (k+1)) (i:Int))=1:=by rw [hh,isO_t.2 hi,Bool.or_true]; rfl
     have e2:bit1 (hasO (r.visits.take k) (i:Int))=0:=by rw [Bool.eq_false_iff.2 hn]; rfl
     rw [e1,e2]
     omega
   ·cases ho
def scoS (x:Qac) (r:Qaw) (s0:QaB):QaK :=
 QaK.mk (addK .i64 (addK .i64 (typS x r).fixed (mulK .i64 (typS x r).perMile s0.miles)) (mulK .i64 (typS x r).perTick (subK .i64 s0.end_ (typS x r).open_))) (pairK x r r.visits.length).1 (pairK x r r.visits.length).2 (mulK .i64 (quoK .i64 (subK .i64 s0.end_ (typS x r).open_) 64) (quoK .i64 (subK .i64 s0.end_ (typS x r).open_) 64))
theorem Qw5 (hx:Qcy x) (hl:r.visits.length≤1048576) (ht:0≤r.type_∧r.type_<x.types.length):Qjp x r s0=some (scoS x r s0):=by
 obtain ⟨t1,t2⟩:=Qyy ht.1 ht.2
 have h10:=hx.orders
 unfold Qjp
 rw [Qa2 (by simp [lenI]; omega),t1,Qam]
 have this:loopF (fun q:List (Int×Int)×Int×Int×Int=>QcJ x r s0 (typS x r) q.1 q.2.1 q.2.2.1 q.2.2.2) ([],0,0,0)=some (pairK x r r.visits.length):=by
  have:=Qgh r.visits.length (fun k=>(mapK (r.visits.take k),(pairK x r k).1,(pairK x r k).2,(k:Int))) (B:=fun q:List (Int×Int)×Int×Int×Int=>QcJ x r s0 (typS x r) q.1 q.2.1 q.2.2.1 q.2.2.2) (e:=pairK x r r.visits.length) (by omega) (fun k hk=>by
   have e:r.visits[k]?=some r.visits[k]:=List.getElem?_eq_getElem hk
   generalize r.visits[k]=v at e
   show QcJ x r s0 (typS x r) (mapK (r.visits.take k)) (pairK x r k).1 (pairK x r k).2 (k:Int)=some (Sum.inl (mapK (r.visits.take (k+1)),(pairK x r (k+1)).1,(pairK x r (k+1)).2,((k+1:Nat):Int)))
   unfold QcJ Qg1 QiA
   rw [Qd8 e,← Qtw,← take_one e,incL e hl]
   have hlen:(r.visits.take k).length≤1048576:=by rw [List.length_take]; omega
   have hlen1:(r.visits.take (k+1)).length≤1048576:=by rw [List.length_take]; omega
   have hp:=QrE (x:=x) (r:=r) k
   have hg:gtI (mGet eqI (mapK (r.visits.take (k+1))) v.order 0) 1=hasO (r.visits.take k) v.order:=by
    rw [QxC hlen1,take_one e]
    have e2:cntV (r.visits.take k++[v]) v.order=cntV (r.visits.take k) v.order+1:=by unfold cntV; rw [QqO,QqP,if_pos rfl]
    have:=(Qus (l:=r.visits.take k) (o:=v.order)).2.2
    rw [e2,Bool.eq_iff_iff,gtI_t,← this]
    omega
   rw [hg]
   show _=some (Sum.inl (mapK (r.visits.take (k+1)),(pairK x r (k+1)).1,(pairK x r (k+1)).2,(k:Int)+1))
   have hP:pairK x r (k+1)=match (if 0≤v.order then x.orders[v.order.toNat]? else none) with
    | none=>pairK x r k
    | some o=>if hasO (r.visits.take k) v.order=true then pairK x r k else ((pairK x r k).1+bit1 (forB o.now r.type_),(pairK x r k).2+bit1 (forB o.last_ r.type_)):=by
    show (match r.visits[k]? with
     | none=>pairK x r k
     | some v=>match (if 0≤v.order then x.orders[v.order.toNat]? else none) with
      | none=>pairK x r k
      | some o=>if hasO (r.visits.take k) v.order=true then pairK x r k else ((pairK x r k).1+bit1 (forB o.now r.type_),(pairK x r k).2+bit1 (forB o.last_ r.type_)))=_
    rw [e]
   rw [hP]
   by_cases hin:0≤v.order∧v.order<x.orders.length
   ·rw [Qa2 (by simp [lenI]; omega),if_pos hin.1]
    have eo:x.orders[v.order.toNat]?=some (x.orders[v.order.toNat]'(by omega)):=List.getElem?_eq_getElem _
    generalize x.orders[v.order.toNat]'(by omega)=o at eo
    have eg:getI x.orders v.order=some o:=by unfold getI; rw [if_pos hin.1,eo]
    rw [eo,eg]
    simp only [Qam]
    cases hasO (r.visits.take k) v.order with
    | true=>rfl
    | false =>
     rw [QbP,if_neg (by decide),show (neI o.now (-1)&&neI o.now r.type_)=forB o.now r.type_ from rfl,show (neI o.last_ (-1)&&neI o.last_ r.type_)=forB o.last_ r.type_ from rfl,addI (by omega) (by omega),addI (by omega) (by omega)]
     generalize pairK x r k=p
     cases forB o.now r.type_ <;> cases forB o.last_ r.type_ <;> simp [bit1]
   ·rw [Qcq (by simp [lenI]; omega)]
    have:(if 0≤v.order then x.orders[v.order.toNat]? else none)=none:=by
     split
     ·exact List.getElem?_eq_none (by omega)
     ·rfl
    rw [this]) (by
   show QcJ x r s0 (typS x r) (mapK (r.visits.take r.visits.length)) (pairK x r r.visits.length).1 (pairK x r r.visits.length).2 (r.visits.length:Int)=_
   unfold QcJ
   rw [QcL])
  exact this
 rw [Qee this]
 rfl
theorem Qv2 (hl:l.length≤1048576) {k:Nat} {v:Qab} (e:l[k]?=some v):QeU l (k:Int)=some (!hasO (l.take k) v.order):=by
 have hk:=(List.getElem?_eq_some_iff.1 e).1
 have:=QvA (B:=fun q=>Qbq l (k:Int) q) (n:=k) (by omega) (fun j=>match l[j]? with|some w=>eqI w.order v.order|none=>false) (y:=(.inr false:Unit⊕Bool)) (N:=.inl ()) (b:=hasO (l.take k) v.order) (by
  rw [Qwc]
  constructor
  ·rintro ⟨w,hw,he⟩
   obtain ⟨j,hj,hje⟩:=(QvN (by omega)).1 hw
   exact ⟨j,hj,by rw [hje]; simpa using he⟩
  ·rintro ⟨j,hj,h⟩
   rw [List.getElem?_eq_getElem (show j<l.length by omega)] at h
   exact ⟨_,(QvN (by omega)).2 ⟨j,hj,List.getElem?_eq_getElem (by omega)⟩,by simpa using h⟩) (fun j hj=>by
  have ej:l[j]?=some (l[j]'(by omega)):=List.getElem?_eq_getElem _
  show Qbq l (k:Int) j=_
  unfold Qbq
  rw [Qcq (by simp; omega),QaG ej,Qam,QaG e,Qam,incL ej hl,brs,ej]) (by
  show Qbq l (k:Int) k=_
  unfold Qbq
  rw [Qa2 (by simp)])
 unfold QeU
 rw [Qee this]
 cases hasO (l.take k) v.order <;> rfl
theorem Qui (hx:Qcy x) (hl:r.visits.length≤1048576) (ht:0≤r.type_∧r.type_<x.types.length):Qeo x r s0=some (scoS x r s0):=by
 obtain ⟨t1,t2⟩:=Qyy ht.1 ht.2
 have h10:=hx.orders
 unfold Qeo
 rw [Qa2 (by simp [lenI]; omega),t1,Qam]
 have this:loopF (fun q:Int×Int×Int=>Qbj x r s0 (typS x r) q.1 q.2.1 q.2.2) (0,0,0)=some (pairK x r r.visits.length):=by
  have:=Qgh r.visits.length (fun k=>((pairK x r k).1,(pairK x r k).2,(k:Int))) (B:=fun q:Int×Int×Int=>Qbj x r s0 (typS x r) q.1 q.2.1 q.2.2) (e:=pairK x r r.visits.length) (by omega) (fun k hk=>by
   have e:r.visits[k]?=some r.visits[k]:=List.getElem?_eq_getElem hk
   generalize r.visits[k]=v at e
   show Qbj x r s0 (typS x r) (pairK x r k).1 (pairK x r k).2 (k:Int)=some (Sum.inl ((pairK x r (k+1)).1,(pairK x r (k+1)).2,((k+1:Nat):Int)))
   unfold Qbj QdX
   rw [Qd8 e,incL e hl,Qv2 hl e]
   have hp:=QrE (x:=x) (r:=r) k
   show _=some (Sum.inl ((pairK x r (k+1)).1,(pairK x r (k+1)).2,(k:Int)+1))
   have hP:pairK x r (k+1)=match (if 0≤v.order then x.orders[v.order.toNat]? else none) with
    | none=>pairK x r k
    | some o=>if hasO (r.visits.take k) v.order=true then pairK x r k else ((pairK x r k).1+bit1 (forB o.now r.type_),(pairK x r k).2+bit1 (forB o.last_ r.type_)):=by
    show (match r.visits[k]? with
     | none=>pairK x r k
     | some v=>match (if 0≤v.order then x.orders[v.order.toNat]? else none) with
      | none=>pairK x r k
      | some o=>if hasO (r.visits.take k) v.order=true then pairK x r k else ((pairK x r k).1+bit1 (forB o.now r.type_),(pairK x r k).2+bit1 (forB o.last_ r.type_)))=_
    rw [e]
   rw [hP]
   by_cases hin:0≤v.order∧v.order<x.orders.length
   ·rw [Qa2 (by simp [lenI]; omega),if_pos hin.1]
    have eo:x.orders[v.order.toNat]?=some (x.orders[v.order.toNat]'(by omega)):=List.getElem?_eq_getElem _
    generalize x.orders[v.order.toNat]'(by omega)=o at eo
    have eg:getI x.orders v.order=some o:=by unfold getI; rw [if_pos hin.1,eo]
    rw [eo,eg]
    simp only [Qam]
    cases hasO (r.visits.take k) v.order with
    | true=>rfl
    | false =>
     rw [Bool.not_false,Qb4,if_neg (by decide),addI (by omega) (by omega),addI (by omega) (by omega)]
     generalize pairK x r k=p
     unfold forB
     cases neI o.now (-1) <;> cases neI o.now r.type_ <;> cases neI o.last_ (-1) <;> cases neI o.last_ r.type_ <;> simp [bit1]
   ·rw [Qcq (by simp [lenI]; omega)]
    have:(if 0≤v.order then x.orders[v.order.toNat]? else none)=none:=by
     split
     ·exact List.getElem?_eq_none (by omega)
     ·rfl
    rw [this]) (by
   show Qbj x r s0 (typS x r) (pairK x r r.visits.length).1 (pairK x r r.visits.length).2 (r.visits.length:Int)=_
   unfold Qbj
   rw [QcL])
  exact this
 rw [Qee this]
 rfl
end
theorem QvZ (s:QaK):∃ w,QeM s=some w∧Qda s=some w:=by
 unfold QeM Qda Qlr QgY
 simp only [Qam]
 cases h1:ltI s.cost 0 with
 | true=>exact ⟨_,rfl,rfl⟩
 | false =>
  cases h2:ltI s.moved 0 with
  | true=>exact ⟨_,rfl,rfl⟩
  | false =>
   cases h3:ltI s.other 0 with
   | true=>exact ⟨_,rfl,rfl⟩
   | false =>
    cases h4:ltI s.work 0 with
    | true=>exact ⟨_,rfl,rfl⟩
    | false =>
     have e:(((((((geI s.cost 0&&leI s.cost 1073741824)&&geI s.moved 0)&&leI s.moved 15)&&geI s.other 0)&&leI s.other 15)&&geI s.work 0)&&leI s.work 65535)=!(((gtI s.cost 1073741824||geI s.moved 16)||geI s.other 16)||geI s.work 65536):=by
      simp only [ltI_f] at h1 h2 h3 h4
      rw [Bool.eq_iff_iff]
      simp only [Bool.and_eq_true,geI_t,leI_t,Bool.not_eq_true',Bool.or_eq_false_iff,gtI_f,geI_f]
      omega
     rw [e]
     simp only [QbP]
     cases ((gtI s.cost 1073741824||geI s.moved 16)||geI s.other 16)||geI s.work 65536
     ·exact ⟨_,rfl,rfl⟩
     ·exact ⟨_,rfl,rfl⟩
end Go.Proofs.YtfjiafgldchinaaGreatDoor
namespace Go.Proofs.YtfjiafgldchinaaGreatDoor
set_option linter.unusedSimpArgs false
set_option linter.unusedVariables false
set_option linter.unusedSectionVars false
theorem QrA:∀ (n:Nat) (l:List Nat),l.Nodup→(∀ a∈l,a<n)→l.length≤n
 | 0,l,_,h=>by
  cases l with
  | nil=>simp
  | cons a r=>exact absurd (h a (by simp)) (by omega)
 | n+1,l,hd,h=>by
  by_cases hm:n∈l
  ·have h1:=QrA n (l.erase n) (hd.erase n) fun a ha=>by
    have h2:=(hd.mem_erase_iff).1 ha
    have:=h a h2.2
    omega
   rw [List.length_erase_of_mem hm] at h1
   omega
  ·have:=QrA n l hd fun a ha=>by
    have:=h a ha
    have:a≠n:=fun e=>hm (e ▸ ha)
    omega
   omega
section
variable {x : Qac} {l : List Qab} {r : Qaw}
theorem SeqOK.short (hx:Qcy x) (h:SeqOK x l):l.length≤20:=by
 have h10:=hx.orders
 have hm:(l.map fun v:Qab=>2*v.order.toNat+(if v.drop=true then 1 else 0)).Nodup:=by
  unfold List.Nodup
  rw [List.pairwise_map]
  refine h.nodup.imp_of_mem fun {a b} ha hb hne he=>hne ?_
  have h1:=Qwf h.inn ha
  have h2:=Qwf h.inn hb
  cases a with
  | mk ao ad =>
   cases b with
   | mk bo bd =>
    simp only at h1 h2 he
    have hd:ad=bd∧ao=bo:=by
     cases ad <;> cases bd <;> simp at he ⊢ <;> omega
    rw [hd.1,hd.2]
 have:=QrA 20 _ hm fun a ha=>by
  obtain ⟨v,hv,rfl⟩:=List.mem_map.1 ha
  have h1:=Qwf h.inn hv
  split <;> omega
 simpa using this
end
end Go.Proofs.YtfjiafgldchinaaGreatDoor
namespace Go.Proofs.YtfjiafgldchinaaGreatDoor
set_option linter.unusedSimpArgs false
set_option linter.unusedVariables false
set_option linter.unusedSectionVars false
theorem Qyj {n:Qak} (h:Qak.ok 1048576 n):NetI n:=by
 obtain ⟨⟨h1,h2⟩,⟨h3,h4⟩,_⟩:=h
 refine ⟨h1,h3,h2,fun a ha=>?_⟩
 obtain ⟨_,_,_,_,⟨h5,h6⟩,⟨h7,h8⟩,_⟩:=h4 a ha
 exact ⟨h5,h7,fun p hp=>⟨(h6 p hp).1,(h6 p hp).2.1⟩,fun p hp=>⟨(h8 p hp).1,(h8 p hp).2.1⟩⟩
end Go.Proofs.YtfjiafgldchinaaGreatDoor
namespace Go.Proofs.YtfjiafgldchinaaGreatDoor
set_option linter.unusedSimpArgs false
set_option linter.unusedVariables false
set_option linter.unusedSectionVars false
theorem QuI {x:Qac} (h:Qac.ok 1048576 x):InstI x:=by
 obtain ⟨h0,⟨h1,h2⟩,⟨h3,h4⟩,⟨h5,_⟩,⟨h6,_⟩,_⟩:=h
 refine ⟨Qyj h0,h1,h3,h5,h6,fun t ht=>?_,fun o ho=>?_⟩
 ·obtain ⟨a,_,_,_,⟨b,_⟩,_⟩:=h2 t ht
  exact ⟨a,b⟩
 ·obtain ⟨a,⟨b,_⟩,_⟩:=h4 o ho
  exact ⟨a,b⟩
end Go.Proofs.YtfjiafgldchinaaGreatDoor
