/- Part MR of the proof: texts Lra Lrb Lrc Lrd Lre Lrf Lrg Lrh Lri Lrj Lta Ltb Lqz Lqze. -/
import Derived.Test.YtfjiafgldchinaaGreatDoorMP
import Derived.Test.YtfjiafgldchinaaGreatDoorMQ
import Derived.Test.YtfjiafgldchinaaGreatDoorMT
namespace Go.Proofs.YtfjiafgldchinaaGreatDoor
set_option linter.unusedSimpArgs false
set_option linter.unusedVariables false
set_option linter.unusedSectionVars false
def ixP {α:Type} (p:α→Bool):List α→Option Nat
 | []=>none
 | a :: r=>if p a=true then some 0 else (ixP p r).map (·+1)
section
variable {α : Type} {p : α → Bool}
theorem QpJ {l:List α} {k:Nat} (h:ixP p l=some k):∃ hk:k<l.length,p l[k]=true∧∀ j (hj:j<k),p (l[j]'(by omega))=false:=by
 induction l generalizing k with
 | nil=>cases h
 | cons a r ih =>
  unfold ixP at h
  split at h
  ·cases h
   exact ⟨by simp,by simpa,fun j hj=>by omega⟩
  ·rename_i ha
   rw [Option.map_eq_some_iff] at h
   obtain ⟨m,hm,rfl⟩:=h
   obtain ⟨h1,h2,h3⟩:=ih hm
   refine ⟨by simp; omega,by simpa using h2,fun j hj=>?_⟩
   cases j with
   | zero=>simpa using ha
   | succ j=>simpa using h3 j (by omega)
theorem QuS {l:List α} (h:ixP p l=none):∀ a∈l,p a=false:=by
 induction l with
 | nil=>simp
 | cons a r ih =>
  unfold ixP at h
  split at h
  ·cases h
  ·rename_i ha
   rw [Option.map_eq_none_iff] at h
   intro b hb
   rcases List.mem_cons.1 hb with rfl|hb
   ·simpa using ha
   ·exact ih h b hb
def ixI (p:α→Bool) (l:List α):Int:=match ixP p l with
 | some k=>k
 | none=>-1
theorem QBL {l:List α}:0≤ixI p l↔∃ a∈l,p a=true:=by
 unfold ixI
 cases h:ixP p l with
 | some k =>
  obtain ⟨h1,h2,_⟩:=QpJ h
  exact ⟨fun _=>⟨_,List.getElem_mem h1,h2⟩,fun _=>Int.natCast_nonneg k⟩
 | none=>exact ⟨fun h'=>by simp at h',fun ⟨a,ha,hp⟩=>by rw [QuS h a ha] at hp; cases hp⟩
theorem QBM {l:List α}:-1≤ixI p l∧ixI p l<l.length:=by
 unfold ixI
 cases h:ixP p l with
 | some k=>have:=(QpJ h).1; simp only; omega
 | none=>simp only; omega
theorem Qrm {l:List α}:geI (ixI p l) 0=l.any p:=by
 rw [Bool.eq_iff_iff,geI_t,QBL,List.any_eq_true]
end
section
variable {E : Type} {B : Int → Option (Int ⊕ E)}
theorem QBu {n:Nat} (hn:n≤1048576) (p:Nat→Bool) (Y:Nat→E) {N:E}
  (hin:∀ i:Nat,i<n→B (i:Int)=some (if p i=true then .inr (Y i) else .inl ((i:Int)+1))) (hend:B (n:Int)=some (.inr N)) :
  (∃ k,k<n∧p k=true∧(∀ j,j<k→p j=false)∧loopF B 0=some (Y k))∨((∀ j,j<n→p j=false)∧loopF B 0=some N):=by
 have main:post (loopF B 0) fun e=>(∃ k,k<n∧p k=true∧(∀ j,j<k→p j=false)∧e=Y k)∨((∀ j,j<n→p j=false)∧e=N):=by
  refine Qde (fun i=>∃ k:Nat,i=(k:Int)∧k≤n∧∀ j,j<k→p j=false) (fun i=>n-i.toNat) ⟨0,rfl,Nat.zero_le _,fun j hj=>by omega⟩ (by simp; omega) ?_
  rintro _ ⟨k,rfl,hk,hf⟩
  rcases Nat.lt_or_ge k n with h|h
  ·rw [hin k h]
   split
   ·rename_i hp
    exact Qdn (.inl ⟨k,h,hp,hf,rfl⟩)
   ·rename_i hp
    refine Qeu ⟨⟨k+1,by simp,by omega,fun j hj=>?_⟩,by simp; omega⟩
    rcases Nat.lt_or_eq_of_le (Nat.le_of_lt_succ hj) with hj|rfl
    ·exact hf j hj
    ·simpa using hp
  ·obtain rfl:k=n:=by omega
   rw [hend]
   exact Qdn (.inr ⟨hf,rfl⟩)
 obtain ⟨e,he,h⟩:=main
 rcases h with ⟨k,h1,h2,h3,rfl⟩|⟨h1,rfl⟩
 ·exact .inl ⟨k,h1,h2,h3,he⟩
 ·exact .inr ⟨h1,he⟩
theorem Qur {n:Nat} (hn:n≤1048576) (p:Nat→Bool) {y N:E} {b:Bool} (hb:b=true↔∃ k,k<n∧p k=true)
  (hin:∀ i:Nat,i<n→B (i:Int)=some (if p i=true then .inr y else .inl ((i:Int)+1))) (hend:B (n:Int)=some (.inr N)) :
  loopF B 0=some (if b=true then y else N):=by
 rcases QBu hn p (fun _=>y) hin hend with ⟨k,h1,h2,_,h4⟩|⟨h1,h4⟩
 ·rw [h4,if_pos (hb.2 ⟨k,h1,h2⟩)]
 ·rw [h4,if_neg fun h=>by obtain ⟨k,h5,h6⟩:=hb.1 h; rw [h1 k h5] at h6; cases h6]
theorem QcR {α:Type} {l:List α} (hl:l.length≤1048576) (p:α→Bool) {y N:E}
  (hin:∀ (i:Nat) a,l[i]?=some a→B (i:Int)=some (if p a=true then .inr y else .inl ((i:Int)+1))) (hend:B (l.length:Int)=some (.inr N)) :
  loopF B 0=some (if l.any p=true then y else N):=by
 refine Qur hl (fun i=>match l[i]? with|some a=>p a|none=>false) ?_ (fun i hi=>?_) hend
 ·rw [List.any_eq_true]
  constructor
  ·rintro ⟨a,ha,hp⟩
   obtain ⟨k,hk,rfl⟩:=List.getElem_of_mem ha
   exact ⟨k,hk,by rw [List.getElem?_eq_getElem hk]; exact hp⟩
  ·rintro ⟨k,hk,hp⟩
   rw [List.getElem?_eq_getElem hk] at hp
   exact ⟨_,List.getElem_mem hk,hp⟩
 ·rw [List.getElem?_eq_getElem hi]
  exact hin i _ (List.getElem?_eq_getElem hi)
theorem QxV {α:Type} {l:List α} (hl:l.length≤1048576) (p:α→Bool) (Y:Nat→E) {N:E}
  (hin:∀ (i:Nat) a,l[i]?=some a→B (i:Int)=some (if p a=true then .inr (Y i) else .inl ((i:Int)+1))) (hend:B (l.length:Int)=some (.inr N)) :
  loopF B 0=some (match ixP p l with|some k=>Y k|none=>N):=by
 have h:=QBu (B:=B) hl (fun i=>match l[i]? with|some a=>p a|none=>false) Y (N:=N) (fun i hi=>by
  rw [List.getElem?_eq_getElem hi]; exact hin i _ (List.getElem?_eq_getElem hi)) hend
 have at_:∀ j (hj:j<l.length),(match l[j]? with|some a=>p a|none=>false)=p l[j]:=fun j hj=>by rw [List.getElem?_eq_getElem hj]
 rcases h with ⟨k,h1,h2,h3,h4⟩|⟨h1,h4⟩
 ·cases hx:ixP p l with
  | none=>rw [at_ k h1,QuS hx _ (List.getElem_mem h1)] at h2; cases h2
  | some m =>
   obtain ⟨g1,g2,g3⟩:=QpJ hx
   rcases Nat.lt_trichotomy k m with h|h|h
   ·rw [at_ k h1,g3 k h] at h2; cases h2
   ·rw [h4,h]
   ·have:=h3 m h; simp only [at_ m g1] at this; rw [g2] at this; cases this
 ·cases hx:ixP p l with
  | none=>rw [h4]
  | some m =>
   obtain ⟨g1,g2,g3⟩:=QpJ hx
   have:=h1 m g1; simp only [at_ m g1] at this; rw [g2] at this; cases this
end
theorem wrapN {m:Nat} (h:m<9223372036854775808):IntKind.i64.wrap (m:Int)=m:=IntWalk.i64_in _ ⟨by omega,by omega⟩
theorem cvuN {m:Nat} (h:m<9223372036854775808):cvK .u64 (m:Int)=m:=by
 unfold cvK
 simp only [IntKind.wrap,IntKind.bits,IntKind.signed]
 simp
 omega
theorem shrN {m i:Nat} (hi:i≤64):shrK .i64 (m:Int) (i:Int)=((m / 2 ^ i:Nat):Int):=by
 unfold shrK
 rw [show min (i:Int).toNat IntKind.i64.bits=i by simp [IntKind.bits]; omega,show (2:Int) ^ i=((2 ^ i:Nat):Int) by simp,Int.fdiv_eq_ediv_of_nonneg _ (Int.natCast_nonneg _)]
 rfl
theorem shlN {i:Nat} (hi:i≤62):shlK .i64 1 (i:Int)=((2 ^ i:Nat):Int):=by
 have h2:2 ^ i≤2 ^ 62:=Nat.pow_le_pow_right (by omega) hi
 unfold shlK
 rw [show min (i:Int).toNat IntKind.i64.bits=i by simp [IntKind.bits]; omega,Int.one_mul,show (2:Int) ^ i=((2 ^ i:Nat):Int) by simp]
 exact wrapN (by omega)
theorem orN {a b:Nat} (ha:a<9223372036854775808) (hb:b<9223372036854775808):orK .i64 (a:Int) (b:Int)=((a ||| b:Nat):Int):=by
 unfold orK
 have h:=Nat.or_lt_two_pow (n:=63) ha hb
 have e:(BitVec.ofInt IntKind.i64.bits (a:Int) ||| BitVec.ofInt IntKind.i64.bits (b:Int)).toNat=a ||| b:=by
  rw [BitVec.toNat_or]
  show (BitVec.ofInt 64 (a:Int)).toNat ||| (BitVec.ofInt 64 (b:Int)).toNat=_
  rw [BitVec.ofInt_natCast,BitVec.ofInt_natCast,BitVec.toNat_ofNat,BitVec.toNat_ofNat,Nat.mod_eq_of_lt (by omega),Nat.mod_eq_of_lt (by omega)]
 rw [e]
 exact wrapN (by omega)
theorem andN {a b:Nat} (ha:a<9223372036854775808) (hb:b<9223372036854775808):andK .i64 (a:Int) (b:Int)=((a &&& b:Nat):Int):=by
 unfold andK
 have h:=Nat.and_le_left (n:=a) (m:=b)
 have e:(BitVec.ofInt IntKind.i64.bits (a:Int) &&& BitVec.ofInt IntKind.i64.bits (b:Int)).toNat=a &&& b:=by
  rw [BitVec.toNat_and]
  show (BitVec.ofInt 64 (a:Int)).toNat &&& (BitVec.ofInt 64 (b:Int)).toNat=_
  rw [BitVec.ofInt_natCast,BitVec.ofInt_natCast,BitVec.toNat_ofNat,BitVec.toNat_ofNat,Nat.mod_eq_of_lt (by omega),Nat.mod_eq_of_lt (by omega)]
 rw [e]
 exact wrapN (by omega)
theorem Qzi {a b:Nat} (ha:a<9223372036854775808) (hb:b<9223372036854775808):Qpr .i64 (a:Int) (b:Int)=0↔∀ i,a.testBit i=true→b.testBit i=true:=by
 show IntKind.i64.wrap (((BitVec.ofInt 64 (a:Int) &&& ~~~BitVec.ofInt 64 (b:Int)).toNat:Nat):Int)=0↔_
 rw [BitVec.ofInt_natCast,BitVec.ofInt_natCast]
 have hle:(BitVec.ofNat 64 a &&& ~~~BitVec.ofNat 64 b).toNat<9223372036854775808:=by
  rw [BitVec.toNat_and,BitVec.toNat_ofNat,Nat.mod_eq_of_lt (by omega)]
  exact Nat.lt_of_le_of_lt Nat.and_le_left ha
 rw [wrapN hle]
 have bit:∀ i,(BitVec.ofNat 64 a &&& ~~~BitVec.ofNat 64 b).toNat.testBit i=(a.testBit i&&!b.testBit i):=fun i=>by
  rw [BitVec.testBit_toNat,BitVec.getLsbD_and,BitVec.getLsbD_not,BitVec.getLsbD_ofNat,BitVec.getLsbD_ofNat]
  rcases Nat.lt_or_ge i 64 with h|h
  ·simp [h]
  ·have:a.testBit i=false:=Nat.testBit_lt_two_pow (Nat.lt_of_lt_of_le ha (Nat.le_trans (by decide) (Nat.pow_le_pow_right (n:=2) (by omega) h)))
   simp [this]
 constructor
 ·intro h i hi
  have:=bit i
  rw [show (BitVec.ofNat 64 a &&& ~~~BitVec.ofNat 64 b).toNat=0 by omega,Nat.zero_testBit,hi] at this
  simpa using this.symm
 ·intro h
  have:(BitVec.ofNat 64 a &&& ~~~BitVec.ofNat 64 b).toNat=0:=Nat.eq_of_testBit_eq fun i=>by
   rw [bit,Nat.zero_testBit]
   cases hi:a.testBit i with
   | false=>rfl
   | true=>rw [h i hi]; rfl
  omega
theorem QtZ {m i:Nat}:eqI (remK (((m / 2 ^ i:Nat):Int)) 2) 1=m.testBit i:=by
 rw [Bool.eq_iff_iff,eqI_t,Nat.testBit_eq_decide_div_mod_eq,decide_eq_true_iff]
 unfold remK
 generalize m / 2 ^ i=q
 rw [Int.tmod_eq_emod_of_nonneg (by omega)]
 omega
theorem QAW {m i:Nat} (h:m.testBit i=false) (j:Nat):(m+2 ^ i).testBit j=(m.testBit j||decide (i=j)):=by
 rw [Nat.add_comm]
 rcases Nat.lt_trichotomy j i with hj|rfl|hj
 ·rw [Nat.testBit_two_pow_add_gt hj,decide_eq_false (by omega),Bool.or_false]
 ·rw [Nat.testBit_two_pow_add_eq,h]; simp
 ·rw [decide_eq_false (by omega),Bool.or_false]
  have h0:m / 2 ^ i % 2=0:=by
   rw [Nat.testBit_eq_decide_div_mod_eq,decide_eq_false_iff_not] at h
   omega
  have e1:(2 ^ i+m) / 2 ^ (i+1)=m / 2 ^ (i+1):=by
   rw [Nat.pow_succ,← Nat.div_div_eq_div_mul,← Nat.div_div_eq_div_mul,Nat.add_div_left _ (Nat.two_pow_pos i)]
   omega
  rw [Nat.testBit_eq_decide_div_mod_eq,Nat.testBit_eq_decide_div_mod_eq]
  have hp:2 ^ j=2 ^ (i+1)*2 ^ (j-(i+1)):=by rw [← Nat.pow_add]; congr 1; omega
  rw [hp,← Nat.div_div_eq_div_mul,← Nat.div_div_eq_div_mul,e1]
theorem QBI {t:Qai} {skills:Int} (ht:0≤t.skills∧t.skills≤1073741823) (hs:0≤skills∧skills≤1073741823):∃ b,QhB t skills=some b∧Qd6 t skills=some b:=by
 obtain ⟨a,ha⟩:∃ a:Nat,skills=a:=⟨skills.toNat,by omega⟩
 obtain ⟨c,hc⟩:∃ c:Nat,t.skills=c:=⟨t.skills.toNat,by omega⟩
 subst ha
 refine ⟨eqI (Qpr .i64 (a:Int) (c:Int)) 0,?_,?_⟩
 ·unfold QhB
  rw [hc]
  rw [show geI (c:Int) 0=true by simp,show geI (a:Int) 0=true by simp]
  rfl
 ·unfold Qd6
  rw [QaO (by simp; omega)]
  have key:loopF (fun s=>QcM t (a:Int) s) 1=some (if (eqI (Qpr .i64 (a:Int) (c:Int)) 0)=true then .inl () else .inr false):=by
   have bigpow:∀ k:Nat,k≤62→(0:Int)<((2 ^ k:Nat):Int)∧((2 ^ k:Nat):Int)≤4611686018427387904:=fun k hk=>by
    have h1:=Nat.two_pow_pos k
    have h2:2 ^ k≤2 ^ 62:=Nat.pow_le_pow_right (by omega) hk
    omega
   have main:post (loopF (fun s=>QcM t (a:Int) s) 1) fun e=>e=if (eqI (Qpr .i64 (a:Int) (c:Int)) 0)=true then .inl () else .inr false:=by
    refine Qde (fun s=>∃ k:Nat,k≤63∧s=(if k=63 then -9223372036854775808 else ((2 ^ k:Nat):Int))∧∀ i,i<k→a.testBit i=true→c.testBit i=true) (fun s=>if s<0 then 0 else 9223372036854775808-s.toNat) ⟨0,by omega,rfl,fun i hi=>by omega⟩ (by decide) ?_
    rintro _ ⟨k,hk,rfl,hb⟩
    show post (QcM t (a:Int) _) _
    unfold QcM
    rcases Nat.lt_or_ge k 63 with hk'|hk'
    ·rw [if_neg (by omega)]
     obtain ⟨p1,p2⟩:=bigpow k (by omega)
     rw [QbO (by simp only [gtI_t]; exact p1),Qb5 (by omega),hc]
     have hq:∀ z:Nat,z<9223372036854775808→quoK .i64 (z:Int) ((2 ^ k:Nat):Int)=((z / 2 ^ k:Nat):Int):=fun z hz=>by
      have e:(z:Int).tdiv ((2 ^ k:Nat):Int)=((z / 2 ^ k:Nat):Int):=by rw [Int.tdiv_eq_ediv_of_nonneg (by omega)]; rfl
      have h1:=Nat.div_le_self z (2 ^ k)
      rw [quoI,e] <;> (rw [e]; generalize z / 2 ^ k=q at h1; omega)
     rw [hq a (by omega),hq c (by omega),QtZ]
     have go:∀ h:(a.testBit k=true→c.testBit k=true),post (some (Sum.inl (mulK .i64 ((2 ^ k:Nat):Int) 2):Int⊕(Unit⊕Bool))) fun x=>(∀ s',x=.inl s'→(∃ k':Nat,k'≤63∧s'=(if k'=63 then -9223372036854775808 else ((2 ^ k':Nat):Int))∧∀ i,i<k'→a.testBit i=true→c.testBit i=true)∧(if s'<0 then 0 else 9223372036854775808-s'.toNat)<(if ((2 ^ k:Nat):Int)<0 then 0 else 9223372036854775808-((2 ^ k:Nat):Int).toNat))∧∀ e,x=.inr e→e=if (eqI (Qpr .i64 (a:Int) (c:Int)) 0)=true then .inl () else .inr false:=by
      intro h
      have hm:mulK .i64 ((2 ^ k:Nat):Int) 2=if k+1=63 then -9223372036854775808 else ((2 ^ (k+1):Nat):Int):=by
       split
       ·rename_i h62
        obtain rfl:k=62:=by omega
        decide
       ·obtain ⟨q1,q2⟩:=bigpow (k+1) (by omega)
        have e:((2 ^ k:Nat):Int)*2=((2 ^ (k+1):Nat):Int):=by rw [Nat.pow_succ]; simp
        rw [mulI (by omega) (by omega),e]
      refine Qeu ⟨⟨k+1,by omega,hm,fun i hi=>?_⟩,?_⟩
      ·rcases Nat.lt_or_eq_of_le (Nat.le_of_lt_succ hi) with hi|rfl
       ·exact hb i hi
       ·exact h
      ·rw [hm,if_neg (show ¬ ((2 ^ k:Nat):Int)<0 by omega)]
       split
       ·rw [if_pos (by omega)]; omega
       ·obtain ⟨q1,q2⟩:=bigpow (k+1) (by omega)
        have e:2 ^ (k+1)=2 ^ k*2:=Nat.pow_succ ..
        rw [if_neg (by omega)]
        omega
     refine QaC (fun h1=>QbB (by omega) (QaC (fun h2=>Qdn ?_) (fun h2=>go fun _=>?_))) (fun h1=>go fun h=>by rw [h1] at h; cases h)
     ·rw [if_neg]
      intro h
      have h3:=(Qzi (by omega) (by omega)).1 (eqI_t.1 h) k h1
      rw [← QtZ,eqI_t] at h3
      rw [eqI_t] at h2
      omega
     ·rw [eqI_f] at h2
      rw [← QtZ,eqI_t]
      unfold remK at h2 ⊢
      generalize c / 2 ^ k=q at h2 ⊢
      rw [Int.tmod_eq_emod_of_nonneg (by omega)] at h2 ⊢
      omega
    ·obtain rfl:k=63:=by omega
     rw [if_pos rfl,QaO (by decide)]
     refine Qdn ?_
     rw [if_pos]
     rw [eqI_t]
     refine (Qzi (by omega) (by omega)).2 fun i hi=>?_
     rcases Nat.lt_or_ge i 63 with h|h
     ·exact hb i h hi
     ·rw [Nat.testBit_lt_two_pow (Nat.lt_of_lt_of_le (show a<2 ^ 63 by omega) (Nat.pow_le_pow_right (n:=2) (by omega) h))] at hi; cases hi
   exact main.eq
  rw [key,Qaj]
  split <;> simp_all
end Go.Proofs.YtfjiafgldchinaaGreatDoor
namespace Go.Proofs.YtfjiafgldchinaaGreatDoor
set_option linter.unusedSimpArgs false
set_option linter.unusedVariables false
set_option linter.unusedSectionVars false
theorem brs {α:Type} {b:Bool} {x y:α}:br b (some x) (some y)=some (if b=true then x else y):=by cases b <;> rfl
theorem Qbh {α β:Type} {l:List α} {i:Nat} {a:α} (h:l[i]?=some a) (f:α→Option β) (z:Option β):br (ltI (i:Int) (lenI l)) (bnd (getI l i) f) z=f a:=by
 have:=(List.getElem?_eq_some_iff.1 h).1
 rw [QbO (by simp [lenI]; omega),QaB h,Qaj]
theorem QaV {α β:Type} {l:List α} {y z:Option β}:br (ltI (l.length:Int) (lenI l)) y z=z:=QaO (by simp [lenI])
theorem incL {α:Type} {l:List α} {i:Nat} {a:α} (h:l[i]?=some a) (hl:l.length≤1048576):addK .i64 (i:Int) 1=(i:Int)+1:=inc (List.getElem?_eq_some_iff.1 h).1 hl
def inO (x:Qac) (v:Qaa):Bool:=decide (0≤v.order∧v.order<x.orders.length)
def offV (x:Qac) (v:Qaa):Bool:=match x.orders[v.order.toNat]? with
 | some o=>o.off
 | none=>false
def isO (o:Int) (v:Qaa):Bool:=eqI v.order o
def hasO (l:List Qaa) (o:Int):Bool:=l.any (isO o)
def isV (v a:Qaa):Bool:=eqI v.order a.order&&(eqB v.drop a.drop&&true)
def visO (x:Qac) (o:Int):List Qaa:=match x.orders[o.toNat]? with
 | some q=>(if 0≤q.pick.place then [Qaa.mk o false] else [])++(if 0≤q.drop.place then [Qaa.mk o true] else [])
 | none=>[]
def rowB (l:List Qaa):List Qaa→Bool
 | []=>true
 | [a]=>geI (ixI (isV a) l) 0
 | a :: b :: _=>geI (ixI (isV a) l) 0&&ltI (ixI (isV a) l) (ixI (isV b) l)
def pairV (x:Qac) (l:List Qaa) (v:Qaa):Bool:=(visO x v.order).any (isV v)&&rowB l (visO x v.order)
def QnX (l:List Qaa) (p:Qap):Bool:=hasO l p.x0&&hasO l p.x1
def lateB (l:List Qaa) (p:Qap):Bool:=match ixP (isO p.x1) l with
 | some k=>hasO (l.drop k) p.x0
 | none=>false
def badB (l:List Qaa) (p:Qap):Bool:=hasO l p.x1&&(!hasO l p.x0||lateB l p)
instance (l:List Qaa):Decidable l.Nodup:=inferInstanceAs (Decidable (List.Nodup l))
section
variable {x : Qac} {l : List Qaa}
theorem isV_t {v a:Qaa}:isV v a=true↔a=v:=by
 unfold isV
 cases v; cases a
 simp
 exact ⟨fun ⟨h1,h2⟩=>⟨h1.symm,h2.symm⟩,fun ⟨h1,h2⟩=>⟨h1.symm,h2.symm⟩⟩
theorem isO_t {o:Int} {v:Qaa}:isO o v=true↔v.order=o:=by simp [isO]
theorem QnZ {o:Int}:hasO l o=true↔∃ v∈l,v.order=o:=by simp [hasO,List.any_eq_true,isO]
theorem any_V {v:Qaa}:l.any (isV v)=true↔v∈l:=by
 rw [List.any_eq_true]
 exact ⟨fun ⟨a,h,h'⟩=>isV_t.1 h' ▸ h,fun h=>⟨v,h,isV_t.2 rfl⟩⟩
theorem Qwn {v:Qaa}:0≤ixI (isV v) l↔v∈l:=by rw [← geI_t,Qrm,any_V]
theorem QBg {v:Qaa} {k:Nat} (h:ixI (isV v) l=k):l[k]?=some v∧∀ j,j<k→l[j]?≠some v:=by
 unfold ixI at h
 cases hx:ixP (isV v) l with
 | none=>rw [hx] at h; simp only at h; omega
 | some m =>
  rw [hx] at h
  simp only at h
  obtain rfl:m=k:=by omega
  obtain ⟨h1,h2,h3⟩:=QpJ hx
  refine ⟨by rw [List.getElem?_eq_getElem h1,isV_t.1 h2],fun j hj he=>?_⟩
  have:=h3 j hj
  rw [List.getElem?_eq_getElem (show j<l.length by omega)] at he
  rw [isV_t.2 (Option.some.inj he)] at this
  cases this
theorem QtH (hl:l.length≤1048576) (v:Qaa):QfB l v=some (ixI (isV v) l):=by
 have:=QxV hl (isV v) (fun k=>(.inr (k:Int):Unit⊕Int)) (N:=.inl ()) (B:=fun s=>Qaz l v s) (fun i a h=>by
  show Qaz l v i=_
  unfold Qaz
  rw [Qbh h,incL h hl,brs]; rfl) (by
  show Qaz l v l.length=_
  unfold Qaz
  rw [QaV])
 unfold QfB QbQ
 rw [Qbg this]
 unfold ixI
 cases ixP (isV v) l <;> rfl
theorem Qr9 (hl:l.length≤1048576) (v:Qaa):Qdy l v=some (ixI (isV v) l):=by
 have:=QxV hl (isV v) (fun k=>(.inr (k:Int):Unit⊕Int)) (N:=.inl ()) (B:=fun s=>Qb2 l v s) (fun i a h=>by
  show Qb2 l v i=_
  unfold Qb2
  rw [Qbh h,incL h hl,brs]
  rw [show (eqI a.order v.order&&(eqB a.drop v.drop&&true))=isV v a by
   rw [Bool.eq_iff_iff,isV_t]; cases v; cases a; simp]) (by
  show Qb2 l v l.length=_
  unfold Qb2
  rw [QaV])
 unfold Qdy
 rw [Qbg this]
 unfold ixI
 cases ixP (isV v) l <;> rfl
theorem Qx3 {v:Qaa} {k:Nat} (hk:k≤l.length):v∈l.take k↔∃ j,j<k∧l[j]?=some v:=by
 rw [List.mem_iff_getElem?]
 constructor
 ·rintro ⟨j,h⟩
  rw [List.getElem?_take] at h
  split at h
  ·exact ⟨j,‹_›,h⟩
  ·cases h
 ·rintro ⟨j,hj,h⟩
  exact ⟨j,by rw [List.getElem?_take,if_pos hj,h]⟩
theorem QjM {o:Int}:(visO x o).length≤2:=by
 unfold visO
 split
 ·split <;> split <;> simp
 ·simp
theorem QrL (hx:Qa5 x) {o:Int} (h0:0≤o) (h1:o<x.orders.length):Qgu x.orders o=some (visO x o):=by
 have e:x.orders[o.toNat]?=some (x.orders[o.toNat]'(by omega)):=List.getElem?_eq_getElem _
 generalize x.orders[o.toNat]'(by omega)=q at e
 have hg:getI x.orders o=some q:=by unfold getI; rw [if_pos h0,e]
 unfold Qgu QkC
 rw [Qaj,QbO (by simp [lenI]; omega),hg,Qaj]
 unfold visO
 rw [e]
 have hJ:∀ l1:List Qaa,l1.length≤1→QfV x.orders o l1=some (l1++if 0≤q.drop.place then [Qaa.mk o true] else []):=fun l1 hl=>by
  unfold QfV
  rw [hg,Qaj,Qb5 (by unfold okN; simp; omega),br_if]
  simp only [geI_t]
  split <;> simp
 rw [hJ _ (by simp),hJ _ (by simp),Qb5 (by unfold okN; simp),brs]
 simp only [geI_t]
 split <;> rfl
theorem QoP (hx:Qa5 x) {o:Int} (h0:0≤o) (h1:o<x.orders.length):QcG x o=some (visO x o):=by
 have e:x.orders[o.toNat]?=some (x.orders[o.toNat]'(by omega)):=List.getElem?_eq_getElem _
 generalize x.orders[o.toNat]'(by omega)=q at e
 have hq:=hx.ord q (List.mem_of_getElem? e)
 have hg:getI x.orders o=some q:=by unfold getI; rw [if_pos h0,e]
 have hp:neI q.pick.place (-1)=decide (0≤q.pick.place):=by
  have:=hq.pick
  rw [Bool.eq_iff_iff,neI_t,decide_eq_true_iff]
  unfold QwI at this
  omega
 have hd:neI q.drop.place (-1)=decide (0≤q.drop.place):=by
  have:=hq.drop
  rw [Bool.eq_iff_iff,neI_t,decide_eq_true_iff]
  unfold QwI at this
  omega
 unfold QcG
 rw [hg,Qaj]
 unfold visO
 rw [e]
 have hJ:∀ l1:List Qaa,l1.length≤1→Qdk x o l1=some (l1++if 0≤q.drop.place then [Qaa.mk o true] else []):=fun l1 hl=>by
  unfold Qdk
  rw [hg,Qaj,Qb5 (by unfold okN; simp; omega),hd,br_if]
  simp only [decide_eq_true_iff]
  split <;> simp
 rw [hJ _ (by simp),hJ _ (by simp),Qb5 (by unfold okN; simp),hp,brs]
 simp only [decide_eq_true_iff]
 split <;> rfl
theorem Qp8 {o:Int} {a b:Qaa} {r:List Qaa} (h:visO x o=a :: b :: r):r=[]∧a≠b:=by
 have h2:=QjM (x:=x) (o:=o)
 rw [h] at h2
 have hr:r=[]:=by cases r with
  | nil=>rfl
  | cons c r=>simp at h2
 refine ⟨hr,?_⟩
 subst hr
 unfold visO at h
 split at h
 ·split at h <;> split at h <;> simp at h
  obtain ⟨rfl,rfl⟩:=h
  simp
 ·cases h
theorem Qxe (h:l.any (fun v=>!inO x v)=false) {v:Qaa} (hv:v∈l):0≤v.order∧v.order<x.orders.length:=by
 have:=List.any_eq_false.1 h v hv
 simpa [inO] using this
theorem QnY (hl:l.length≤1048576) {r:List Qaa} (hr:r.length≤2):Qc1 l r=some (!r.any (fun a=>ltI (ixI (isV a) l) 0)):=by
 have:=QcR (B:=fun s=>Qbp l r s) (l:=r) (by omega) (fun a=>ltI (ixI (isV a) l) 0) (y:=(.inr false:Unit⊕Bool)) (N:=.inl ()) (fun i a h=>by
  show Qbp l r i=_
  unfold Qbp
  rw [Qbh h,Qr9 hl,Qaj,incL h (by omega),brs]) (by
  show Qbp l r r.length=_
  unfold Qbp
  rw [QaV])
 unfold Qc1
 rw [Qbg this]
 cases r.any (fun a=>ltI (ixI (isV a) l) 0) <;> rfl
theorem Qxv {a b:Int}:ltI a b=!geI a b:=by rw [Bool.eq_iff_iff]; simp
end
end Go.Proofs.YtfjiafgldchinaaGreatDoor
namespace Go.Proofs.YtfjiafgldchinaaGreatDoor
set_option linter.unusedSimpArgs false
set_option linter.unusedVariables false
set_option linter.unusedSectionVars false
section
variable {x : Qac} {l : List Qaa}
theorem QBo {v:Qaa} (h0:0≤v.order) (h1:v.order<x.orders.length):∃ o,getI x.orders v.order=some o∧o∈x.orders∧offV x v=o.off∧x.orders[v.order.toNat]?=some o:=by
 have e:x.orders[v.order.toNat]?=some (x.orders[v.order.toNat]'(by omega)):=List.getElem?_eq_getElem _
 refine ⟨_,Qrn h0 h1,List.getElem_mem _,?_,e⟩
 unfold offV
 rw [e]
theorem Qr7 {m:Nat} (hm:m<9223372036854775808) {i:Int} (h0:0≤i) (h1:i≤62):Qc2 (m:Int) i=some (m.testBit i.toNat):=by
 obtain ⟨k,rfl⟩:∃ k:Nat,i=k:=⟨i.toNat,by omega⟩
 unfold Qc2
 rw [QbO (by simp; omega),cvuN (by omega),Qb5 (by omega),shrN (by omega),QtZ]
 rfl
structure SetOf (l:List Qaa) (s:Int):Prop where
 ex:∃ m:Nat,s=m∧m<1024∧∀ i:Nat,m.testBit i=hasO l (i:Int)
theorem SetOf.has {s:Int} (h:SetOf l s) {i:Int} (h0:0≤i) (h1:i≤62):Qc2 s i=some (hasO l i):=by
 obtain ⟨m,rfl,hm,hb⟩:=h.ex
 rw [Qr7 (by omega) h0 h1,hb,Int.toNat_of_nonneg h0]
theorem QwO (hx:Qa5 x) {s:Int} (h:SetOf l s):Qe8 x s=some (!x.apart.any (QnX l)):=by
 have ha:=hx.apart
 have hx10:=hx.orders
 have:=QcR (B:=fun i=>Qb3 x s i) (l:=x.apart) (by omega) (QnX l) (y:=(.inr false:Unit⊕Bool)) (N:=.inl ()) (fun i a ha'=>by
  obtain ⟨p0,p1,p2,p3,p4⟩:=hx.aparts a (List.mem_of_getElem? ha')
  show Qb3 x s i=_
  unfold Qb3
  rw [Qbh ha',h.has p0 (by omega),Qaj,h.has p2 (by omega),Qaj,incL ha' (by omega)]
  unfold QnX
  cases hasO l a.x0 <;> cases hasO l a.x1 <;> rfl) (by
  show Qb3 x s x.apart.length=_
  unfold Qb3
  rw [QaV])
 unfold Qe8
 rw [Qbg this]
 cases x.apart.any (QnX l) <;> rfl
end
end Go.Proofs.YtfjiafgldchinaaGreatDoor
namespace Go.Proofs.YtfjiafgldchinaaGreatDoor
set_option linter.unusedSimpArgs false
set_option linter.unusedVariables false
set_option linter.unusedSectionVars false
def sumN:Nat→(Nat→Int)→Int
 | 0,_=>0
 | n+1,f=>sumN n f+f n
theorem QqO {f g:Nat→Int}:∀ n,(∀ i,i<n→f i=g i)→sumN n f=sumN n g
 | 0,_=>rfl
 | n+1,h=>by unfold sumN; rw [QqO n fun i hi=>h i (by omega),h n (by omega)]
theorem Qvg {f g:Nat→Int} {o:Nat}:∀ n,o<n→(∀ i,i≠o→g i=f i)→sumN n g=sumN n f+(g o-f o)
 | 0,h,_=>by omega
 | n+1,h,hg=>by
  unfold sumN
  rcases Nat.lt_or_eq_of_le (Nat.le_of_lt_succ h) with h'|rfl
  ·rw [Qvg n h' hg,hg n (by omega)]; omega
  ·rw [QqO _ fun i hi=>hg i (by omega)]; omega
theorem Qv9 {f:Nat→Int} {c:Int} (hc:0≤c):∀ n,(∀ i,0≤f i∧f i≤c)→0≤sumN n f∧sumN n f≤n*c
 | 0,_=>by simp [sumN]
 | n+1,h=>by
  have h1:=Qv9 hc n h
  have h2:=h n
  unfold sumN
  rw [show ((n+1:Nat):Int)*c=n*c+c by rw [Int.natCast_add,Int.add_mul]; simp]
  omega
def vecN (D:Nat) (f:Nat→Int):List Int:=(List.range D).map f
theorem Qcw {D:Nat} {f:Nat→Int}:(vecN D f).length=D:=by simp [vecN]
theorem Qev {D:Nat} {f:Nat→Int} {k:Nat} (h:k<D):(vecN D f)[k]?=some (f k):=by simp [vecN,h]
theorem QfP {D:Nat} {f g:Nat→Int} (h:∀ d,d<D→f d=g d):vecN D f=vecN D g:=by
 unfold vecN
 exact List.map_congr_left fun d hd=>h d (List.mem_range.1 hd)
theorem Qx7 {D:Nat} {f:Nat→Int} {k:Nat} {y:Int} (h:k<D):setI (vecN D f) (k:Int) y=vecN D (fun d=>if d=k then y else f d):=by
 unfold setI
 refine List.ext_getElem? fun i=>?_
 rw [List.getElem?_set]
 simp only [Int.toNat_natCast,Qcw]
 split
 ·rename_i he
  subst he
  exact ((Qev (f:=fun d=>if d=k then y else f d) h).trans (by simp)).symm
 ·rename_i he
  rcases Nat.lt_or_ge i D with h'|h'
  ·rw [Qev h',Qev h',if_neg (by omega)]
  ·rw [List.getElem?_eq_none (by rw [Qcw]; omega),List.getElem?_eq_none (by rw [Qcw]; omega)]
theorem QBC {l:List Int}:l=vecN l.length (fun d=>l.getD d 0):=by
 refine List.ext_getElem? fun i=>?_
 rcases Nat.lt_or_ge i l.length with h|h
 ·rw [Qev h,List.getElem?_eq_getElem h,List.getD_eq_getElem?_getD,List.getElem?_eq_getElem h]; rfl
 ·rw [List.getElem?_eq_none h,List.getElem?_eq_none (by rw [Qcw]; omega)]
theorem Qvt {D:Nat} {f g h:Nat→Int} (hD:D≤3) {B:List Int×Int→Option ((List Int×Int)⊕(List Int))}
  (hin:∀ (k:Nat) (l1:List Int),k<D→l1.length=D→B (l1,(k:Int))=some (.inl (setI l1 k (h k),(k:Int)+1))) (hend:∀ l1:List Int,B (l1,(D:Int))=some (.inr l1)) :
  loopF B (List.replicate D 0,0)=some (vecN D h):=by
 have h0:(List.replicate D (0:Int),(0:Int))=(vecN D (fun d=>if d<0 then h d else 0),((0:Nat):Int)):=by
  congr 1
  refine List.ext_getElem? fun i=>?_
  rcases Nat.lt_or_ge i D with h|h
  ·rw [Qev h]; simp [h]
  ·rw [List.getElem?_eq_none (by simp; omega),List.getElem?_eq_none (by rw [Qcw]; omega)]
 rw [h0]
 refine QcQ D (fun k=>(vecN D (fun d=>if d<k then h d else 0),(k:Int))) (by omega) (fun k hk=>?_) ?_
 ·rw [hin k _ hk Qcw,Qx7 hk]
  simp only [Int.natCast_add,Int.cast_ofNat_Int]
  congr 3
  refine QfP fun d hd=>?_
  by_cases h1:d=k
  ·rw [if_pos h1,if_pos (by omega),h1]
  ·rw [if_neg h1]
   by_cases h2:d<k
   ·rw [if_pos h2,if_pos (by omega)]
   ·rw [if_neg h2,if_neg (by omega)]
 ·rw [hend]
  congr 2
  exact QfP fun d hd=>if_pos hd
theorem QAP {D:Nat} {f g:Nat→Int} (hD:D≤3) (hf:∀ d,d<D→-4000000000≤f d∧f d≤4000000000) (hg:∀ d,d<D→-4000000000≤g d∧g d≤4000000000):QoW (vecN D f) (vecN D g)=some (vecN D (fun d=>f d+g d),0):=by
 unfold QoW Qgz
 rw [QaO (by simp [lenI,Qcw])]
 have hm:mkI (lenI (vecN D f)) (lenI (vecN D f)) 8 (0:Int)=some (List.replicate D 0):=by
  unfold mkI lenI
  rw [Qcw,if_pos (by omega)]
  rfl
 rw [hm,Qaj]
 rw [Qbg (Qvt (D:=D) (f:=f) (g:=g) (h:=fun d=>f d+g d) hD (B:=fun s=>Qbu (vecN D f) (vecN D g) (List.replicate D 0) s.1 s.2) (fun k l1 hk hl=>by
  have a1:=hf k hk
  have a2:=hg k hk
  show Qbu (vecN D f) (vecN D g) (List.replicate D 0) l1 k=_
  unfold Qbu Qqg
  rw [Qbh (Qev hk),QaB (Qev hk),Qaj,Qaj,QyC (by omega),Qaj,addI (by omega) (by omega),addI (by omega) (by omega)]) (fun l1=>by
  show Qbu (vecN D f) (vecN D g) (List.replicate D 0) l1 D=_
  unfold Qbu
  rw [QaO (by simp [lenI,Qcw])]))]
 rfl
theorem QBH {D:Nat} {f g:Nat→Int} (hD:D≤3) (hf:∀ d,d<D→-4000000000≤f d∧f d≤4000000000) (hg:∀ d,d<D→-4000000000≤g d∧g d≤4000000000):Qqf (vecN D f) (vecN D g)=some (vecN D (fun d=>f d-g d),0):=by
 unfold Qqf QfZ
 rw [QaO (by simp [lenI,Qcw])]
 have hm:mkI (lenI (vecN D f)) (lenI (vecN D f)) 8 (0:Int)=some (List.replicate D 0):=by
  unfold mkI lenI
  rw [Qcw,if_pos (by omega)]
  rfl
 rw [hm,Qaj]
 rw [Qbg (Qvt (D:=D) (f:=f) (g:=g) (h:=fun d=>f d-g d) hD (B:=fun s=>Qbm (vecN D f) (vecN D g) (List.replicate D 0) s.1 s.2) (fun k l1 hk hl=>by
  have a1:=hf k hk
  have a2:=hg k hk
  show Qbm (vecN D f) (vecN D g) (List.replicate D 0) l1 k=_
  unfold Qbm QoX
  rw [Qbh (Qev hk),QaB (Qev hk),Qaj,Qaj,QyC (by omega),Qaj,subI (by omega) (by omega),addI (by omega) (by omega)]) (fun l1=>by
  show Qbm (vecN D f) (vecN D g) (List.replicate D 0) l1 D=_
  unfold Qbm
  rw [QaO (by simp [lenI,Qcw])]))]
 rfl
section
variable {x : Qac} {l : List Qaa} {r : QaF}
theorem SetOf.Has {s:Int} (h:SetOf l s) {i:Int} (h0:0≤i) (h1:i≤62):QbN s i=some (hasO l i):=by
 obtain ⟨m,rfl,hm,hb⟩:=h.ex
 obtain ⟨k,rfl⟩:∃ k:Nat,i=k:=⟨i.toNat,by omega⟩
 unfold QbN
 rw [QbO (by simp; omega),Qb5 (by omega),shrN (by omega)]
 have hd:=Nat.div_le_self m (2 ^ k)
 rw [show (1:Int)=((1:Nat):Int) from rfl,andN (by omega) (by omega),Nat.and_one_is_mod,← hb,Nat.testBit_eq_decide_div_mod_eq]
 congr 1
 generalize m / 2 ^ k=q
 rw [Bool.eq_iff_iff,eqI_t,decide_eq_true_iff]
 omega
def memN (l:List Qaa):Nat→List Int
 | 0=>[]
 | n+1=>memN l n++(if hasO l (n:Int)=true then [(n:Int)] else [])
theorem Qsl:∀ n,(memN l n).length≤n
 | 0=>Nat.le_refl 0
 | n+1=>by have:=Qsl n; unfold memN; split <;> simp <;> omega
theorem QrU {s:Int} (h:SetOf l s):QfC s=some (memN l 63):=by
 unfold QfC
 have this:loopF (fun q:List Int×Int=>Qbf s q.1 q.2) ([],0)=some (memN l 63):=QcQ 63 (fun k=>(memN l k,(k:Int))) (B:=fun q=>Qbf s q.1 q.2) (by omega) (fun k hk=>by
  show Qbf s (memN l k) (k:Int)=_
  have:=Qsl (l:=l) k
  unfold Qbf
  rw [QbO (by simp; omega),h.Has (by omega) (by omega),Qaj,addI (by omega) (by omega),Qb5 (by unfold okN; simp; omega),brs]
  show _=some (Sum.inl (memN l k++(if hasO l (k:Int)=true then [(k:Int)] else []),((k+1:Nat):Int)))
  split <;> simp) (by
  show Qbf s (memN l 63) ((63:Nat):Int)=_
  unfold Qbf
  rw [QaO (by decide)])
 rw [Qbg this]
end
end Go.Proofs.YtfjiafgldchinaaGreatDoor
namespace Go.Proofs.YtfjiafgldchinaaGreatDoor
set_option linter.unusedSimpArgs false
set_option linter.unusedVariables false
set_option linter.unusedSectionVars false
def sumF {α:Type} (f:α→Int) (l:List α):Int:=(l.map f).sum
theorem QsJ {α:Type} {f:α→Int} {a b:List α}:sumF f (a++b)=sumF f a+sumF f b:=by simp [sumF,List.sum_append]
theorem QsK {α:Type} {f:α→Int} {a:α}:sumF f [a]=f a:=by simp [sumF]
theorem take_one {α:Type} {l:List α} {k:Nat} {a:α} (h:l[k]?=some a):l.take (k+1)=l.take k++[a]:=by rw [List.take_add_one,h]; rfl
theorem Qv8 {α:Type} {f:α→Int} {l:List α} {k:Nat} {a:α} (h:l[k]?=some a):sumF f (l.take (k+1))=sumF f (l.take k)+f a:=by rw [take_one h,QsJ,QsK]
theorem Qv7 {α:Type} {f:α→Int}:∀ {l:List α},(∀ a∈l,0≤f a∧f a≤1000)→0≤sumF f l∧sumF f l≤1000*l.length
 | [],_=>by simp [sumF]
 | a :: l,h=>by
  have h1:=Qv7 (f:=f) (l:=l) fun b hb=>h b (List.mem_cons_of_mem _ hb)
  have h2:=h a (List.mem_cons_self ..)
  have e:sumF f (a :: l)=f a+sumF f l:=by simp [sumF]
  rw [e,List.length_cons]
  omega
section
variable (x : Qac)
def loadO (i d:Nat):Int:=match x.orders[i]? with
 | some o=>o.load.getD d 0
 | none=>0
def pk0 (i:Nat):Bool:=match x.orders[i]? with
 | some o=>decide (o.pick.place<0)
 | none=>false
end
section
variable {x : Qac} {l : List Qaa} {r : QaF}
theorem QrE (hx:Qa5 x) {i:Nat} (hi:i<x.orders.length):∃ o,x.orders[i]?=some o∧o∈x.orders∧o.load=vecN (Qc8 x.types) (loadO x i)∧(∀ d,0≤loadO x i d∧loadO x i d≤1000)∧pk0 x i=decide (o.pick.place<0):=by
 have e:x.orders[i]?=some x.orders[i]:=List.getElem?_eq_getElem hi
 have hm:=List.getElem_mem hi
 generalize x.orders[i]=o at e hm
 have hO:=hx.ord o hm
 refine ⟨o,e,hm,?_,fun d=>?_,by unfold pk0; rw [e]⟩
 ·have:=QBC (l:=o.load)
  rw [hO.load] at this
  rw [this]
  refine QfP fun d hd=>?_
  unfold loadO
  rw [e]
 ·unfold loadO
  rw [e]
  simp only
  rw [List.getD_eq_getElem?_getD]
  rcases Nat.lt_or_ge d o.load.length with h|h
  ·rw [List.getElem?_eq_getElem h]
   exact hO.loads d h _ (List.getElem?_eq_getElem h)
  ·rw [List.getElem?_eq_none h]; simp
theorem QuU (hx:Qa5 x) (i d:Nat):0≤loadO x i d∧loadO x i d≤1000:=by
 rcases Nat.lt_or_ge i x.orders.length with h|h
 ·obtain ⟨o,_,_,_,h,_⟩:=QrE hx h
  exact h d
 ·unfold loadO
  rw [List.getElem?_eq_none h]; simp
theorem Qrl (hx:Qa5 x):1≤Qc8 x.types∧Qc8 x.types≤3:=by
 have h1:=hx.types1
 cases ht:x.types with
 | nil=>rw [ht] at h1; simp at h1
 | cons t ts =>
  have:=(hx.typ t (by rw [ht]; simp)).dims1
  rw [ht] at this
  exact this
structure SeqOK (x:Qac) (l:List Qaa):Prop where
 ne:l.length≠0
 inn:l.any (fun v=>!inO x v)=false
 off:l.any (offV x)=false
 nodup:l.Nodup
 pair:∀ v∈l,pairV x l v=true
 apart:x.apart.any (QnX l)=false
 before:x.before.any (badB l)=false
end
end Go.Proofs.YtfjiafgldchinaaGreatDoor
namespace Go.Proofs.YtfjiafgldchinaaGreatDoor
set_option linter.unusedSimpArgs false
set_option linter.unusedVariables false
set_option linter.unusedSectionVars false
section
variable {x : Qac} {l : List Qaa} {r : QaF}
theorem Qtz {i:Int}:∀ {n:Nat},i∈memN l n→∃ k:Nat,i=k∧k<n∧hasO l (k:Int)=true
 | 0,h=>by cases h
 | n+1,h=>by
  unfold memN at h
  rcases List.mem_append.1 h with h|h
  ·obtain ⟨k,h1,h2,h3⟩:=Qtz h
   exact ⟨k,h1,by omega,h3⟩
  ·split at h
   ·exact ⟨n,List.mem_singleton.1 h,by omega,‹_›⟩
   ·cases h
theorem QBK (h:SeqOK x l) {i:Int} (hi:hasO l i=true):0≤i∧i<x.orders.length:=by
 obtain ⟨v,hv,rfl⟩:=QnZ.1 hi
 exact Qxe h.inn hv
def stO (x:Qac) (d:Nat) (i:Int):Int:=if pk0 x i.toNat=true then loadO x i.toNat d else 0
theorem QBw (hx:Qa5 x) (d:Nat) (i:Int):0≤stO x d i∧stO x d i≤1000:=by
 have:=QuU hx i.toNat d
 unfold stO
 split <;> omega
theorem QAJ {D:Nat} (hD:D≤3) {m:List (List Int)} (hm:m.length≤1000) (hl:∀ a∈m,a.length=D) (hb:∀ a∈m,∀ d,0≤a.getD d 0∧a.getD d 0≤1000):QgC m (D:Int)=some (vecN D fun d=>sumF (fun a=>a.getD d 0) m,0):=by
 have even:QgY m (D:Int)=some true:=by
  unfold QgY
  rw [QaO (by simp; omega),Qbg (QcR (B:=fun s=>Qcq m (D:Int) s) (l:=m) (by omega) (fun a=>neI (lenI a) (D:Int)) (y:=(.inr false:Unit⊕Bool)) (N:=.inl ()) (fun i a h=>by
   show Qcq m (D:Int) i=_
   unfold Qcq
   rw [Qbh h,incL h (by omega),brs]) (by
   show Qcq m (D:Int) m.length=_
   unfold Qcq
   rw [QaV]))]
  rw [if_neg]
  ·rfl
  ·rw [List.any_eq_true]
   rintro ⟨a,ha,h⟩
   rw [neI_t,lenI,hl a ha] at h
   exact h rfl
 unfold QgC
 rw [even,Qaj,Qbx]
 have this:loopF (fun q:List Int×Int=>Qcf m (D:Int) q.1 q.2) ([],0)=some (vecN D fun d=>sumF (fun a=>a.getD d 0) m):=by
  have:=QcQ D (fun k=>(vecN k (fun d=>sumF (fun a=>a.getD d 0) m),(k:Int))) (B:=fun q:List Int×Int=>Qcf m (D:Int) q.1 q.2) (e:=vecN D fun d=>sumF (fun a=>a.getD d 0) m) (by omega) (fun k hk=>by
   show Qcf m (D:Int) (vecN k (fun d=>sumF (fun a=>a.getD d 0) m)) (k:Int)=some (Sum.inl (vecN (k+1) (fun d=>sumF (fun a=>a.getD d 0) m),((k+1:Nat):Int)))
   unfold Qcf
   rw [QbO (by simp; omega)]
   have inner:loopF (fun q:Int×Int=>Qcg m (D:Int) (vecN k (fun d=>sumF (fun a=>a.getD d 0) m)) (k:Int) q.1 q.2) (0,0)=some (sumF (fun a=>a.getD k 0) m):=by
    have:=QcQ m.length (fun j=>(sumF (fun a:List Int=>a.getD k 0) (m.take j),(j:Int))) (B:=fun q:Int×Int=>Qcg m (D:Int) (vecN k (fun d=>sumF (fun a=>a.getD d 0) m)) (k:Int) q.1 q.2) (e:=sumF (fun a=>a.getD k 0) m) (by omega) (fun j hj=>by
     have e:m[j]?=some m[j]:=List.getElem?_eq_getElem hj
     have hmj:=List.getElem_mem hj
     generalize m[j]=a at e hmj
     have ha:=hl a hmj
     have hab:=hb a hmj k
     have e2:a[k]?=some (a.getD k 0):=by rw [List.getD_eq_getElem?_getD,List.getElem?_eq_getElem (show k<a.length by omega)]; rfl
     have sb:=Qv7 (f:=fun a:List Int=>a.getD k 0) (l:=m.take j) fun c hc=>hb c (List.mem_of_mem_take hc) k
     have hlt:(m.take j).length≤1000:=by rw [List.length_take]; omega
     show Qcg m (D:Int) (vecN k (fun d=>sumF (fun a=>a.getD d 0) m)) (k:Int) (sumF (fun a:List Int=>a.getD k 0) (m.take j)) (j:Int)=some (Sum.inl (sumF (fun a:List Int=>a.getD k 0) (m.take (j+1)),((j+1:Nat):Int)))
     unfold Qcg
     rw [Qbh e,QaB e2,Qaj,incL e (by omega),addI (by omega) (by omega),Qv8 e]
     rfl) (by
     show Qcg m (D:Int) (vecN k (fun d=>sumF (fun a=>a.getD d 0) m)) (k:Int) (sumF (fun a:List Int=>a.getD k 0) (m.take m.length)) (m.length:Int)=_
     unfold Qcg
     rw [QaV,List.take_length])
    exact this
   have ev:vecN (k+1) (fun d=>sumF (fun a:List Int=>a.getD d 0) m)=vecN k (fun d=>sumF (fun a:List Int=>a.getD d 0) m)++[sumF (fun a:List Int=>a.getD k 0) m]:=by simp [vecN,List.range_succ]
   rw [Qbg inner,Qb5 (by unfold okN; simp [Qcw]; omega),addI (by omega) (by omega),ev]
   rfl) (by
   show Qcf m (D:Int) (vecN D (fun d=>sumF (fun a=>a.getD d 0) m)) (D:Int)=_
   unfold Qcf
   rw [QaO (by simp)])
  exact this
 rw [Qbg this]
def overB (cap a:List Int):Bool:=(List.range a.length).any fun i=>gtI (a.getD i 0) (cap.getD i 0)
theorem Qs7 {a cap:List Int} (ha:a.length=cap.length) (hl:a.length≤1048576):QhE a cap=some (!overB cap a)∧Qd5 a cap=some (!overB cap a):=by
 have g:∀ i,i<a.length→a[i]?=some (a.getD i 0)∧cap[i]?=some (cap.getD i 0):=fun i hi=>by
  rw [List.getD_eq_getElem?_getD,List.getD_eq_getElem?_getD,List.getElem?_eq_getElem hi,List.getElem?_eq_getElem (show i<cap.length by omega)]
  exact ⟨rfl,rfl⟩
 have hb:overB cap a=true↔∃ k,k<a.length∧gtI (a.getD k 0) (cap.getD k 0)=true:=by
  unfold overB
  rw [List.any_eq_true]
  exact ⟨fun ⟨k,hk,h⟩=>⟨k,List.mem_range.1 hk,h⟩,fun ⟨k,hk,h⟩=>⟨k,List.mem_range.2 hk,h⟩⟩
 constructor
 ·unfold QhE
  rw [QaO (by simp [lenI,ha]),Qbg (Qur (B:=fun s=>Qez a cap s) hl (fun k=>gtI (a.getD k 0) (cap.getD k 0)) (y:=(.inr false:Unit⊕Bool)) (N:=.inl ()) hb (fun i hi=>by
   show Qez a cap i=_
   unfold Qez
   rw [Qbh (g i hi).1,QaB (g i hi).2,Qaj,inc hi hl,brs]) (by
   show Qez a cap a.length=_
   unfold Qez
   rw [QaV]))]
  cases overB cap a <;> rfl
 ·unfold Qd5
  rw [QaO (by simp [lenI,ha]),Qbg (Qur (B:=fun s=>Qcp a cap s) hl (fun k=>gtI (a.getD k 0) (cap.getD k 0)) (y:=(.inr false:Unit⊕Bool)) (N:=.inl ()) hb (fun i hi=>by
   show Qcp a cap i=_
   unfold Qcp
   rw [Qbh (g i hi).1,QaB (g i hi).2,Qaj,inc hi hl,brs]) (by
   show Qcp a cap a.length=_
   unfold Qcp
   rw [QaV]))]
  cases overB cap a <;> rfl
theorem QBA (h0:0≤r.type_) (h1:r.type_<x.types.length):getI x.types r.type_=some (typS x r)∧typS x r∈x.types:=by
 have e:x.types[r.type_.toNat]?=some (x.types[r.type_.toNat]'(by omega)):=List.getElem?_eq_getElem _
 have ht:typS x r=x.types[r.type_.toNat]'(by omega):=by unfold typS; rw [List.getD_eq_getElem?_getD,e]; rfl
 rw [ht]
 exact ⟨Qrn h0 h1,List.getElem_mem _⟩
end
end Go.Proofs.YtfjiafgldchinaaGreatDoor
namespace Go.Proofs.YtfjiafgldchinaaGreatDoor
set_option linter.unusedSimpArgs false
set_option linter.unusedVariables false
set_option linter.unusedSectionVars false
theorem QAt {m:List (Int×Int)} {k k' v z:Int}:mGet eqI (mPut eqI m k v) k' z=if k'=k then v else mGet eqI m k' z:=by
 induction m with
 | nil =>
  unfold mPut mGet mGet
  by_cases h:k'=k
  ·rw [if_pos h,show eqI k' k=true by simpa using h]; rfl
  ·rw [if_neg h,show eqI k' k=false by simpa using h]; rfl
 | cons p r ih =>
  unfold mPut
  cases hp:eqI k p.1 with
  | true =>
   have hp':k=p.1:=by simpa using hp
   simp only [cond_true]
   unfold mGet
   by_cases h:k'=k
   ·rw [if_pos h,show eqI k' k=true by simpa using h]; rfl
   ·rw [if_neg h,show eqI k' k=false by simpa using h,show eqI k' p.1=false by rw [← hp']; simpa using h]; rfl
  | false =>
   have hp':k≠p.1:=by simpa using hp
   simp only [cond_false]
   unfold mGet
   rw [ih]
   by_cases h:k'=k
   ·rw [if_pos h,show eqI k' p.1=false by rw [h]; exact hp,if_pos h]; rfl
   ·rw [if_neg h,if_neg h]
section
variable {x : Qac} {l : List Qaa} {r : QaF} {s0 : Qa0}
def cntV (l:List Qaa) (o:Int):Int:=sumF (fun v:Qaa=>if v.order=o then 1 else 0) l
theorem QwX {o:Int}:0≤cntV l o∧cntV l o≤l.length∧(0<cntV l o↔hasO l o=true):=by
 induction l with
 | nil=>simp [cntV,sumF,hasO]
 | cons v l ih =>
  have e:cntV (v :: l) o=(if v.order=o then 1 else 0)+cntV l o:=by simp [cntV,sumF]
  have e2:hasO (v :: l) o=(isO o v||hasO l o):=by simp [hasO]
  rw [e,e2,List.length_cons,Bool.or_eq_true,isO_t]
  split
  ·rename_i h
   refine ⟨by omega,by omega,fun _=>.inl h,fun _=>by omega⟩
  ·rename_i h
   refine ⟨by omega,by omega,fun h'=>.inr (ih.2.2.1 (by omega)),fun h'=>?_⟩
   rcases h' with h'|h'
   ·exact absurd h' h
   ·have:=ih.2.2.2 h'; omega
def mapK (l:List Qaa):List (Int×Int):=l.foldl (fun m v=>mPut eqI m v.order (addK .i64 (mGet eqI m v.order 0) 1)) []
theorem QvM {v:Qaa}:mapK (l++[v])=mPut eqI (mapK l) v.order (addK .i64 (mGet eqI (mapK l) v.order 0) 1):=by simp [mapK]
theorem QAu {l:List Qaa} (hl:l.length≤1048576) (o:Int):mGet eqI (mapK l) o 0=cntV l o:=by
 have main:∀ k,k≤l.length→mGet eqI (mapK (l.take k)) o 0=cntV (l.take k) o:=by
  intro k hk
  induction k generalizing o with
  | zero=>rfl
  | succ k ih =>
   have e:l[k]?=some l[k]:=List.getElem?_eq_getElem (by omega)
   generalize l[k]=v at e
   rw [take_one e,QvM,QAt]
   have e2:cntV (l.take k++[v]) o=cntV (l.take k) o+(if v.order=o then 1 else 0):=by unfold cntV; rw [QsJ,QsK]
   have hb:=(QwX (l:=l.take k) (o:=v.order)).2.1
   have hb0:=(QwX (l:=l.take k) (o:=v.order)).1
   have hlen:(l.take k).length≤k:=by rw [List.length_take]; omega
   rw [e2,ih v.order (by omega),ih o (by omega),addI (by omega) (by omega)]
   by_cases h:o=v.order
   ·rw [if_pos h,if_pos h.symm,h]
   ·rw [if_neg h,if_neg fun h'=>h h'.symm]; omega
 have:=main l.length (Nat.le_refl _)
 rwa [List.take_length] at this
def forB (kind own:Int):Bool:=neI kind (-1)&&neI kind own
def bit1 (b:Bool):Int:=if b=true then 1 else 0
def pairK (x:Qac) (r:QaF):Nat→Int×Int
 | 0=>(0,0)
 | k+1=>match r.visits[k]? with
  | none=>pairK x r k
  | some v=>match (if 0≤v.order then x.orders[v.order.toNat]? else none) with
   | none=>pairK x r k
   | some o=>if hasO (r.visits.take k) v.order=true then pairK x r k else ((pairK x r k).1+bit1 (forB o.now r.type_),(pairK x r k).2+bit1 (forB o.last_ r.type_))
theorem Qs2 {b:Bool}:0≤bit1 b∧bit1 b≤1:=by cases b <;> simp [bit1]
theorem QtF:∀ k,(0≤(pairK x r k).1∧(pairK x r k).1≤k)∧(0≤(pairK x r k).2∧(pairK x r k).2≤k)
 | 0=>by simp [pairK]
 | k+1=>by
  have ih:=QtF k
  unfold pairK
  split
  ·omega
  ·split
   ·omega
   ·rename_i o _
    have h1:=Qs2 (b:=forB o.now r.type_)
    have h2:=Qs2 (b:=forB o.last_ r.type_)
    split
    ·omega
    ·simp only; omega
theorem QvU (hx:Qa5 x):∀ k,k≤r.visits.length→(pairK x r k).1≤sumN x.orders.length (fun i=>bit1 (hasO (r.visits.take k) (i:Int)))∧(pairK x r k).2≤sumN x.orders.length (fun i=>bit1 (hasO (r.visits.take k) (i:Int)))
 | 0,_=>by
  have:=(Qv9 (f:=fun i=>bit1 (hasO (r.visits.take 0) (i:Int))) (c:=1) (by omega) x.orders.length fun i=>Qs2).1
  simp only [pairK]
  omega
 | k+1,hk=>by
  have ih:=QvU hx k (by omega)
  have e:r.visits[k]?=some r.visits[k]:=List.getElem?_eq_getElem (by omega)
  generalize r.visits[k]=v at e
  have hh:∀ i:Nat,hasO (r.visits.take (k+1)) (i:Int)=(hasO (r.visits.take k) (i:Int)||isO (i:Int) v):=fun i=>by rw [take_one e]; simp [hasO]
  have mono:sumN x.orders.length (fun i=>bit1 (hasO (r.visits.take k) (i:Int)))≤sumN x.orders.length (fun i=>bit1 (hasO (r.visits.take (k+1)) (i:Int))):=by
   generalize x.orders.length=n
   induction n with
   | zero=>exact Int.le_refl _
   | succ n ihn =>
    show sumN n (fun i=>bit1 (hasO (r.visits.take k) (i:Int)))+bit1 (hasO (r.visits.take k) (n:Int))≤sumN n (fun i=>bit1 (hasO (r.visits.take (k+1)) (i:Int)))+bit1 (hasO (r.visits.take (k+1)) (n:Int))
    have:=hh n
    have h2:bit1 (hasO (r.visits.take k) (n:Int))≤bit1 (hasO (r.visits.take (k+1)) (n:Int)):=by
     rw [this]
     cases hasO (r.visits.take k) (n:Int) <;> cases isO (n:Int) v <;> simp [bit1]
    omega
  unfold pairK
  rw [e]
  simp only
  split
  ·omega
  ·rename_i o ho
   split at ho
   ·rename_i h0
    have hlt:=(List.getElem?_eq_some_iff.1 ho).1
    have h1:=Qs2 (b:=forB o.now r.type_)
    have h2:=Qs2 (b:=forB o.last_ r.type_)
    split
    ·omega
    ·rename_i hn
     obtain ⟨i,hi⟩:∃ i:Nat,v.order=i:=⟨v.order.toNat,by omega⟩
     rw [hi] at hn hlt
     have up:=Qvg (f:=fun i=>bit1 (hasO (r.visits.take k) (i:Int))) (g:=fun i=>bit1 (hasO (r.visits.take (k+1)) (i:Int))) (o:=i) x.orders.length (by omega) (fun j hj=>by
      have hjf:isO (j:Int) v=false:=by
       rw [Bool.eq_false_iff]
       intro h
       have:=isO_t.1 h
       omega
      show bit1 (hasO (r.visits.take (k+1)) (j:Int))=bit1 (hasO (r.visits.take k) (j:Int))
      rw [hh,hjf,Bool.or_false])
     rw [up]
     have e1:bit1 (hasO (r.visits.take (k+1)) (i:Int))=1:=by rw [hh,isO_t.2 hi,Bool.or_true]; rfl
     have e2:bit1 (hasO (r.visits.take k) (i:Int))=0:=by rw [Bool.eq_false_iff.2 hn]; rfl
     rw [e1,e2]
     omega
   ·cases ho
def scoS (x:Qac) (r:QaF) (s0:Qa0):QaL :=
 QaL.mk (addK .i64 (addK .i64 (typS x r).fixed (mulK .i64 (typS x r).perMile s0.miles)) (mulK .i64 (typS x r).perTick (subK .i64 s0.end_ (typS x r).open_))) (pairK x r r.visits.length).1 (pairK x r r.visits.length).2 (mulK .i64 (quoK .i64 (subK .i64 s0.end_ (typS x r).open_) 64) (quoK .i64 (subK .i64 s0.end_ (typS x r).open_) 64))
theorem QzO (hx:Qa5 x) (hl:r.visits.length≤1048576) (ht:0≤r.type_∧r.type_<x.types.length):QkD x r s0=some (scoS x r s0):=by
 obtain ⟨t1,t2⟩:=QBA ht.1 ht.2
 have h10:=hx.orders
 unfold QkD
 rw [QaO (by simp [lenI]; omega),t1,Qaj]
 have this:loopF (fun q:List (Int×Int)×Int×Int×Int=>Qdt x r s0 (typS x r) q.1 q.2.1 q.2.2.1 q.2.2.2) ([],0,0,0)=some (pairK x r r.visits.length):=by
  have:=QcQ r.visits.length (fun k=>(mapK (r.visits.take k),(pairK x r k).1,(pairK x r k).2,(k:Int))) (B:=fun q:List (Int×Int)×Int×Int×Int=>Qdt x r s0 (typS x r) q.1 q.2.1 q.2.2.1 q.2.2.2) (e:=pairK x r r.visits.length) (by omega) (fun k hk=>by
   have e:r.visits[k]?=some r.visits[k]:=List.getElem?_eq_getElem hk
   generalize r.visits[k]=v at e
   show Qdt x r s0 (typS x r) (mapK (r.visits.take k)) (pairK x r k).1 (pairK x r k).2 (k:Int)=some (Sum.inl (mapK (r.visits.take (k+1)),(pairK x r (k+1)).1,(pairK x r (k+1)).2,((k+1:Nat):Int)))
   unfold Qdt Qh2 Qjv
   rw [Qbh e,← QvM,← take_one e,incL e hl]
   have hlen:(r.visits.take k).length≤1048576:=by rw [List.length_take]; omega
   have hlen1:(r.visits.take (k+1)).length≤1048576:=by rw [List.length_take]; omega
   have hp:=QtF (x:=x) (r:=r) k
   have hg:gtI (mGet eqI (mapK (r.visits.take (k+1))) v.order 0) 1=hasO (r.visits.take k) v.order:=by
    rw [QAu hlen1,take_one e]
    have e2:cntV (r.visits.take k++[v]) v.order=cntV (r.visits.take k) v.order+1:=by unfold cntV; rw [QsJ,QsK,if_pos rfl]
    have:=(QwX (l:=r.visits.take k) (o:=v.order)).2.2
    rw [e2,Bool.eq_iff_iff,gtI_t,← this]
    omega
   rw [hg]
   show _=some (Sum.inl (mapK (r.visits.take (k+1)),(pairK x r (k+1)).1,(pairK x r (k+1)).2,(k:Int)+1))
   have hP:pairK x r (k+1)=match (if 0≤v.order then x.orders[v.order.toNat]? else none) with
    | none=>pairK x r k
    | some o=>if hasO (r.visits.take k) v.order=true then pairK x r k else ((pairK x r k).1+bit1 (forB o.now r.type_),(pairK x r k).2+bit1 (forB o.last_ r.type_)):=by
    show (match r.visits[k]? with
     | none=>pairK x r k
     | some v=>match (if 0≤v.order then x.orders[v.order.toNat]? else none) with
      | none=>pairK x r k
      | some o=>if hasO (r.visits.take k) v.order=true then pairK x r k else ((pairK x r k).1+bit1 (forB o.now r.type_),(pairK x r k).2+bit1 (forB o.last_ r.type_)))=_
    rw [e]
   rw [hP]
   by_cases hin:0≤v.order∧v.order<x.orders.length
   ·rw [QaO (by simp [lenI]; omega),if_pos hin.1]
    have eo:x.orders[v.order.toNat]?=some (x.orders[v.order.toNat]'(by omega)):=List.getElem?_eq_getElem _
    generalize x.orders[v.order.toNat]'(by omega)=o at eo
    have eg:getI x.orders v.order=some o:=by unfold getI; rw [if_pos hin.1,eo]
    rw [eo,eg]
    simp only [Qaj]
    cases hasO (r.visits.take k) v.order with
    | true=>rfl
    | false =>
     rw [Qbb,if_neg (by decide),show (neI o.now (-1)&&neI o.now r.type_)=forB o.now r.type_ from rfl,show (neI o.last_ (-1)&&neI o.last_ r.type_)=forB o.last_ r.type_ from rfl,addI (by omega) (by omega),addI (by omega) (by omega)]
     generalize pairK x r k=p
     cases forB o.now r.type_ <;> cases forB o.last_ r.type_ <;> simp [bit1]
   ·rw [QbO (by simp [lenI]; omega)]
    have:(if 0≤v.order then x.orders[v.order.toNat]? else none)=none:=by
     split
     ·exact List.getElem?_eq_none (by omega)
     ·rfl
    rw [this]) (by
   show Qdt x r s0 (typS x r) (mapK (r.visits.take r.visits.length)) (pairK x r r.visits.length).1 (pairK x r r.visits.length).2 (r.visits.length:Int)=_
   unfold Qdt
   rw [QaV])
  exact this
 rw [Qbg this]
 rfl
theorem Qyn (hl:l.length≤1048576) {k:Nat} {v:Qaa} (e:l[k]?=some v):QfN l (k:Int)=some (!hasO (l.take k) v.order):=by
 have hk:=(List.getElem?_eq_some_iff.1 e).1
 have:=Qur (B:=fun q=>QbM l (k:Int) q) (n:=k) (by omega) (fun j=>match l[j]? with|some w=>eqI w.order v.order|none=>false) (y:=(.inr false:Unit⊕Bool)) (N:=.inl ()) (b:=hasO (l.take k) v.order) (by
  rw [QnZ]
  constructor
  ·rintro ⟨w,hw,he⟩
   obtain ⟨j,hj,hje⟩:=(Qx3 (by omega)).1 hw
   exact ⟨j,hj,by rw [hje]; simpa using he⟩
  ·rintro ⟨j,hj,h⟩
   rw [List.getElem?_eq_getElem (show j<l.length by omega)] at h
   exact ⟨_,(Qx3 (by omega)).2 ⟨j,hj,List.getElem?_eq_getElem (by omega)⟩,by simpa using h⟩) (fun j hj=>by
  have ej:l[j]?=some (l[j]'(by omega)):=List.getElem?_eq_getElem _
  show QbM l (k:Int) j=_
  unfold QbM
  rw [QbO (by simp; omega),QaB ej,Qaj,QaB e,Qaj,incL ej hl,brs,ej]) (by
  show QbM l (k:Int) k=_
  unfold QbM
  rw [QaO (by simp)])
 unfold QfN
 rw [Qbg this]
 cases hasO (l.take k) v.order <;> rfl
theorem QwH (hx:Qa5 x) (hl:r.visits.length≤1048576) (ht:0≤r.type_∧r.type_<x.types.length):Qfa x r s0=some (scoS x r s0):=by
 obtain ⟨t1,t2⟩:=QBA ht.1 ht.2
 have h10:=hx.orders
 unfold Qfa
 rw [QaO (by simp [lenI]; omega),t1,Qaj]
 have this:loopF (fun q:Int×Int×Int=>QbD x r s0 (typS x r) q.1 q.2.1 q.2.2) (0,0,0)=some (pairK x r r.visits.length):=by
  have:=QcQ r.visits.length (fun k=>((pairK x r k).1,(pairK x r k).2,(k:Int))) (B:=fun q:Int×Int×Int=>QbD x r s0 (typS x r) q.1 q.2.1 q.2.2) (e:=pairK x r r.visits.length) (by omega) (fun k hk=>by
   have e:r.visits[k]?=some r.visits[k]:=List.getElem?_eq_getElem hk
   generalize r.visits[k]=v at e
   show QbD x r s0 (typS x r) (pairK x r k).1 (pairK x r k).2 (k:Int)=some (Sum.inl ((pairK x r (k+1)).1,(pairK x r (k+1)).2,((k+1:Nat):Int)))
   unfold QbD QeK
   rw [Qbh e,incL e hl,Qyn hl e]
   have hp:=QtF (x:=x) (r:=r) k
   show _=some (Sum.inl ((pairK x r (k+1)).1,(pairK x r (k+1)).2,(k:Int)+1))
   have hP:pairK x r (k+1)=match (if 0≤v.order then x.orders[v.order.toNat]? else none) with
    | none=>pairK x r k
    | some o=>if hasO (r.visits.take k) v.order=true then pairK x r k else ((pairK x r k).1+bit1 (forB o.now r.type_),(pairK x r k).2+bit1 (forB o.last_ r.type_)):=by
    show (match r.visits[k]? with
     | none=>pairK x r k
     | some v=>match (if 0≤v.order then x.orders[v.order.toNat]? else none) with
      | none=>pairK x r k
      | some o=>if hasO (r.visits.take k) v.order=true then pairK x r k else ((pairK x r k).1+bit1 (forB o.now r.type_),(pairK x r k).2+bit1 (forB o.last_ r.type_)))=_
    rw [e]
   rw [hP]
   by_cases hin:0≤v.order∧v.order<x.orders.length
   ·rw [QaO (by simp [lenI]; omega),if_pos hin.1]
    have eo:x.orders[v.order.toNat]?=some (x.orders[v.order.toNat]'(by omega)):=List.getElem?_eq_getElem _
    generalize x.orders[v.order.toNat]'(by omega)=o at eo
    have eg:getI x.orders v.order=some o:=by unfold getI; rw [if_pos hin.1,eo]
    rw [eo,eg]
    simp only [Qaj]
    cases hasO (r.visits.take k) v.order with
    | true=>rfl
    | false =>
     rw [Bool.not_false,Qbx,if_neg (by decide),addI (by omega) (by omega),addI (by omega) (by omega)]
     generalize pairK x r k=p
     unfold forB
     cases neI o.now (-1) <;> cases neI o.now r.type_ <;> cases neI o.last_ (-1) <;> cases neI o.last_ r.type_ <;> simp [bit1]
   ·rw [QbO (by simp [lenI]; omega)]
    have:(if 0≤v.order then x.orders[v.order.toNat]? else none)=none:=by
     split
     ·exact List.getElem?_eq_none (by omega)
     ·rfl
    rw [this]) (by
   show QbD x r s0 (typS x r) (pairK x r r.visits.length).1 (pairK x r r.visits.length).2 (r.visits.length:Int)=_
   unfold QbD
   rw [QaV])
  exact this
 rw [Qbg this]
 rfl
end
theorem Qyi (s:QaL):∃ w,QfA s=some w∧QdT s=some w:=by
 unfold QfA QdT QmM Qh0
 simp only [Qaj]
 cases h1:ltI s.cost 0 with
 | true=>exact ⟨_,rfl,rfl⟩
 | false =>
  cases h2:ltI s.moved 0 with
  | true=>exact ⟨_,rfl,rfl⟩
  | false =>
   cases h3:ltI s.other 0 with
   | true=>exact ⟨_,rfl,rfl⟩
   | false =>
    cases h4:ltI s.work 0 with
    | true=>exact ⟨_,rfl,rfl⟩
    | false =>
     have e:(((((((geI s.cost 0&&leI s.cost 1073741824)&&geI s.moved 0)&&leI s.moved 15)&&geI s.other 0)&&leI s.other 15)&&geI s.work 0)&&leI s.work 65535)=!(((gtI s.cost 1073741824||geI s.moved 16)||geI s.other 16)||geI s.work 65536):=by
      simp only [ltI_f] at h1 h2 h3 h4
      rw [Bool.eq_iff_iff]
      simp only [Bool.and_eq_true,geI_t,leI_t,Bool.not_eq_true',Bool.or_eq_false_iff,gtI_f,geI_f]
      omega
     rw [e]
     simp only [Qbb]
     cases ((gtI s.cost 1073741824||geI s.moved 16)||geI s.other 16)||geI s.work 65536
     ·exact ⟨_,rfl,rfl⟩
     ·exact ⟨_,rfl,rfl⟩
end Go.Proofs.YtfjiafgldchinaaGreatDoor
namespace Go.Proofs.YtfjiafgldchinaaGreatDoor
set_option linter.unusedSimpArgs false
set_option linter.unusedVariables false
set_option linter.unusedSectionVars false
theorem QtB:∀ (n:Nat) (l:List Nat),l.Nodup→(∀ a∈l,a<n)→l.length≤n
 | 0,l,_,h=>by
  cases l with
  | nil=>simp
  | cons a r=>exact absurd (h a (by simp)) (by omega)
 | n+1,l,hd,h=>by
  by_cases hm:n∈l
  ·have h1:=QtB n (l.erase n) (hd.erase n) fun a ha=>by
    have h2:=(hd.mem_erase_iff).1 ha
    have:=h a h2.2
    omega
   rw [List.length_erase_of_mem hm] at h1
   omega
  ·have:=QtB n l hd fun a ha=>by
    have:=h a ha
    have:a≠n:=fun e=>hm (e ▸ ha)
    omega
   omega
section
variable {x : Qac} {l : List Qaa} {r : QaF}
theorem SeqOK.short (hx:Qa5 x) (h:SeqOK x l):l.length≤20:=by
 have h10:=hx.orders
 have hm:(l.map fun v:Qaa=>2*v.order.toNat+(if v.drop=true then 1 else 0)).Nodup:=by
  unfold List.Nodup
  rw [List.pairwise_map]
  refine h.nodup.imp_of_mem fun {a b} ha hb hne he=>hne ?_
  have h1:=Qxe h.inn ha
  have h2:=Qxe h.inn hb
  cases a with
  | mk ao ad =>
   cases b with
   | mk bo bd =>
    simp only at h1 h2 he
    have hd:ad=bd∧ao=bo:=by
     cases ad <;> cases bd <;> simp at he ⊢ <;> omega
    rw [hd.1,hd.2]
 have:=QtB 20 _ hm fun a ha=>by
  obtain ⟨v,hv,rfl⟩:=List.mem_map.1 ha
  have h1:=Qxe h.inn hv
  split <;> omega
 simpa using this
end
end Go.Proofs.YtfjiafgldchinaaGreatDoor
namespace Go.Proofs.YtfjiafgldchinaaGreatDoor
set_option linter.unusedSimpArgs false
set_option linter.unusedVariables false
set_option linter.unusedSectionVars false
inductive Pth (bf:List Qap):Int→Int→Prop where
 | one {p:Qap} (h:p∈bf):Pth bf p.x0 p.x1
 | more {a:Int} {p:Qap} (h:Pth bf a p.x0) (h':p∈bf):Pth bf a p.x1
section
variable {x : Qac} {l : List Qaa} {r : QaF}
theorem QuL (h:SeqOK x l) {p:Qap} (hp:p∈x.before) (hb:hasO l p.x1=true):hasO l p.x0=true∧ixI (isO p.x0) l<ixI (isO p.x1) l:=by
 have h1:=List.any_eq_false.1 h.before p hp
 unfold badB at h1
 rw [hb,Bool.true_and] at h1
 simp only [Bool.or_eq_true,Bool.not_eq_true',not_or,Bool.not_eq_false,Bool.not_eq_true] at h1
 obtain ⟨h2,h3⟩:=h1
 refine ⟨h2,?_⟩
 unfold lateB at h3
 have hge:0≤ixI (isO p.x1) l:=by rw [← geI_t,Qrm]; exact hb
 have hge0:0≤ixI (isO p.x0) l:=by rw [← geI_t,Qrm]; exact h2
 unfold ixI at hge hge0 ⊢
 cases e1:ixP (isO p.x1) l with
 | none=>rw [e1] at hge; simp at hge
 | some k =>
  rw [e1] at h3
  simp only at h3
  cases e0:ixP (isO p.x0) l with
  | none=>rw [e0] at hge0; simp at hge0
  | some j =>
   obtain ⟨j1,j2,_⟩:=QpJ e0
   simp only
   have hjk:j<k:=Nat.lt_of_not_le fun hle=>by
    have:hasO (l.drop k) p.x0=true:=QnZ.2 ⟨l[j],List.mem_iff_getElem?.2 ⟨j-k,by rw [List.getElem?_drop,show k+(j-k)=j by omega,List.getElem?_eq_getElem j1]⟩,isO_t.1 j2⟩
    rw [this] at h3
    cases h3
   omega
theorem QBs (h:SeqOK x l) {a b:Int} (hp:Pth x.before a b):hasO l b=true→hasO l a=true∧ixI (isO a) l<ixI (isO b) l:=by
 induction hp with
 | one hm=>exact QuL h hm
 | more _ hm ih =>
  intro hb
  obtain ⟨h1,h2⟩:=QuL h hm hb
  obtain ⟨h3,h4⟩:=ih h1
  exact ⟨h3,by omega⟩
theorem Qnj {D:Nat} {f:Nat→Int} {i:Int} (h0:0≤i) (h1:i<D):getI (vecN D f) i=some (f i.toNat):=by
 unfold getI
 rw [if_pos h0,Qev (by omega)]
structure ChI (bf:List Qap) (m:Nat→Nat):Prop where
 lt:∀ i,m i<1024
 pth:∀ i a:Nat,(m i).testBit a=true→Pth bf (a:Int) (i:Int)
theorem QqV (hx:Qa5 x):post (Qep (lenI x.orders) x.before) fun c=>∃ m,c=vecN x.orders.length (fun i=>((m i:Nat):Int))∧ChI x.before m:=by
 have h10:=hx.orders
 have hb16:=hx.before
 have sb:∀ m:Nat→Nat,(∀ i,m i<1024)→0≤sumN x.orders.length (fun i=>((m i:Nat):Int))∧sumN x.orders.length (fun i=>((m i:Nat):Int))≤10240:=fun m hm=>by
  have:=Qv9 (f:=fun i=>((m i:Nat):Int)) (c:=1024) (by omega) x.orders.length fun i=>by have:=hm i; omega
  omega
 unfold Qep
 have hz:mkI (maxI (lenI x.orders) 0) (maxI (lenI x.orders) 0) 8 (0:Int)=some (vecN x.orders.length fun i=>(((fun _=>0:Nat→Nat) i:Nat):Int)):=by
  have hm:maxI (lenI x.orders) 0=(x.orders.length:Int):=by rw [Qzx]; unfold lenI; omega
  rw [hm]
  unfold mkI
  rw [if_pos (by omega)]
  congr 1
  refine List.ext_getElem? fun i=>?_
  rcases Nat.lt_or_ge i x.orders.length with h|h
  ·rw [Qev h]; simp [h]
  ·rw [List.getElem?_eq_none (by simp; omega),List.getElem?_eq_none (by rw [Qcw]; omega)]
 rw [hz,Qaj]
 refine QaU (R:=fun c=>∃ m,c=vecN x.orders.length (fun i=>((m i:Nat):Int))∧ChI x.before m) ?_ fun c hc=>Qay.2 hc
 refine Qde (fun s:List Int×Bool=>∃ m,s.1=vecN x.orders.length (fun i=>((m i:Nat):Int))∧ChI x.before m) (fun s=>2*(10240-sumN x.orders.length (fun i=>s.1.getD i 0)).toNat+(if s.2=true then 1 else 0)) ⟨fun _=>0,rfl,fun _=>by omega,fun i a h=>by simp at h⟩ ?_ ?_
 ·have hz0:0≤sumN x.orders.length (fun i=>(vecN x.orders.length fun i=>(((fun _=>0:Nat→Nat) i:Nat):Int)).getD i 0):=by
   rw [QqO (g:=fun i=>(((fun _=>0:Nat→Nat) i:Nat):Int)) _ fun i hi=>by rw [List.getD_eq_getElem?_getD,Qev hi]; rfl]
   exact (sb (fun _=>0) fun _=>by omega).1
  refine Nat.lt_of_le_of_lt (m:=2*10240+1) ?_ (by decide)
  refine Nat.add_le_add (Nat.mul_le_mul_left 2 (Int.toNat_le.2 ?_)) (by split <;> decide)
  exact Int.sub_le_self _ hz0
 rintro ⟨_,more⟩ ⟨m,rfl,hm⟩
 have gsum:∀ m:Nat→Nat,sumN x.orders.length (fun i=>(vecN x.orders.length fun i=>((m i:Nat):Int)).getD i 0)=sumN x.orders.length (fun i=>((m i:Nat):Int)):=fun m=>QqO _ fun i hi=>by rw [List.getD_eq_getElem?_getD,Qev hi]; rfl
 show post (QcV x.before _ (vecN x.orders.length fun i=>((m i:Nat):Int)) more) _
 unfold QcV
 refine QaC (fun hmore=>?_) (fun hmore=>Qdn ⟨m,rfl,hm⟩)
 refine QaU (R:=fun e:List Int×Bool=>∃ m',e.1=vecN x.orders.length (fun i=>((m' i:Nat):Int))∧ChI x.before m'∧sumN x.orders.length (fun i=>((m i:Nat):Int))≤sumN x.orders.length (fun i=>((m' i:Nat):Int))∧(e.2=true→sumN x.orders.length (fun i=>((m i:Nat):Int))<sumN x.orders.length (fun i=>((m' i:Nat):Int)))) ?_ ?_
 ·refine Qde (fun s:List Int×Bool×Int=>∃ (k:Nat) (m':Nat→Nat),s.2.2=(k:Int)∧k≤x.before.length∧s.1=vecN x.orders.length (fun i=>((m' i:Nat):Int))∧ChI x.before m'∧sumN x.orders.length (fun i=>((m i:Nat):Int))≤sumN x.orders.length (fun i=>((m' i:Nat):Int))∧(s.2.1=true→sumN x.orders.length (fun i=>((m i:Nat):Int))<sumN x.orders.length (fun i=>((m' i:Nat):Int)))) (fun s=>x.before.length-s.2.2.toNat) ⟨0,m,rfl,Nat.zero_le _,rfl,hm,Int.le_refl _,fun h=>by cases h⟩ (by simp; omega) ?_
  rintro ⟨_,f,_⟩ ⟨k,m',rfl,hk,rfl,hm',hle,hf⟩
  show post (QcW x.before _ (vecN x.orders.length fun i=>((m' i:Nat):Int)) f (k:Int)) _
  unfold QcW
  rcases Nat.lt_or_ge k x.before.length with h|h
  ·have e:x.before[k]?=some x.before[k]:=List.getElem?_eq_getElem h
   have hmem:=List.getElem_mem h
   generalize x.before[k]=p at e hmem
   obtain ⟨p0,p1,p2,p3,p4⟩:=hx.befores p hmem
   obtain ⟨a,ha⟩:∃ a:Nat,p.x0=a:=⟨p.x0.toNat,by omega⟩
   obtain ⟨b,hb⟩:∃ b:Nat,p.x1=b:=⟨p.x1.toNat,by omega⟩
   have hpa:Pth x.before (a:Int) (b:Int):=ha ▸ hb ▸ Pth.one hmem
   have hpb:∀ c:Int,Pth x.before c (a:Int)→Pth x.before c (b:Int):=fun c hc=>by
    rw [← ha] at hc; rw [← hb]; exact Pth.more hc hmem
   rw [ha] at p0 p1
   rw [hb] at p2 p3
   have hma:=hm'.lt a
   have hmb:=hm'.lt b
   have h2:2 ^ a≤2 ^ 9:=Nat.pow_le_pow_right (by omega) (by omega)
   rw [Qbh e,ha,hb,QaO (by simp [lenI,Qcw]; omega),Qnj p2 p3,Qaj,Qnj p0 p1,Qaj,Qb5 (by omega),incL e (by omega),Int.toNat_natCast,Int.toNat_natCast,shlN (by omega),orN (by omega) (by omega)]
   have hor1:m' b ||| m' a<1024:=Nat.or_lt_two_pow (n:=10) hmb hma
   rw [orN (by omega) (by omega)]
   have hor2:m' b ||| m' a ||| 2 ^ a<1024:=Nat.or_lt_two_pow (n:=10) hor1 (by omega)
   have hge:m' b≤m' b ||| m' a ||| 2 ^ a:=Nat.le_trans Nat.left_le_or Nat.left_le_or
   refine QaC (fun hne=>Qeu ⟨⟨k+1,fun i=>if i=b then m' b ||| m' a ||| 2 ^ a else m' i,rfl,h,?_,⟨fun i=>?_,fun i c hc=>?_⟩,?_,fun _=>?_⟩,by simp; omega⟩) (fun _=>Qeu ⟨⟨k+1,m',rfl,h,rfl,hm',hle,hf⟩,by simp; omega⟩)
   ·show setI (vecN x.orders.length fun i=>((m' i:Nat):Int)) (b:Int) _=_
    rw [Qx7 (by omega)]
    refine QfP fun d _=>?_
    show (if d=b then _ else _:Int)=(((if d=b then _ else _:Nat):Nat):Int)
    split <;> rfl
   ·show (if i=b then _ else _)<1024
    split
    ·exact hor2
    ·exact hm'.lt i
   ·have hc':(if i=b then m' b ||| m' a ||| 2 ^ a else m' i).testBit c=true:=hc
    by_cases hi:i=b
    ·rw [if_pos hi,Nat.testBit_or,Nat.testBit_or,Nat.testBit_two_pow] at hc'
     rw [hi]
     simp only [Bool.or_eq_true,decide_eq_true_iff] at hc'
     rcases hc' with (hc'|hc')|hc'
     ·exact hm'.pth b c hc'
     ·exact hpb _ (hm'.pth a c hc')
     ·exact hc' ▸ hpa
    ·rw [if_neg hi] at hc'
     exact hm'.pth i c hc'
   all_goals
    have up:=Qvg (f:=fun i=>((m' i:Nat):Int)) (g:=fun i=>(((if i=b then m' b ||| m' a ||| 2 ^ a else m' i:Nat):Nat):Int)) (o:=b) x.orders.length (by omega) (fun j hj=>by
     show (((if j=b then _ else _:Nat):Nat):Int)=_
     rw [if_neg hj])
    simp only [if_pos] at up
    rw [neI_t] at hne
    show _≤sumN x.orders.length (fun i=>(((if i=b then m' b ||| m' a ||| 2 ^ a else m' i:Nat):Nat):Int))
    rw [up]
    omega
  ·obtain rfl:k=x.before.length:=by omega
   rw [QaV]
   exact Qdn ⟨m',rfl,hm',hle,hf⟩
 ·rintro ⟨_,f⟩ ⟨m',rfl,hm',hle,hf⟩
  refine Qeu ⟨⟨m',rfl,hm'⟩,?_⟩
  simp only [gsum]
  have s1:=sb m hm.lt
  have s2:=sb m' hm'.lt
  rw [if_pos hmore]
  simp only at hle hf
  cases f with
  | true=>have:=hf rfl; simp; omega
  | false=>simp; omega
theorem QwK (hx:Qa5 x) (h:SeqOK x l) {s:Int} (hs:SetOf l s):Qdz x s=some 0:=by
 have h10:=hx.orders
 have ha16:=hx.apart
 have hb16:=hx.before
 have hlen:=Qsl (l:=l) 63
 have hmem:∀ i∈memN l 63,∃ k:Nat,i=k∧k<63∧hasO l (k:Int)=true:=fun i hi=>Qtz hi
 have hs0:¬ s<0:=by obtain ⟨m,rfl,_⟩:=hs.ex; omega
 unfold Qdz
 rw [QaO (by simp; omega),QrU hs,Qaj]
 generalize memN l 63=M at *
 have hat:∀ {i:Nat} {a:Int},M[i]?=some a→0≤a∧a<x.orders.length∧hasO l a=true:=fun hh=>by
  obtain ⟨k,rfl,_,hk⟩:=hmem _ (List.mem_of_getElem? hh)
  have:=QBK h hk
  exact ⟨this.1,this.2,hk⟩
 have l1:loopF (fun q=>QaS x s M q) 0=some (.inl ()):=by
  have:=QcR (B:=fun q=>QaS x s M q) (l:=M) (by omega) (fun _=>false) (y:=(.inr 2:Unit⊕Int)) (N:=.inl ()) (fun i a hh=>by
   have hin:=hat hh
   show QaS x s M i=_
   unfold QaS
   rw [Qbh hh,QaO (by simp [lenI]; omega),incL hh (by omega)]
   rfl) (by
   show QaS x s M M.length=_
   unfold QaS
   rw [QaV])
  simpa using this
 have l2:loopF (fun q=>QaQ x s M q) 0=some (.inl ()):=by
  have:=QcR (B:=fun q=>QaQ x s M q) (l:=M) (by omega) (fun _=>false) (y:=(.inr 9:Unit⊕Int)) (N:=.inl ()) (fun i a hh=>by
   obtain ⟨q0,q1,q2⟩:=hat hh
   obtain ⟨v,hv,hvo⟩:=QnZ.1 q2
   have hoff:=List.any_eq_false.1 h.off v hv
   obtain ⟨o,g1,g2,g3,_⟩:=QBo (x:=x) (v:=v) (by omega) (by omega)
   show QaQ x s M i=_
   unfold QaQ
   rw [hvo] at g1
   rw [Qbh hh,g1,Qaj,QaO (by rw [← g3]; simpa using hoff),incL hh (by omega)]
   rfl) (by
   show QaQ x s M M.length=_
   unfold QaQ
   rw [QaV])
  simpa using this
 have l3:loopF (fun q=>QaI x s M q) 0=some (.inl ()):=by
  have:=QcR (B:=fun q=>QaI x s M q) (l:=x.apart) (by omega) (fun _=>false) (y:=(.inr 20:Unit⊕Int)) (N:=.inl ()) (fun i a hh=>by
   obtain ⟨p0,p1,p2,p3,p4⟩:=hx.aparts a (List.mem_of_getElem? hh)
   have hap:QnX l a=false:=by simpa using List.any_eq_false.1 h.apart a (List.mem_of_getElem? hh)
   unfold QnX at hap
   show QaI x s M i=_
   unfold QaI
   rw [Qbh hh,hs.Has p0 (by omega),Qaj,hs.Has p2 (by omega),Qaj,incL hh (by omega)]
   cases e1:hasO l a.x0 <;> cases e2:hasO l a.x1
   ·rfl
   ·rfl
   ·rfl
   ·rw [e1,e2] at hap; cases hap) (by
   show QaI x s M x.apart.length=_
   unfold QaI
   rw [QaV])
  simpa using this
 have l4:loopF (fun q=>QaH x s M q) 0=some (.inl ()):=by
  have:=QcR (B:=fun q=>QaH x s M q) (l:=x.before) (by omega) (fun _=>false) (y:=(.inr 21:Unit⊕Int)) (N:=.inl ()) (fun i a hh=>by
   have hm:=List.mem_of_getElem? hh
   obtain ⟨p0,p1,p2,p3,p4⟩:=hx.befores a hm
   show QaH x s M i=_
   unfold QaH
   rw [Qbh hh,hs.Has p2 (by omega),Qaj,hs.Has p0 (by omega),Qaj,incL hh (by omega)]
   cases e1:hasO l a.x1
   ·rfl
   ·rw [(QuL h hm e1).1]; rfl) (by
   show QaH x s M x.before.length=_
   unfold QaH
   rw [QaV])
  simpa using this
 obtain ⟨c,hc,m,rfl,hm⟩:=QqV hx
 have l5:loopF (fun q=>QaE M (vecN x.orders.length fun i=>((m i:Nat):Int)) q) 0=some (.inl ()):=by
  have:=QcR (B:=fun q=>QaE M (vecN x.orders.length fun i=>((m i:Nat):Int)) q) (l:=M) (by omega) (fun _=>false) (y:=(.inr 21:Unit⊕Int)) (N:=.inl ()) (fun i a hh=>by
   obtain ⟨q0,q1,q2⟩:=hat hh
   obtain ⟨k,rfl⟩:∃ k:Nat,a=k:=⟨a.toNat,by omega⟩
   show QaE M (vecN x.orders.length fun i=>((m i:Nat):Int)) i=_
   unfold QaE
   have hlt:=hm.lt k
   have hbit:(m k).testBit k=false:=by
    rw [Bool.eq_false_iff]
    intro hb
    have:=(QBs h (hm.pth k k hb) q2).2
    omega
   have hhas:QbN ((m k:Nat):Int) (k:Int)=some false:=by
    unfold QbN
    rw [QbO (by simp; omega),Qb5 (by omega),shrN (by omega)]
    have hd:=Nat.div_le_self (m k) (2 ^ k)
    rw [show (1:Int)=((1:Nat):Int) from rfl,andN (by omega) (by omega),Nat.and_one_is_mod]
    rw [Nat.testBit_eq_decide_div_mod_eq,decide_eq_false_iff_not] at hbit
    congr 1
    generalize m k / 2 ^ k=q at *
    rw [eqI_f]
    omega
   rw [Qbh hh,Qnj q0 q1,Qaj,Int.toNat_natCast,hhas,Qaj,incL hh (by omega)]
   rfl) (by
   show QaE M (vecN x.orders.length fun i=>((m i:Nat):Int)) M.length=_
   unfold QaE
   rw [QaV])
  simpa using this
 rw [Qbg l1,Qdd,Qbg l2,Qdd,Qbg l3,Qdd,Qbg l4,Qdd,hc,Qaj,Qbg l5,Qdd]
end
end Go.Proofs.YtfjiafgldchinaaGreatDoor
namespace Go.Proofs.YtfjiafgldchinaaGreatDoor
set_option linter.unusedSimpArgs false
set_option linter.unusedVariables false
set_option linter.unusedSectionVars false
def foldE {α S E:Type} (f:S→α→S⊕E) (N:S→E):S→List α→E
 | s,[]=>N s
 | s,a :: r=>match f s a with
  | .inl s'=>foldE f N s' r
  | .inr e=>e
theorem QyA {α S E:Type} {f:S→α→S⊕E} {N:S→E} {s s':S} {a:α} {r:List α} (h:f s a=.inl s'):foldE f N s (a :: r)=foldE f N s' r:=by rw [foldE,h]
theorem Qxt {α S E:Type} {l:List α} (hl:l.length≤1048576) (f:S→α→S⊕E) (N:S→E) (Inv:Nat→S→Prop) {B:S×Int→Option ((S×Int)⊕E)}
  (hin:∀ (s:S) (i:Nat) (a:α),l[i]?=some a→Inv i s→B (s,(i:Int))=some (match f s a with|.inl s'=>.inl (s',(i:Int)+1)|.inr e=>.inr e)∧∀ s',f s a=.inl s'→Inv (i+1) s')
  (hend:∀ s,Inv l.length s→B (s,(l.length:Int))=some (.inr (N s))) {s0:S} (h0:Inv 0 s0):loopF B (s0,0)=some (foldE f N s0 l):=by
 have main:∀ (m:List α) (k:Nat) (s:S),l.drop k=m→k≤l.length→Inv k s→iterF B (m.length+1) (s,(k:Int))=some (foldE f N s m):=by
  intro m
  induction m with
  | nil =>
   intro k s hd hk hi
   have:k=l.length:=by
    have:=congrArg List.length hd
    rw [List.length_drop,List.length_nil] at this
    omega
   subst this
   simp only [List.length_nil,iterF]
   rw [hend s hi]
   rfl
  | cons a m ih =>
   intro k s hd hk hi
   have hk':k<l.length:=Nat.lt_of_not_le fun h=>by rw [List.drop_eq_nil_of_le h] at hd; cases hd
   have hcons:=List.drop_eq_getElem_cons hk'
   rw [hd] at hcons
   injection hcons with h1 h2
   have e:l[k]?=some a:=by rw [List.getElem?_eq_getElem hk',← h1]
   obtain ⟨g1,g2⟩:=hin s k a e hi
   rw [List.length_cons,iterF,g1]
   show _=some (match f s a with|.inl s'=>foldE f N s' m|.inr e=>e)
   cases hf:f s a with
   | inl s'=>exact ih (k+1) s' h2.symm hk' (g2 s' hf)
   | inr e=>rfl
 have:=main l 0 s0 rfl (Nat.zero_le _) h0
 exact QuW (l.length+1) (by unfold Qpz; omega) this
end Go.Proofs.YtfjiafgldchinaaGreatDoor
namespace Go.Proofs.YtfjiafgldchinaaGreatDoor
set_option linter.unusedSimpArgs false
set_option linter.unusedVariables false
set_option linter.unusedSectionVars false
theorem QBk {n:Qal} (h:Qal.ok 1048576 n):NetI n:=by
 obtain ⟨⟨h1,h2⟩,⟨h3,h4⟩,_⟩:=h
 refine ⟨h1,h3,h2,fun a ha=>?_⟩
 obtain ⟨_,_,_,_,⟨h5,h6⟩,⟨h7,h8⟩,_⟩:=h4 a ha
 exact ⟨h5,h7,fun p hp=>⟨(h6 p hp).1,(h6 p hp).2.1⟩,fun p hp=>⟨(h8 p hp).1,(h8 p hp).2.1⟩⟩
end Go.Proofs.YtfjiafgldchinaaGreatDoor
namespace Go.Proofs.YtfjiafgldchinaaGreatDoor
set_option linter.unusedSimpArgs false
set_option linter.unusedVariables false
set_option linter.unusedSectionVars false
theorem QAa {x:Qac} (h:Qac.ok 1048576 x):InstI x:=by
 obtain ⟨h0,⟨h1,h2⟩,⟨h3,h4⟩,⟨h5,_⟩,⟨h6,_⟩,_⟩:=h
 refine ⟨QBk h0,h1,h3,h5,h6,fun t ht=>?_,fun o ho=>?_⟩
 ·obtain ⟨a,_,_,_,⟨b,_⟩,_⟩:=h2 t ht
  exact ⟨a,b⟩
 ·obtain ⟨a,⟨b,_⟩,_⟩:=h4 o ho
  exact ⟨a,b⟩
end Go.Proofs.YtfjiafgldchinaaGreatDoor
