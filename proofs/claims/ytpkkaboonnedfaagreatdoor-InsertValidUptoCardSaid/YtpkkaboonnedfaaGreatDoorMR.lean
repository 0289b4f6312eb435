/- Part MR of the proof: texts Yra Yrb Yrc Yrd Yre Yrf Yrg Yrh Yri Yrj Yta Ytb Ytc Ytd Yte Ytf Yqz Yqzd Yvz. -/
import Derived.Test.YtpkkaboonnedfaaGreatDoorMP
import Derived.Test.YtpkkaboonnedfaaGreatDoorMQ
import Derived.Test.YtpkkaboonnedfaaGreatDoorMT
namespace Go.Proofs.YtpkkaboonnedfaaGreatDoor
set_option linter.unusedSimpArgs false
set_option linter.unusedVariables false
set_option linter.unusedSectionVars false
def ixP {α:Type} (p:α→Bool):List α→Option Nat
 | []=>none
 | a :: r=>if p a=true then some 0 else (ixP p r).map (·+1)
section
variable {α : Type} {p : α → Bool}
theorem QnQ {l:List α} {k:Nat} (h:ixP p l=some k):∃ hk:k<l.length,p l[k]=true∧∀ j (hj:j<k),p (l[j]'(by omega))=false:=by
 induction l generalizing k with
 | nil=>cases h
 | cons a r ih =>
  unfold ixP at h
  split at h
  ·cases h
   exact ⟨by simp,by simpa,fun j hj=>by omega⟩
  ·rename_i ha
   rw [Option.map_eq_some_iff] at h
   obtain ⟨m,hm,rfl⟩:=h
   obtain ⟨h1,h2,h3⟩:=ih hm
   refine ⟨by simp; omega,by simpa using h2,fun j hj=>?_⟩
   cases j with
   | zero=>simpa using ha
   | succ j=>simpa using h3 j (by omega)
theorem QsQ {l:List α} (h:ixP p l=none):∀ a∈l,p a=false:=by
 induction l with
 | nil=>simp
 | cons a r ih =>
  unfold ixP at h
  split at h
  ·cases h
  ·rename_i ha
   rw [Option.map_eq_none_iff] at h
   intro b hb
   rcases List.mem_cons.1 hb with rfl|hb
   ·simpa using ha
   ·exact ih h b hb
def ixI (p:α→Bool) (l:List α):Int:=match ixP p l with
 | some k=>k
 | none=>-1
theorem QBV {l:List α}:0≤ixI p l↔∃ a∈l,p a=true:=by
 unfold ixI
 cases h:ixP p l with
 | some k =>
  obtain ⟨h1,h2,_⟩:=QnQ h
  exact ⟨fun _=>⟨_,List.getElem_mem h1,h2⟩,fun _=>Int.natCast_nonneg k⟩
 | none=>exact ⟨fun h'=>by simp at h',fun ⟨a,ha,hp⟩=>by rw [QsQ h a ha] at hp; cases hp⟩
theorem QyH {l:List α}:-1≤ixI p l∧ixI p l<l.length:=by
 unfold ixI
 cases h:ixP p l with
 | some k=>have:=(QnQ h).1; simp only; omega
 | none=>simp only; omega
theorem Qm3 {l:List α}:geI (ixI p l) 0=l.any p:=by
 rw [Bool.eq_iff_iff,geI_t,QBV,List.any_eq_true]
end
section
variable {E : Type} {B : Int → Option (Int ⊕ E)}
theorem QxZ {n:Nat} (hn:n≤1048576) (p:Nat→Bool) (Y:Nat→E) {N:E}
  (hin:∀ i:Nat,i<n→B (i:Int)=some (if p i=true then .inr (Y i) else .inl ((i:Int)+1))) (hend:B (n:Int)=some (.inr N)) :
  (∃ k,k<n∧p k=true∧(∀ j,j<k→p j=false)∧loopF B 0=some (Y k))∨((∀ j,j<n→p j=false)∧loopF B 0=some N):=by
 have main:post (loopF B 0) fun e=>(∃ k,k<n∧p k=true∧(∀ j,j<k→p j=false)∧e=Y k)∨((∀ j,j<n→p j=false)∧e=N):=by
  refine QcM (fun i=>∃ k:Nat,i=(k:Int)∧k≤n∧∀ j,j<k→p j=false) (fun i=>n-i.toNat) ⟨0,rfl,Nat.zero_le _,fun j hj=>by omega⟩ (by simp; omega) ?_
  rintro _ ⟨k,rfl,hk,hf⟩
  rcases Nat.lt_or_ge k n with h|h
  ·rw [hin k h]
   split
   ·rename_i hp
    exact Qb2 (.inl ⟨k,h,hp,hf,rfl⟩)
   ·rename_i hp
    refine QdI ⟨⟨k+1,by simp,by omega,fun j hj=>?_⟩,by simp; omega⟩
    rcases Nat.lt_or_eq_of_le (Nat.le_of_lt_succ hj) with hj|rfl
    ·exact hf j hj
    ·simpa using hp
  ·obtain rfl:k=n:=by omega
   rw [hend]
   exact Qb2 (.inr ⟨hf,rfl⟩)
 obtain ⟨e,he,h⟩:=main
 rcases h with ⟨k,h1,h2,h3,rfl⟩|⟨h1,rfl⟩
 ·exact .inl ⟨k,h1,h2,h3,he⟩
 ·exact .inr ⟨h1,he⟩
theorem QtT {n:Nat} (hn:n≤1048576) (p:Nat→Bool) {y N:E} {b:Bool} (hb:b=true↔∃ k,k<n∧p k=true)
  (hin:∀ i:Nat,i<n→B (i:Int)=some (if p i=true then .inr y else .inl ((i:Int)+1))) (hend:B (n:Int)=some (.inr N)) :
  loopF B 0=some (if b=true then y else N):=by
 rcases QxZ hn p (fun _=>y) hin hend with ⟨k,h1,h2,_,h4⟩|⟨h1,h4⟩
 ·rw [h4,if_pos (hb.2 ⟨k,h1,h2⟩)]
 ·rw [h4,if_neg fun h=>by obtain ⟨k,h5,h6⟩:=hb.1 h; rw [h1 k h5] at h6; cases h6]
theorem Qij {α:Type} {l:List α} (hl:l.length≤1048576) (p:α→Bool) {y N:E}
  (hin:∀ (i:Nat) a,l[i]?=some a→B (i:Int)=some (if p a=true then .inr y else .inl ((i:Int)+1))) (hend:B (l.length:Int)=some (.inr N)) :
  loopF B 0=some (if l.any p=true then y else N):=by
 refine QtT hl (fun i=>match l[i]? with|some a=>p a|none=>false) ?_ (fun i hi=>?_) hend
 ·rw [List.any_eq_true]
  constructor
  ·rintro ⟨a,ha,hp⟩
   obtain ⟨k,hk,rfl⟩:=List.getElem_of_mem ha
   exact ⟨k,hk,by rw [List.getElem?_eq_getElem hk]; exact hp⟩
  ·rintro ⟨k,hk,hp⟩
   rw [List.getElem?_eq_getElem hk] at hp
   exact ⟨_,List.getElem_mem hk,hp⟩
 ·rw [List.getElem?_eq_getElem hi]
  exact hin i _ (List.getElem?_eq_getElem hi)
theorem Qpe {α:Type} {l:List α} (hl:l.length≤1048576) (p:α→Bool) (Y:Nat→E) {N:E}
  (hin:∀ (i:Nat) a,l[i]?=some a→B (i:Int)=some (if p a=true then .inr (Y i) else .inl ((i:Int)+1))) (hend:B (l.length:Int)=some (.inr N)) :
  loopF B 0=some (match ixP p l with|some k=>Y k|none=>N):=by
 have h:=QxZ (B:=B) hl (fun i=>match l[i]? with|some a=>p a|none=>false) Y (N:=N) (fun i hi=>by
  rw [List.getElem?_eq_getElem hi]; exact hin i _ (List.getElem?_eq_getElem hi)) hend
 have at_:∀ j (hj:j<l.length),(match l[j]? with|some a=>p a|none=>false)=p l[j]:=fun j hj=>by rw [List.getElem?_eq_getElem hj]
 rcases h with ⟨k,h1,h2,h3,h4⟩|⟨h1,h4⟩
 ·cases hx:ixP p l with
  | none=>rw [at_ k h1,QsQ hx _ (List.getElem_mem h1)] at h2; cases h2
  | some m =>
   obtain ⟨g1,g2,g3⟩:=QnQ hx
   rcases Nat.lt_trichotomy k m with h|h|h
   ·rw [at_ k h1,g3 k h] at h2; cases h2
   ·rw [h4,h]
   ·have:=h3 m h; simp only [at_ m g1] at this; rw [g2] at this; cases this
 ·cases hx:ixP p l with
  | none=>rw [h4]
  | some m =>
   obtain ⟨g1,g2,g3⟩:=QnQ hx
   have:=h1 m g1; simp only [at_ m g1] at this; rw [g2] at this; cases this
end
theorem wrapN {m:Nat} (h:m<9223372036854775808):IntKind.i64.wrap (m:Int)=m:=IntWalk.i64_in _ ⟨by omega,by omega⟩
theorem cvuN {m:Nat} (h:m<9223372036854775808):cvK .u64 (m:Int)=m:=by
 unfold cvK
 simp only [IntKind.wrap,IntKind.bits,IntKind.signed]
 simp
 omega
theorem shrN {m i:Nat} (hi:i≤64):shrK .i64 (m:Int) (i:Int)=((m / 2 ^ i:Nat):Int):=by
 unfold shrK
 rw [show min (i:Int).toNat IntKind.i64.bits=i by simp [IntKind.bits]; omega,show (2:Int) ^ i=((2 ^ i:Nat):Int) by simp,Int.fdiv_eq_ediv_of_nonneg _ (Int.natCast_nonneg _)]
 rfl
theorem shlN {i:Nat} (hi:i≤62):shlK .i64 1 (i:Int)=((2 ^ i:Nat):Int):=by
 have h2:2 ^ i≤2 ^ 62:=Nat.pow_le_pow_right (by omega) hi
 unfold shlK
 rw [show min (i:Int).toNat IntKind.i64.bits=i by simp [IntKind.bits]; omega,Int.one_mul,show (2:Int) ^ i=((2 ^ i:Nat):Int) by simp]
 exact wrapN (by omega)
theorem orN {a b:Nat} (ha:a<9223372036854775808) (hb:b<9223372036854775808):orK .i64 (a:Int) (b:Int)=((a ||| b:Nat):Int):=by
 unfold orK
 have h:=Nat.or_lt_two_pow (n:=63) ha hb
 have e:(BitVec.ofInt IntKind.i64.bits (a:Int) ||| BitVec.ofInt IntKind.i64.bits (b:Int)).toNat=a ||| b:=by
  rw [BitVec.toNat_or]
  show (BitVec.ofInt 64 (a:Int)).toNat ||| (BitVec.ofInt 64 (b:Int)).toNat=_
  rw [BitVec.ofInt_natCast,BitVec.ofInt_natCast,BitVec.toNat_ofNat,BitVec.toNat_ofNat,Nat.mod_eq_of_lt (by omega),Nat.mod_eq_of_lt (by omega)]
 rw [e]
 exact wrapN (by omega)
theorem andN {a b:Nat} (ha:a<9223372036854775808) (hb:b<9223372036854775808):andK .i64 (a:Int) (b:Int)=((a &&& b:Nat):Int):=by
 unfold andK
 have h:=Nat.and_le_left (n:=a) (m:=b)
 have e:(BitVec.ofInt IntKind.i64.bits (a:Int) &&& BitVec.ofInt IntKind.i64.bits (b:Int)).toNat=a &&& b:=by
  rw [BitVec.toNat_and]
  show (BitVec.ofInt 64 (a:Int)).toNat &&& (BitVec.ofInt 64 (b:Int)).toNat=_
  rw [BitVec.ofInt_natCast,BitVec.ofInt_natCast,BitVec.toNat_ofNat,BitVec.toNat_ofNat,Nat.mod_eq_of_lt (by omega),Nat.mod_eq_of_lt (by omega)]
 rw [e]
 exact wrapN (by omega)
theorem Qzg {a b:Nat} (ha:a<9223372036854775808) (hb:b<9223372036854775808):QqA .i64 (a:Int) (b:Int)=0↔∀ i,a.testBit i=true→b.testBit i=true:=by
 show IntKind.i64.wrap (((BitVec.ofInt 64 (a:Int) &&& ~~~BitVec.ofInt 64 (b:Int)).toNat:Nat):Int)=0↔_
 rw [BitVec.ofInt_natCast,BitVec.ofInt_natCast]
 have hle:(BitVec.ofNat 64 a &&& ~~~BitVec.ofNat 64 b).toNat<9223372036854775808:=by
  rw [BitVec.toNat_and,BitVec.toNat_ofNat,Nat.mod_eq_of_lt (by omega)]
  exact Nat.lt_of_le_of_lt Nat.and_le_left ha
 rw [wrapN hle]
 have bit:∀ i,(BitVec.ofNat 64 a &&& ~~~BitVec.ofNat 64 b).toNat.testBit i=(a.testBit i&&!b.testBit i):=fun i=>by
  rw [BitVec.testBit_toNat,BitVec.getLsbD_and,BitVec.getLsbD_not,BitVec.getLsbD_ofNat,BitVec.getLsbD_ofNat]
  rcases Nat.lt_or_ge i 64 with h|h
  ·simp [h]
  ·have:a.testBit i=false:=Nat.testBit_lt_two_pow (Nat.lt_of_lt_of_le ha (Nat.le_trans (by decide) (Nat.pow_le_pow_right (n:=2) (by omega) h)))
   simp [this]
 constructor
 ·intro h i hi
  have:=bit i
  rw [show (BitVec.ofNat 64 a &&& ~~~BitVec.ofNat 64 b).toNat=0 by omega,Nat.zero_testBit,hi] at this
  simpa using this.symm
 ·intro h
  have:(BitVec.ofNat 64 a &&& ~~~BitVec.ofNat 64 b).toNat=0:=Nat.eq_of_testBit_eq fun i=>by
   rw [bit,Nat.zero_testBit]
   cases hi:a.testBit i with
   | false=>rfl
   | true=>rw [h i hi]; rfl
  omega
theorem QuX {m i:Nat}:eqI (remK (((m / 2 ^ i:Nat):Int)) 2) 1=m.testBit i:=by
 rw [Bool.eq_iff_iff,eqI_t,Nat.testBit_eq_decide_div_mod_eq,decide_eq_true_iff]
 unfold remK
 generalize m / 2 ^ i=q
 rw [Int.tmod_eq_emod_of_nonneg (by omega)]
 omega
theorem QA3 {m i:Nat} (h:m.testBit i=false) (j:Nat):(m+2 ^ i).testBit j=(m.testBit j||decide (i=j)):=by
 rw [Nat.add_comm]
 rcases Nat.lt_trichotomy j i with hj|rfl|hj
 ·rw [Nat.testBit_two_pow_add_gt hj,decide_eq_false (by omega),Bool.or_false]
 ·rw [Nat.testBit_two_pow_add_eq,h]; simp
 ·rw [decide_eq_false (by omega),Bool.or_false]
  have h0:m / 2 ^ i % 2=0:=by
   rw [Nat.testBit_eq_decide_div_mod_eq,decide_eq_false_iff_not] at h
   omega
  have e1:(2 ^ i+m) / 2 ^ (i+1)=m / 2 ^ (i+1):=by
   rw [Nat.pow_succ,← Nat.div_div_eq_div_mul,← Nat.div_div_eq_div_mul,Nat.add_div_left _ (Nat.two_pow_pos i)]
   omega
  rw [Nat.testBit_eq_decide_div_mod_eq,Nat.testBit_eq_decide_div_mod_eq]
  have hp:2 ^ j=2 ^ (i+1)*2 ^ (j-(i+1)):=by rw [← Nat.pow_add]; congr 1; omega
  rw [hp,← Nat.div_div_eq_div_mul,← Nat.div_div_eq_div_mul,e1]
theorem QBQ {t:Qaj} {skills:Int} (ht:0≤t.skills∧t.skills≤1073741823) (hs:0≤skills∧skills≤1073741823):∃ b,QkW t skills=some b∧Qi0 t skills=some b:=by
 obtain ⟨a,ha⟩:∃ a:Nat,skills=a:=⟨skills.toNat,by omega⟩
 obtain ⟨c,hc⟩:∃ c:Nat,t.skills=c:=⟨t.skills.toNat,by omega⟩
 subst ha
 refine ⟨eqI (QqA .i64 (a:Int) (c:Int)) 0,?_,?_⟩
 ·unfold QkW
  rw [hc]
  rw [show geI (c:Int) 0=true by simp,show geI (a:Int) 0=true by simp]
  rfl
 ·unfold Qi0
  rw [QaY (by simp; omega)]
  have key:loopF (fun s=>QfG t (a:Int) s) 1=some (if (eqI (QqA .i64 (a:Int) (c:Int)) 0)=true then .inl () else .inr false):=by
   have bigpow:∀ k:Nat,k≤62→(0:Int)<((2 ^ k:Nat):Int)∧((2 ^ k:Nat):Int)≤4611686018427387904:=fun k hk=>by
    have h1:=Nat.two_pow_pos k
    have h2:2 ^ k≤2 ^ 62:=Nat.pow_le_pow_right (by omega) hk
    omega
   have main:post (loopF (fun s=>QfG t (a:Int) s) 1) fun e=>e=if (eqI (QqA .i64 (a:Int) (c:Int)) 0)=true then .inl () else .inr false:=by
    refine QcM (fun s=>∃ k:Nat,k≤63∧s=(if k=63 then -9223372036854775808 else ((2 ^ k:Nat):Int))∧∀ i,i<k→a.testBit i=true→c.testBit i=true) (fun s=>if s<0 then 0 else 9223372036854775808-s.toNat) ⟨0,by omega,rfl,fun i hi=>by omega⟩ (by decide) ?_
    rintro _ ⟨k,hk,rfl,hb⟩
    show post (QfG t (a:Int) _) _
    unfold QfG
    rcases Nat.lt_or_ge k 63 with hk'|hk'
    ·rw [if_neg (by omega)]
     obtain ⟨p1,p2⟩:=bigpow k (by omega)
     rw [Qbc (by simp only [gtI_t]; exact p1),Qf7 (by omega),hc]
     have hq:∀ z:Nat,z<9223372036854775808→quoK .i64 (z:Int) ((2 ^ k:Nat):Int)=((z / 2 ^ k:Nat):Int):=fun z hz=>by
      have e:(z:Int).tdiv ((2 ^ k:Nat):Int)=((z / 2 ^ k:Nat):Int):=by rw [Int.tdiv_eq_ediv_of_nonneg (by omega)]; rfl
      have h1:=Nat.div_le_self z (2 ^ k)
      rw [quoI,e] <;> (rw [e]; generalize z / 2 ^ k=q at h1; omega)
     rw [hq a (by omega),hq c (by omega),QuX]
     have go:∀ h:(a.testBit k=true→c.testBit k=true),post (some (Sum.inl (mulK .i64 ((2 ^ k:Nat):Int) 2):Int⊕(Unit⊕Bool))) fun x=>(∀ s',x=.inl s'→(∃ k':Nat,k'≤63∧s'=(if k'=63 then -9223372036854775808 else ((2 ^ k':Nat):Int))∧∀ i,i<k'→a.testBit i=true→c.testBit i=true)∧(if s'<0 then 0 else 9223372036854775808-s'.toNat)<(if ((2 ^ k:Nat):Int)<0 then 0 else 9223372036854775808-((2 ^ k:Nat):Int).toNat))∧∀ e,x=.inr e→e=if (eqI (QqA .i64 (a:Int) (c:Int)) 0)=true then .inl () else .inr false:=by
      intro h
      have hm:mulK .i64 ((2 ^ k:Nat):Int) 2=if k+1=63 then -9223372036854775808 else ((2 ^ (k+1):Nat):Int):=by
       split
       ·rename_i h62
        obtain rfl:k=62:=by omega
        decide
       ·obtain ⟨q1,q2⟩:=bigpow (k+1) (by omega)
        have e:((2 ^ k:Nat):Int)*2=((2 ^ (k+1):Nat):Int):=by rw [Nat.pow_succ]; simp
        rw [mulI (by omega) (by omega),e]
      refine QdI ⟨⟨k+1,by omega,hm,fun i hi=>?_⟩,?_⟩
      ·rcases Nat.lt_or_eq_of_le (Nat.le_of_lt_succ hi) with hi|rfl
       ·exact hb i hi
       ·exact h
      ·rw [hm,if_neg (show ¬ ((2 ^ k:Nat):Int)<0 by omega)]
       split
       ·rw [if_pos (by omega)]; omega
       ·obtain ⟨q1,q2⟩:=bigpow (k+1) (by omega)
        have e:2 ^ (k+1)=2 ^ k*2:=Nat.pow_succ ..
        rw [if_neg (by omega)]
        omega
     refine QaI (fun h1=>QbB (by omega) (QaI (fun h2=>Qb2 ?_) (fun h2=>go fun _=>?_))) (fun h1=>go fun h=>by rw [h1] at h; cases h)
     ·rw [if_neg]
      intro h
      have h3:=(Qzg (by omega) (by omega)).1 (eqI_t.1 h) k h1
      rw [← QuX,eqI_t] at h3
      rw [eqI_t] at h2
      omega
     ·rw [eqI_f] at h2
      rw [← QuX,eqI_t]
      unfold remK at h2 ⊢
      generalize c / 2 ^ k=q at h2 ⊢
      rw [Int.tmod_eq_emod_of_nonneg (by omega)] at h2 ⊢
      omega
    ·obtain rfl:k=63:=by omega
     rw [if_pos rfl,QaY (by decide)]
     refine Qb2 ?_
     rw [if_pos]
     rw [eqI_t]
     refine (Qzg (by omega) (by omega)).2 fun i hi=>?_
     rcases Nat.lt_or_ge i 63 with h|h
     ·exact hb i h hi
     ·rw [Nat.testBit_lt_two_pow (Nat.lt_of_lt_of_le (show a<2 ^ 63 by omega) (Nat.pow_le_pow_right (n:=2) (by omega) h))] at hi; cases hi
   exact main.eq
  rw [key,Qah]
  split <;> simp_all
end Go.Proofs.YtpkkaboonnedfaaGreatDoor
namespace Go.Proofs.YtpkkaboonnedfaaGreatDoor
set_option linter.unusedSimpArgs false
set_option linter.unusedVariables false
set_option linter.unusedSectionVars false
theorem brs {α:Type} {b:Bool} {x y:α}:br b (some x) (some y)=some (if b=true then x else y):=by cases b <;> rfl
theorem Qb1 {α β:Type} {l:List α} {i:Nat} {a:α} (h:l[i]?=some a) (f:α→Option β) (z:Option β):br (ltI (i:Int) (lenI l)) (bnd (getI l i) f) z=f a:=by
 have:=(List.getElem?_eq_some_iff.1 h).1
 rw [Qbc (by simp [lenI]; omega),QaU h,Qah]
theorem Qbu {α β:Type} {l:List α} {y z:Option β}:br (ltI (l.length:Int) (lenI l)) y z=z:=QaY (by simp [lenI])
theorem incL {α:Type} {l:List α} {i:Nat} {a:α} (h:l[i]?=some a) (hl:l.length≤1048576):addK .i64 (i:Int) 1=(i:Int)+1:=inc (List.getElem?_eq_some_iff.1 h).1 hl
def inO (x:Qac) (v:Qab):Bool:=decide (0≤v.order∧v.order<x.orders.length)
def offV (x:Qac) (v:Qab):Bool:=match x.orders[v.order.toNat]? with
 | some o=>o.off
 | none=>false
def isO (o:Int) (v:Qab):Bool:=eqI v.order o
def hasO (l:List Qab) (o:Int):Bool:=l.any (isO o)
def isV (v a:Qab):Bool:=eqI v.order a.order&&(eqB v.drop a.drop&&true)
def visO (x:Qac) (o:Int):List Qab:=match x.orders[o.toNat]? with
 | some q=>(if 0≤q.pick.place then [Qab.mk o false] else [])++(if 0≤q.drop.place then [Qab.mk o true] else [])
 | none=>[]
def rowB (l:List Qab):List Qab→Bool
 | []=>true
 | [a]=>geI (ixI (isV a) l) 0
 | a :: b :: _=>geI (ixI (isV a) l) 0&&ltI (ixI (isV a) l) (ixI (isV b) l)
def pairV (x:Qac) (l:List Qab) (v:Qab):Bool:=(visO x v.order).any (isV v)&&rowB l (visO x v.order)
def Qri (l:List Qab) (p:QaW):Bool:=hasO l p.x0&&hasO l p.x1
def lateB (l:List Qab) (p:QaW):Bool:=match ixP (isO p.x1) l with
 | some k=>hasO (l.drop k) p.x0
 | none=>false
def badB (l:List Qab) (p:QaW):Bool:=hasO l p.x1&&(!hasO l p.x0||lateB l p)
instance (l:List Qab):Decidable l.Nodup:=inferInstanceAs (Decidable (List.Nodup l))
def seqS (x:Qac) (l:List Qab):Int :=
 if l.length=0 then 2 else if l.any (fun v=>!inO x v)=true then 2 else if l.any (offV x)=true then 9 else if ¬ l.Nodup then 6 else
 if l.any (fun v=>!pairV x l v)=true then 19 else if x.apart.any (Qri l)=true then 20 else if x.before.any (badB l)=true then 21 else 0
section
variable {x : Qac} {l : List Qab}
theorem isV_t {v a:Qab}:isV v a=true↔a=v:=by
 unfold isV
 cases v; cases a
 simp
 exact ⟨fun ⟨h1,h2⟩=>⟨h1.symm,h2.symm⟩,fun ⟨h1,h2⟩=>⟨h1.symm,h2.symm⟩⟩
theorem isO_t {o:Int} {v:Qab}:isO o v=true↔v.order=o:=by simp [isO]
theorem Qru {o:Int}:hasO l o=true↔∃ v∈l,v.order=o:=by simp [hasO,List.any_eq_true,isO]
theorem any_V {v:Qab}:l.any (isV v)=true↔v∈l:=by
 rw [List.any_eq_true]
 exact ⟨fun ⟨a,h,h'⟩=>isV_t.1 h' ▸ h,fun h=>⟨v,h,isV_t.2 rfl⟩⟩
theorem Qxg {v:Qab}:0≤ixI (isV v) l↔v∈l:=by rw [← geI_t,Qm3,any_V]
theorem Qtz {v:Qab} {k:Nat} (h:ixI (isV v) l=k):l[k]?=some v∧∀ j,j<k→l[j]?≠some v:=by
 unfold ixI at h
 cases hx:ixP (isV v) l with
 | none=>rw [hx] at h; simp only at h; omega
 | some m =>
  rw [hx] at h
  simp only at h
  obtain rfl:m=k:=by omega
  obtain ⟨h1,h2,h3⟩:=QnQ hx
  refine ⟨by rw [List.getElem?_eq_getElem h1,isV_t.1 h2],fun j hj he=>?_⟩
  have:=h3 j hj
  rw [List.getElem?_eq_getElem (show j<l.length by omega)] at he
  rw [isV_t.2 (Option.some.inj he)] at this
  cases this
theorem Qs2 (hl:l.length≤1048576) (v:Qab):Qf4 l v=some (ixI (isV v) l):=by
 have:=Qpe hl (isV v) (fun k=>(.inr (k:Int):Unit⊕Int)) (N:=.inl ()) (B:=fun s=>QaL l v s) (fun i a h=>by
  show QaL l v i=_
  unfold QaL
  rw [Qb1 h,incL h hl,brs]; rfl) (by
  show QaL l v l.length=_
  unfold QaL
  rw [Qbu])
 unfold Qf4 Qbo
 rw [Qc9 this]
 unfold ixI
 cases ixP (isV v) l <;> rfl
theorem QAe (hl:l.length≤1048576) (v:Qab):Qbo l v=some (ixI (isV v) l):=by
 have:=Qs2 hl v
 unfold Qf4 at this
 obtain ⟨a,h,h'⟩:=Qae this
 rw [h,h']
theorem QvS (hl:l.length≤1048576) (v:Qab):Qbv l v=some (l.any (isV v)):=by
 unfold Qbv
 rw [QAe hl,Qah,Qm3]
theorem QnI (hl:l.length≤1048576) (v:Qab):QcZ l v=some (ixI (isV v) l):=by
 have:=Qpe hl (isV v) (fun k=>(.inr (k:Int):Unit⊕Int)) (N:=.inl ()) (B:=fun s=>Qd5 l v s) (fun i a h=>by
  show Qd5 l v i=_
  unfold Qd5
  rw [Qb1 h,incL h hl,brs]
  rw [show (eqI a.order v.order&&(eqB a.drop v.drop&&true))=isV v a by
   rw [Bool.eq_iff_iff,isV_t]; cases v; cases a; simp]) (by
  show Qd5 l v l.length=_
  unfold Qd5
  rw [Qbu])
 unfold QcZ
 rw [Qc9 this]
 unfold ixI
 cases ixP (isV v) l <;> rfl
theorem QsX:¬ l.Nodup↔∃ k,k<l.length∧∃ j,j<k∧l[j]?=l[k]?:=by
 unfold List.Nodup
 rw [List.pairwise_iff_getElem]
 constructor
 ·intro h
  refine Classical.byContradiction fun hn=>h fun i j hi hj hij he=>hn ⟨j,hj,i,hij,?_⟩
  rw [List.getElem?_eq_getElem hi,List.getElem?_eq_getElem hj,he]
 ·rintro ⟨k,hk,j,hj,he⟩ h
  rw [List.getElem?_eq_getElem hk,List.getElem?_eq_getElem (show j<l.length by omega)] at he
  exact h j k (by omega) hk hj (Option.some.inj he)
theorem QpB {v:Qab} {k:Nat} (hk:k≤l.length):v∈l.take k↔∃ j,j<k∧l[j]?=some v:=by
 rw [List.mem_iff_getElem?]
 constructor
 ·rintro ⟨j,h⟩
  rw [List.getElem?_take] at h
  split at h
  ·exact ⟨j,‹_›,h⟩
  ·cases h
 ·rintro ⟨j,hj,h⟩
  exact ⟨j,by rw [List.getElem?_take,if_pos hj,h]⟩
theorem QAQ (hl:l.length≤1048576):Qin l=some (decide (¬ l.Nodup)):=by
 have:=QtT (B:=fun s=>QcO l s) hl (fun k=>match l[k]? with|some v=>(l.take k).any (isV v)|none=>false) (y:=(.inr true:Unit⊕Bool)) (N:=.inl ()) (b:=decide (¬ l.Nodup)) (by
  rw [decide_eq_true_iff,QsX]
  constructor
  ·rintro ⟨k,hk,j,hj,he⟩
   refine ⟨k,hk,?_⟩
   rw [List.getElem?_eq_getElem hk] at he ⊢
   exact any_V.2 ((QpB (by omega)).2 ⟨j,hj,he⟩)
  ·rintro ⟨k,hk,h⟩
   rw [List.getElem?_eq_getElem hk] at h
   obtain ⟨j,hj,he⟩:=(QpB (by omega)).1 (any_V.1 h)
   exact ⟨k,hk,j,hj,by rw [he,List.getElem?_eq_getElem hk]⟩) (fun i hi=>by
  have h:l[i]?=some l[i]:=List.getElem?_eq_getElem hi
  show QcO l i=_
  unfold QcO
  rw [Qb1 h,show slcI l 0 (i:Int)=some (l.take i) by unfold slcI; rw [if_pos (by omega)]; simp,Qah,Qs2 (by rw [List.length_take]; omega),Qah,incL h hl,Qm3,brs]
  rw [h]) (by
  show QcO l l.length=_
  unfold QcO
  rw [Qbu])
 unfold Qin
 rw [Qc9 this]
 split <;> simp_all
theorem Qow {o:Int}:(visO x o).length≤2:=by
 unfold visO
 split
 ·split <;> split <;> simp
 ·simp
theorem QuP (hx:QbQ x) {o:Int} (h0:0≤o) (h1:o<x.orders.length):QiS x.orders o=some (visO x o):=by
 have e:x.orders[o.toNat]?=some (x.orders[o.toNat]'(by omega)):=List.getElem?_eq_getElem _
 generalize x.orders[o.toNat]'(by omega)=q at e
 have hg:getI x.orders o=some q:=by unfold getI; rw [if_pos h0,e]
 unfold QiS QkM
 rw [Qah,Qbc (by simp [lenI]; omega),hg,Qah]
 unfold visO
 rw [e]
 have hJ:∀ l1:List Qab,l1.length≤1→Qgg x.orders o l1=some (l1++if 0≤q.drop.place then [Qab.mk o true] else []):=fun l1 hl=>by
  unfold Qgg
  rw [hg,Qah,Qf7 (by unfold okN; simp; omega),br_if]
  simp only [geI_t]
  split <;> simp
 rw [hJ _ (by simp),hJ _ (by simp),Qf7 (by unfold okN; simp),brs]
 simp only [geI_t]
 split <;> rfl
theorem QvP (hx:QbQ x) {o:Int} (h0:0≤o) (h1:o<x.orders.length):QjZ x o=some (visO x o):=by
 have e:x.orders[o.toNat]?=some (x.orders[o.toNat]'(by omega)):=List.getElem?_eq_getElem _
 generalize x.orders[o.toNat]'(by omega)=q at e
 have hq:=hx.ord q (List.mem_of_getElem? e)
 have hg:getI x.orders o=some q:=by unfold getI; rw [if_pos h0,e]
 have hp:neI q.pick.place (-1)=decide (0≤q.pick.place):=by
  have:=hq.pick
  rw [Bool.eq_iff_iff,neI_t,decide_eq_true_iff]
  unfold Qws at this
  omega
 have hd:neI q.drop.place (-1)=decide (0≤q.drop.place):=by
  have:=hq.drop
  rw [Bool.eq_iff_iff,neI_t,decide_eq_true_iff]
  unfold Qws at this
  omega
 unfold QjZ
 rw [hg,Qah]
 unfold visO
 rw [e]
 have hJ:∀ l1:List Qab,l1.length≤1→Qf1 x o l1=some (l1++if 0≤q.drop.place then [Qab.mk o true] else []):=fun l1 hl=>by
  unfold Qf1
  rw [hg,Qah,Qf7 (by unfold okN; simp; omega),hd,br_if]
  simp only [decide_eq_true_iff]
  split <;> simp
 rw [hJ _ (by simp),hJ _ (by simp),Qf7 (by unfold okN; simp),hp,brs]
 simp only [decide_eq_true_iff]
 split <;> rfl
theorem QuM {o:Int} {a b:Qab} {r:List Qab} (h:visO x o=a :: b :: r):r=[]∧a≠b:=by
 have h2:=Qow (x:=x) (o:=o)
 rw [h] at h2
 have hr:r=[]:=by cases r with
  | nil=>rfl
  | cons c r=>simp at h2
 refine ⟨hr,?_⟩
 subst hr
 unfold visO at h
 split at h
 ·split at h <;> split at h <;> simp at h
  obtain ⟨rfl,rfl⟩:=h
  simp
 ·cases h
theorem Qy3 (hl:l.length≤1048576) {r:List Qab} (hr:r.length≤2) (v:Int):loopF (fun s=>Qbh x l v r s.1 s.2) ((-1),0)=some (if rowB l r=true then .inl () else .inr false):=by
 have out:∀ (p:Int),Qbh x l v r p r.length=some (.inr (.inl ())):=fun p=>by
  unfold Qbh
  rw [Qbu]
 have go:∀ (k:Nat) (a:Qab) (p:Int),r[k]?=some a→Qbh x l v r p k=some (if leI (ixI (isV a) l) p=true then .inr (.inr false) else .inl (ixI (isV a) l,(k:Int)+1)):=fun k a p h=>by
  unfold Qbh
  rw [Qb1 h,Qs2 hl,Qah,incL h (by omega),brs]
 match r,hr with
 | [],_=>exact Qqg 1 (by decide) (by simp only [iterF]; rw [show Qbh x l v [] (-1) 0=_ from out (-1)]; rfl)
 | [a],_ =>
  refine Qqg 2 (by decide) ?_
  have g:=go 0 a (-1) rfl
  simp only [iterF]
  rw [show Qbh x l v [a] (-1) 0=_ from g]
  have hb:=QyH (p:=isV a) (l:=l)
  by_cases h:leI (ixI (isV a) l) (-1)=true
  ·rw [if_pos h,if_neg]
   simp only [rowB,geI_t]
   simp only [leI_t] at h
   omega
  ·rw [if_neg h,if_pos]
   ·simp only
    rw [show Qbh x l v [a] (ixI (isV a) l) ((0:Nat)+1:Int)=_ from out _]
   ·simp only [rowB,geI_t]
    simp only [leI_t] at h
    omega
 | [a,b],_ =>
  refine Qqg 3 (by decide) ?_
  have g:=go 0 a (-1) rfl
  have g1:=go 1 b (ixI (isV a) l) rfl
  simp only [iterF]
  rw [show Qbh x l v [a,b] (-1) 0=_ from g]
  have hb:=QyH (p:=isV a) (l:=l)
  by_cases h:leI (ixI (isV a) l) (-1)=true
  ·rw [if_pos h,if_neg]
   simp only [rowB,geI_t,Bool.and_eq_true]
   simp only [leI_t] at h
   omega
  ·rw [if_neg h]
   simp only
   rw [show Qbh x l v [a,b] (ixI (isV a) l) ((0:Nat)+1:Int)=_ from g1]
   simp only [leI_t] at h
   by_cases h':leI (ixI (isV b) l) (ixI (isV a) l)=true
   ·rw [if_pos h',if_neg]
    simp only [rowB,geI_t,ltI_t,Bool.and_eq_true]
    simp only [leI_t] at h'
    omega
   ·rw [if_neg h',if_pos]
    ·simp only
     rw [show Qbh x l v [a,b] (ixI (isV b) l) ((1:Nat)+1:Int)=_ from out _]
    ·simp only [rowB,geI_t,ltI_t,Bool.and_eq_true]
     simp only [leI_t] at h'
     omega
theorem QmL (h:l.any (fun v=>!inO x v)=false) {v:Qab} (hv:v∈l):0≤v.order∧v.order<x.orders.length:=by
 have:=List.any_eq_false.1 h v hv
 simpa [inO] using this
theorem QyX (hx:QbQ x) (hl:l.length≤1048576) (ho:l.any (fun v=>!inO x v)=false):Qhl x l=some (!l.any (fun v=>!pairV x l v)):=by
 have:=Qij (B:=fun s=>Qcw x l s) hl (fun v=>!pairV x l v) (y:=(.inr false:Unit⊕Bool)) (N:=.inl ()) (fun i a h=>by
  obtain ⟨h0,h1⟩:=QmL ho (List.mem_of_getElem? h)
  show Qcw x l i=_
  unfold Qcw
  have hv:=Qow (x:=x) (o:=a.order)
  rw [Qb1 h,QuP hx h0 h1,Qah,QvS (by omega),Qah,Qy3 hl hv,Qah,incL h hl]
  unfold pairV
  cases (visO x a.order).any (isV a) <;> cases rowB l (visO x a.order) <;> rfl) (by
  show Qcw x l l.length=_
  unfold Qcw
  rw [Qbu])
 unfold Qhl
 rw [Qc9 this]
 cases l.any (fun v=>!pairV x l v) <;> rfl
theorem Qtl (hl:l.length≤1048576) {r:List Qab} (hr:r.length≤2):Qif l r=some (!r.any (fun a=>ltI (ixI (isV a) l) 0)):=by
 have:=Qij (B:=fun s=>QcS l r s) (l:=r) (by omega) (fun a=>ltI (ixI (isV a) l) 0) (y:=(.inr false:Unit⊕Bool)) (N:=.inl ()) (fun i a h=>by
  show QcS l r i=_
  unfold QcS
  rw [Qb1 h,QnI hl,Qah,incL h (by omega),brs]) (by
  show QcS l r r.length=_
  unfold QcS
  rw [Qbu])
 unfold Qif
 rw [Qc9 this]
 cases r.any (fun a=>ltI (ixI (isV a) l) 0) <;> rfl
theorem QzB {a b:Int}:ltI a b=!geI a b:=by rw [Bool.eq_iff_iff]; simp
theorem Qv4 (hx:QbQ x) (hl:l.length≤1048576) (ho:l.any (fun v=>!inO x v)=false):Qj1 x l=some (!l.any (fun v=>!pairV x l v)):=by
 have:=Qij (B:=fun s=>Qdm x l s) hl (fun v=>!pairV x l v) (y:=(.inr false:Unit⊕Bool)) (N:=.inl ()) (fun i a h=>by
  obtain ⟨h0,h1⟩:=QmL ho (List.mem_of_getElem? h)
  show Qdm x l i=_
  unfold Qdm
  have hv:=Qow (x:=x) (o:=a.order)
  rw [Qb1 h,QvP hx h0 h1,Qah,QnI (by omega),Qah,Qtl hl hv,Qah,incL h hl]
  rw [QzB,Qm3]
  have hP:pairV x l a=((visO x a.order).any (isV a)&&rowB l (visO x a.order)):=rfl
  generalize pairV x l a=P at hP ⊢
  cases hany:(visO x a.order).any (isV a) with
  | false=>rw [hany] at hP; subst hP; rfl
  | true =>
   rw [hany,Bool.true_and] at hP
   rw [Bool.not_true,QhY]
   cases hvis:visO x a.order with
   | nil=>rw [hvis] at hP; subst hP; rfl
   | cons c r =>
    cases r with
    | nil =>
     rw [hvis] at hP
     rw [List.any_cons,List.any_nil,Bool.or_false,QzB,Bool.not_not,← show P=geI (ixI (isV c) l) 0 from hP]
     cases P <;> rfl
    | cons d r =>
     obtain ⟨rfl,hne⟩:=QuM hvis
     rw [hvis] at hP
     rw [List.any_cons,List.any_cons,List.any_nil,Bool.or_false]
     show br _ (br true (bnd (some c) fun x2=>bnd (QcZ l x2) fun r3=>bnd (some d) fun x3=>bnd (QcZ l x3) fun r4=>br (gtI r3 r4) _ _) _) _=_
     rw [Qir,Qah,QnI hl,Qah,Qah,QnI hl,Qah]
     simp only [rowB] at hP
     have hc:=QyH (p:=isV c) (l:=l)
     have hd:=QyH (p:=isV d) (l:=l)
     have hcd:0≤ixI (isV c) l→ixI (isV c) l≠ixI (isV d) l:=fun h0 he=>by
      obtain ⟨k,hk⟩:∃ k:Nat,ixI (isV c) l=k:=⟨(ixI (isV c) l).toNat,by omega⟩
      have e1:=(Qtz hk).1
      have e2:=(Qtz (he.symm.trans hk)).1
      rw [e1] at e2
      exact hne (Option.some.inj e2)
     generalize ixI (isV c) l=m at *
     generalize ixI (isV d) l=n at *
     cases P with
     | true =>
      have hP':=hP.symm
      simp only [Bool.and_eq_true,geI_t,ltI_t] at hP'
      rw [Qbc (by simp; omega),QaY (by simp; omega)]
      rfl
     | false =>
      have hP':=hP.symm
      simp only [Bool.and_eq_false_iff,geI_f,ltI_f] at hP'
      by_cases h1:0≤m∧0≤n
      ·have:=hcd h1.1
       rw [Qbc (by simp; omega),Qbc (by simp; omega)]
       rfl
      ·rw [QaY (by simp; omega)]
       rfl) (by
  show Qdm x l l.length=_
  unfold Qdm
  rw [Qbu])
 unfold Qj1
 rw [Qc9 this]
 cases l.any (fun v=>!pairV x l v) <;> rfl
end
end Go.Proofs.YtpkkaboonnedfaaGreatDoor
namespace Go.Proofs.YtpkkaboonnedfaaGreatDoor
set_option linter.unusedSimpArgs false
set_option linter.unusedVariables false
set_option linter.unusedSectionVars false
section
variable {x : Qac} {l : List Qab}
theorem Qz8 (hl:l.length≤1048576) (o:Int):Qa9 l o=some (ixI (isO o) l):=by
 have:=Qpe hl (isO o) (fun k=>(.inr (k:Int):Unit⊕Int)) (N:=.inl ()) (B:=fun s=>QaC l o s) (fun i a h=>by
  show QaC l o i=_
  unfold QaC QkD
  rw [Qb1 h,Qah,incL h hl,brs]; rfl) (by
  show QaC l o l.length=_
  unfold QaC
  rw [Qbu])
 unfold Qa9
 rw [Qc9 this]
 unfold ixI
 cases ixP (isO o) l <;> rfl
theorem QvY (hl:l.length≤1048576) (o:Int):Qa4 l o=some (ixI (isO o) l):=by
 have:=Qpe hl (isO o) (fun k=>(.inr (k:Int):Unit⊕Int)) (N:=.inl ()) (B:=fun s=>Qaz l o s) (fun i a h=>by
  show Qaz l o i=_
  unfold Qaz Qhp
  rw [Qb1 h,Qah,incL h hl,brs]; rfl) (by
  show Qaz l o l.length=_
  unfold Qaz
  rw [Qbu])
 unfold Qa4
 rw [Qc9 this]
 unfold ixI
 cases ixP (isO o) l <;> rfl
theorem QvC (hl:l.length≤1048576) (o:Int):QgS l o=some (hasO l o):=by
 unfold QgS Qbk
 rw [Qz8 hl,Qah,Qah,Qm3]
 rfl
theorem QvZ (hl:l.length≤1048576):Qa0 l x=some (l.any fun v=>!inO x v):=by
 have:=Qpe hl (fun v=>!inO x v) (fun k=>(.inr (k:Int):Unit⊕Int)) (N:=.inl ()) (B:=fun s=>QaA l x s) (fun i a h=>by
  show QaA l x i=_
  unfold QaA Qik
  rw [Qb1 h,Qah,incL h hl,brs]
  rw [show (ltI a.order 0||geI a.order (lenI x.orders))=!inO x a by
   unfold inO lenI; rw [Bool.eq_iff_iff]; simp]) (by
  show QaA l x l.length=_
  unfold QaA
  rw [Qbu])
 have e:Qa6 l x=some (ixI (fun v=>!inO x v) l):=by
  unfold Qa6
  rw [Qc9 this]
  unfold ixI
  cases ixP (fun v=>!inO x v) l <;> rfl
 unfold Qa0
 rw [e,Qah,Qm3]
theorem Qvp {v:Qab} (h0:0≤v.order) (h1:v.order<x.orders.length):∃ o,getI x.orders v.order=some o∧o∈x.orders∧offV x v=o.off∧x.orders[v.order.toNat]?=some o:=by
 have e:x.orders[v.order.toNat]?=some (x.orders[v.order.toNat]'(by omega)):=List.getElem?_eq_getElem _
 refine ⟨_,Qrs h0 h1,List.getElem_mem _,?_,e⟩
 unfold offV
 rw [e]
theorem Qv0 (hl:l.length≤1048576) (ho:l.any (fun v=>!inO x v)=false):Qa1 l x=some (l.any (offV x)):=by
 have:=Qpe hl (offV x) (fun k=>(.inr (k:Int):Unit⊕Int)) (N:=.inl ()) (B:=fun s=>QaB l x s) (fun i a h=>by
  obtain ⟨h0,h1⟩:=QmL ho (List.mem_of_getElem? h)
  obtain ⟨o,g1,g2,g3,_⟩:=Qvp h0 h1
  show QaB l x i=_
  unfold QaB Qil
  rw [Qb1 h,g1,Qah,Qah,incL h hl,brs,g3]) (by
  show QaB l x l.length=_
  unfold QaB
  rw [Qbu])
 have e:Qa7 l x=some (ixI (offV x) l):=by
  unfold Qa7
  rw [Qc9 this]
  unfold ixI
  cases ixP (offV x) l <;> rfl
 unfold Qa1
 rw [e,Qah,Qm3]
theorem QxY (hl:l.length≤1048576) (p:QaW):Qhk l p.x0 p.x1=some (!badB l p):=by
 unfold Qhk
 rw [QvY hl,Qah,QvC hl,Qah]
 unfold badB
 have hh:hasO l p.x1=geI (ixI (isO p.x1) l) 0:=Qm3.symm
 rw [hh]
 unfold lateB ixI
 cases h:ixP (isO p.x1) l with
 | none=>rfl
 | some k =>
  have hk:=(QnQ h).1
  simp only
  rw [QaY (by simp),show slcI l (k:Int) (lenI l)=some (l.drop k) by
   unfold slcI lenI; rw [if_pos (by omega)]; congr 1; rw [List.take_of_length_le]; · rfl
   ·simp]
  rw [Qah,QvC (by simp; omega),Qah,show geI (k:Int) 0=true by simp]
  cases hasO l p.x0 <;> cases hasO (l.drop k) p.x0 <;> rfl
theorem Qwl {r:Qad} (hx:QbQ x) (hl:r.visits.length≤1048576):Qg2 x r=some (seqS x r.visits):=by
 unfold Qg2 seqS
 by_cases h0:r.visits.length=0
 ·rw [Qbc (by simp [lenI,h0]),if_pos h0]
 rw [QaY (by simp only [lenI,eqI_f]; omega),if_neg h0,QvZ hl,Qah]
 by_cases h1:r.visits.any (fun v=>!inO x v)=true
 ·rw [Qbc h1,if_pos h1]
 have h1':r.visits.any (fun v=>!inO x v)=false:=by simpa using h1
 rw [QaY h1',if_neg h1,Qv0 hl h1',Qah]
 by_cases h2:r.visits.any (offV x)=true
 ·rw [Qbc h2,if_pos h2]
 rw [QaY (by simpa using h2),if_neg h2,QAQ hl,Qah]
 by_cases h3:¬ r.visits.Nodup
 ·rw [Qbc (decide_eq_true h3),if_pos h3]
 rw [QaY (decide_eq_false h3),if_neg h3,QyX hx hl h1',Qah]
 by_cases h4:r.visits.any (fun v=>!pairV x r.visits v)=true
 ·rw [QaY (by rw [h4]; rfl),if_pos h4]
 rw [Qbc (by simpa using h4),if_neg h4]
 have ha:=hx.apart
 have hb:=hx.before
 rw [Qc9 (Qij (B:=fun s=>QcN x r s) (l:=x.apart) (by omega) (Qri r.visits) (y:=(.inr 20:Unit⊕Int)) (N:=.inl ()) (fun i a h=>by
  show QcN x r i=_
  unfold QcN
  rw [Qb1 h,QvC hl,Qah,QvC hl,Qah,incL h (by omega)]
  unfold Qri
  cases hasO r.visits a.x0 <;> cases hasO r.visits a.x1 <;> rfl) (by
  show QcN x r x.apart.length=_
  unfold QcN
  rw [Qbu]))]
 by_cases h5:x.apart.any (Qri r.visits)=true
 ·rw [if_pos h5,if_pos h5]; rfl
 rw [if_neg h5,if_neg h5,QfQ]
 rw [Qc9 (Qij (B:=fun s=>Qct x r s) (l:=x.before) (by omega) (badB r.visits) (y:=(.inr 21:Unit⊕Int)) (N:=.inl ()) (fun i a h=>by
  show Qct x r i=_
  unfold Qct
  rw [Qb1 h,QxY hl,Qah,incL h (by omega)]
  cases badB r.visits a <;> rfl) (by
  show Qct x r x.before.length=_
  unfold Qct
  rw [Qbu]))]
 by_cases h6:x.before.any (badB r.visits)=true
 ·rw [if_pos h6,if_pos h6]; rfl
 ·rw [if_neg h6,if_neg h6]; rfl
theorem Qw7 {m:Nat} (hm:m<9223372036854775808) {i:Int} (h0:0≤i) (h1:i≤62):Qfj (m:Int) i=some (m.testBit i.toNat):=by
 obtain ⟨k,rfl⟩:∃ k:Nat,i=k:=⟨i.toNat,by omega⟩
 unfold Qfj
 rw [Qbc (by simp; omega),cvuN (by omega),Qf7 (by omega),shrN (by omega),QuX]
 rfl
structure SetOf (l:List Qab) (s:Int):Prop where
 ex:∃ m:Nat,s=m∧m<1024∧∀ i:Nat,m.testBit i=hasO l (i:Int)
theorem QAB {r:Qad} (hx:QbQ x) (hl:r.visits.length≤1048576) (ho:r.visits.any (fun v=>!inO x v)=false):post (QjY r) fun s=>s.2=0∧SetOf r.visits s.1:=by
 have hx10:=hx.orders
 unfold QjY
 refine QmW ?_
 refine QcM (fun s=>∃ (k m:Nat),s=((m:Int),(k:Int))∧k≤r.visits.length∧m<1024∧∀ i:Nat,m.testBit i=hasO (r.visits.take k) (i:Int)) (fun s=>r.visits.length-s.2.toNat) ⟨0,0,rfl,Nat.zero_le _,by omega,fun i=>by simp [hasO]⟩ (by simp; omega) ?_
 rintro _ ⟨k,m,rfl,hk,hm,hb⟩
 show post (Qhw r (m:Int) (k:Int)) _
 unfold Qhw
 rcases Nat.lt_or_ge k r.visits.length with h|h
 ·have e:r.visits[k]?=some r.visits[k]:=List.getElem?_eq_getElem h
  have hin:=QmL ho (List.getElem_mem h)
  have htk:r.visits.take (k+1)=r.visits.take k++[r.visits[k]]:=by rw [List.take_add_one,e]; rfl
  generalize r.visits[k]=v at e hin htk
  obtain ⟨n,hn⟩:∃ n:Nat,v.order=n:=⟨v.order.toNat,by omega⟩
  have hov:∀ i:Nat,hasO (r.visits.take (k+1)) (i:Int)=(hasO (r.visits.take k) (i:Int)||decide (n=i)):=fun i=>by
   rw [htk]
   unfold hasO
   rw [List.any_append,List.any_cons,List.any_nil,Bool.or_false]
   congr 1
   rw [Bool.eq_iff_iff,isO_t,hn,decide_eq_true_iff]
   omega
  rw [Qb1 e,QaY (by rw [hn]; simp; omega),Qw7 (by omega) (by omega) (by omega),Qah,incL e hl,hn]
  simp only [Int.toNat_natCast]
  refine QaI (fun h1=>QdI ⟨⟨k+1,m,rfl,h,hm,fun i=>?_⟩,by simp; omega⟩) (fun h1=>?_)
  ·rw [hov,← hb]
   by_cases hi:n=i
   ·subst hi; rw [h1]; rfl
   ·rw [decide_eq_false hi,Bool.or_false]
  ·rw [cvuN (by omega),Qf7 (by omega),shlN (by omega)]
   have h2:2 ^ n≤2 ^ 9:=Nat.pow_le_pow_right (by omega) (by omega)
   have h3:(0:Int)≤((2 ^ n:Nat):Int)∧((2 ^ n:Nat):Int)≤512:=⟨Int.natCast_nonneg _,Int.ofNat_le.2 (show 2 ^ n≤512 by omega)⟩
   rw [addI (by omega) (by omega)]
   have hbit:∀ i,(m+2 ^ n).testBit i=hasO (r.visits.take (k+1)) (i:Int):=fun i=>by rw [QA3 h1,hov,hb]
   refine QdI ⟨⟨k+1,m+2 ^ n,by simp,h,?_,hbit⟩,by simp; omega⟩
   refine Nat.lt_pow_two_of_testBit (n:=10) _ fun i hi=>?_
   rw [hbit]
   rw [Bool.eq_false_iff]
   intro hh
   obtain ⟨w,hw,hwi⟩:=Qru.1 hh
   have:=QmL ho (List.mem_of_mem_take hw)
   omega
 ·obtain rfl:k=r.visits.length:=by omega
  rw [Qbu]
  refine Qb2 ?_
  rw [QfQ]
  exact Qat.2 ⟨rfl,⟨m,rfl,hm,fun i=>by rw [hb,List.take_length]⟩⟩
theorem SetOf.has {s:Int} (h:SetOf l s) {i:Int} (h0:0≤i) (h1:i≤62):Qfj s i=some (hasO l i):=by
 obtain ⟨m,rfl,hm,hb⟩:=h.ex
 rw [Qw7 (by omega) h0 h1,hb,Int.toNat_of_nonneg h0]
theorem Qwu (hx:QbQ x) {s:Int} (h:SetOf l s):Qk4 x s=some (!x.apart.any (Qri l)):=by
 have ha:=hx.apart
 have hx10:=hx.orders
 have:=Qij (B:=fun i=>Qd6 x s i) (l:=x.apart) (by omega) (Qri l) (y:=(.inr false:Unit⊕Bool)) (N:=.inl ()) (fun i a ha'=>by
  obtain ⟨p0,p1,p2,p3,p4⟩:=hx.aparts a (List.mem_of_getElem? ha')
  show Qd6 x s i=_
  unfold Qd6
  rw [Qb1 ha',h.has p0 (by omega),Qah,h.has p2 (by omega),Qah,incL ha' (by omega)]
  unfold Qri
  cases hasO l a.x0 <;> cases hasO l a.x1 <;> rfl) (by
  show Qd6 x s x.apart.length=_
  unfold Qd6
  rw [Qbu])
 unfold Qk4
 rw [Qc9 this]
 cases x.apart.any (Qri l) <;> rfl
theorem QAm {p:QaW} (hne:p.x0≠p.x1) (hb:hasO l p.x1=true):lateB l p=true↔∃ j,j<l.length∧∃ k,k<j∧(∃ v,l[j]?=some v∧v.order=p.x0)∧∃ w,l[k]?=some w∧w.order=p.x1:=by
 unfold lateB
 cases h:ixP (isO p.x1) l with
 | none =>
  obtain ⟨w,hw,he⟩:=Qru.1 hb
  have:=QsQ h w hw
  rw [isO_t.2 he] at this
  cases this
 | some m =>
  obtain ⟨g1,g2,g3⟩:=QnQ h
  simp only
  rw [Qru]
  constructor
  ·rintro ⟨v,hv,he⟩
   obtain ⟨q,hq,rfl⟩:=List.getElem_of_mem hv
   rw [List.length_drop] at hq
   rw [List.getElem_drop] at he
   have hmq:q≠0:=fun h0=>by subst h0; exact hne (he.symm.trans (isO_t.1 (by simpa using g2)))
   exact ⟨m+q,by omega,m,by omega,⟨_,List.getElem?_eq_getElem (by omega),he⟩,⟨_,List.getElem?_eq_getElem g1,isO_t.1 g2⟩⟩
  ·rintro ⟨j,hj,k,hk,⟨v,hv,he⟩,⟨w,hw,hwe⟩⟩
   have hmk:m≤k:=Nat.le_of_not_lt fun hlt=>by
    have:=g3 k hlt
    rw [List.getElem?_eq_getElem (show k<l.length by omega)] at hw
    rw [Option.some.inj hw,isO_t.2 hwe] at this
    cases this
   exact ⟨v,List.mem_iff_getElem?.2 ⟨j-m,by rw [List.getElem?_drop,show m+(j-m)=j by omega,hv]⟩,he⟩
theorem QvQ (hx:QbQ x) (hl:l.length≤1048576) {s:Int} (h:SetOf l s):Qj0 x s l=some (!x.before.any (badB l)):=by
 have hbf:=hx.before
 have hx10:=hx.orders
 have:=Qij (B:=fun i=>Qdj x s l i) (l:=x.before) (by omega) (badB l) (y:=(.inr false:Unit⊕Bool)) (N:=.inl ()) (fun i a ha'=>by
  obtain ⟨p0,p1,p2,p3,p4⟩:=hx.befores a (List.mem_of_getElem? ha')
  show Qdj x s l i=_
  unfold Qdj
  rw [Qb1 ha',h.has p2 (by omega),Qah,h.has p0 (by omega),Qah,incL ha' (by omega)]
  have hP:badB l a=(hasO l a.x1&&(!hasO l a.x0||lateB l a)):=rfl
  generalize badB l a=P at hP ⊢
  cases hb:hasO l a.x1 with
  | false=>rw [hb] at hP; subst hP; rfl
  | true =>
   rw [hb] at hP
   cases hq:hasO l a.x0 with
   | false=>rw [hq] at hP; subst hP; rfl
   | true =>
    rw [hq] at hP
    obtain rfl:P=lateB l a:=hP
    have inner:loopF (fun q=>Qdk x s l (i:Int) a q) 0=some (if lateB l a=true then .inr false else .inl ()):=by
     refine QtT hl (fun j=>(List.range j).any fun k=>match l[j]?,l[k]? with|some v,some w=>decide (v.order=a.x0)&&decide (w.order=a.x1)|_,_=>false) ?_ (fun j hj=>?_) ?_
     ·rw [QAm p4 hb]
      constructor
      ·rintro ⟨j,hj,k,hk,⟨v,hv,e1⟩,⟨w,hw,e2⟩⟩
       refine ⟨j,hj,List.any_eq_true.2 ⟨k,List.mem_range.2 hk,?_⟩⟩
       rw [hv,hw]; simp [e1,e2]
      ·rintro ⟨j,hj,hh⟩
       obtain ⟨k,hk,hm⟩:=List.any_eq_true.1 hh
       rw [List.mem_range] at hk
       rw [List.getElem?_eq_getElem hj,List.getElem?_eq_getElem (show k<l.length by omega)] at hm
       simp only [Bool.and_eq_true,decide_eq_true_iff] at hm
       exact ⟨j,hj,k,hk,⟨_,List.getElem?_eq_getElem hj,hm.1⟩,⟨_,List.getElem?_eq_getElem (show k<l.length by omega),hm.2⟩⟩
     ·have ej:l[j]?=some l[j]:=List.getElem?_eq_getElem hj
      show Qdk x s l (i:Int) a j=_
      unfold Qdk
      rw [Qbc (by simp [lenI]; omega),inc hj hl]
      have in2:=QtT (B:=fun q=>Qdl x s l (i:Int) a (j:Int) q) (n:=j) (by omega) (fun k=>match l[j]?,l[k]? with|some v,some w=>decide (v.order=a.x0)&&decide (w.order=a.x1)|_,_=>false) (y:=(.inr false:Unit⊕Bool)) (N:=.inl ())
       (b:=(List.range j).any fun k=>match l[j]?,l[k]? with|some v,some w=>decide (v.order=a.x0)&&decide (w.order=a.x1)|_,_=>false) (by
        rw [List.any_eq_true]
        exact ⟨fun ⟨k,hk,hm⟩=>⟨k,List.mem_range.1 hk,hm⟩,fun ⟨k,hk,hm⟩=>⟨k,List.mem_range.2 hk,hm⟩⟩) (fun k hk=>by
       have ek:l[k]?=some (l[k]'(by omega)):=List.getElem?_eq_getElem _
       show Qdl x s l (i:Int) a (j:Int) k=_
       unfold Qdl
       rw [Qbc (by simp; omega),QaU ej,Qah,QaU ek,Qah,inc (n:=l.length) (by omega) hl,ej,ek]
       simp only [brs,eqI_t,Bool.and_eq_true,decide_eq_true_iff]
       by_cases c1:(l[j]).order=a.x0
       ·rw [if_pos c1]
        by_cases c2:(l[k]'(by omega)).order=a.x1
        ·rw [if_pos c2,if_pos ⟨c1,c2⟩]
        ·rw [if_neg c2,if_neg fun h=>c2 h.2]
       ·rw [if_neg c1,if_neg fun h=>c1 h.1]) (by
       show Qdl x s l (i:Int) a (j:Int) j=_
       unfold Qdl
       rw [QaY (by simp)])
      rw [Qc9 in2]
      split <;> rfl
     ·show Qdk x s l (i:Int) a l.length=_
      unfold Qdk
      rw [QaY (by simp [lenI])]
    rw [Qir,Qir,Qc9 inner]
    cases lateB l a <;> rfl) (by
  show Qdj x s l x.before.length=_
  unfold Qdj
  rw [Qbu])
 unfold Qj0
 rw [Qc9 this]
 cases x.before.any (badB l) <;> rfl
theorem Qtg {r:Qad} (hx:QbQ x) (hl:r.visits.length≤1048576):Qie x r=some (seqS x r.visits):=by
 unfold Qie seqS
 rw [Qc9 (Qij (B:=fun s=>Qd2 x r s) hl (fun v=>!inO x v) (y:=(.inr 2:Unit⊕Int)) (N:=.inl ()) (fun i a h=>by
  show Qd2 x r i=_
  unfold Qd2
  rw [Qb1 h,incL h hl]
  have hP:(!inO x a)=(ltI a.order 0||geI a.order (lenI x.orders)):=by
   unfold inO lenI; rw [Bool.eq_iff_iff]; simp
  rw [hP]
  cases ltI a.order 0 <;> cases geI a.order (lenI x.orders) <;> rfl) (by
  show Qd2 x r r.visits.length=_
  unfold Qd2
  rw [Qbu]))]
 by_cases h1:r.visits.any (fun v=>!inO x v)=true
 ·rw [if_pos h1,Qg6]
  split <;> rfl
 have h1':r.visits.any (fun v=>!inO x v)=false:=by simpa using h1
 rw [if_neg h1,if_neg h1,QfQ]
 obtain ⟨s,hs,hs0,hset⟩:=QAB hx hl h1'
 rw [hs,Qah,hs0]
 by_cases h0:r.visits.length=0
 ·rw [Qbc (by simp [lenI,h0]),if_pos h0]
 rw [QaY (by simp only [lenI,neI,orF,eqI_f]; simp; intro h; exact h0 (by rw [h]; rfl)),if_neg h0]
 rw [Qc9 (Qij (B:=fun q=>Qd3 x r s q) hl (offV x) (y:=(.inr 9:Unit⊕Int)) (N:=.inl ()) (fun i a h=>by
  obtain ⟨h0,h1⟩:=QmL h1' (List.mem_of_getElem? h)
  obtain ⟨o,g1,g2,g3,_⟩:=Qvp h0 h1
  show Qd3 x r s i=_
  unfold Qd3
  rw [Qb1 h,g1,Qah,incL h hl,brs,g3]) (by
  show Qd3 x r s r.visits.length=_
  unfold Qd3
  rw [Qbu]))]
 by_cases h2:r.visits.any (offV x)=true
 ·rw [if_pos h2,if_pos h2]; rfl
 rw [if_neg h2,if_neg h2,QfQ]
 rw [Qc9 (QtT (B:=fun q=>Qd4 x r s q) hl (fun k=>match r.visits[k]? with|some v=>neI (ixI (isV v) r.visits) (k:Int)|none=>false) (y:=(.inr 6:Unit⊕Int)) (N:=.inl ()) (b:=decide (¬ r.visits.Nodup)) (by
  rw [decide_eq_true_iff,QsX]
  constructor
  ·rintro ⟨k,hk,j,hj,he⟩
   refine ⟨k,hk,?_⟩
   rw [List.getElem?_eq_getElem hk] at he ⊢
   simp only [neI_t]
   intro h
   exact (Qtz h).2 j hj he
  ·rintro ⟨k,hk,h⟩
   rw [List.getElem?_eq_getElem hk] at h
   simp only [neI_t] at h
   have h0:=Qxg.2 (List.getElem_mem hk)
   obtain ⟨m,hm⟩:∃ m:Nat,ixI (isV r.visits[k]) r.visits=m:=⟨(ixI (isV r.visits[k]) r.visits).toNat,by omega⟩
   obtain ⟨g1,g2⟩:=Qtz hm
   have hmk:m<k:=by
    rcases Nat.lt_trichotomy m k with h'|h'|h'
    ·exact h'
    ·exact absurd (by rw [hm,h']) h
    ·exact absurd (List.getElem?_eq_getElem hk) (g2 k h')
   exact ⟨k,hk,m,hmk,by rw [g1,List.getElem?_eq_getElem hk]⟩) (fun i hi=>by
  have h:r.visits[i]?=some r.visits[i]:=List.getElem?_eq_getElem hi
  show Qd4 x r s i=_
  unfold Qd4
  rw [Qb1 h,QnI hl,Qah,incL h hl,brs,h]) (by
  show Qd4 x r s r.visits.length=_
  unfold Qd4
  rw [Qbu]))]
 by_cases h3:¬ r.visits.Nodup
 ·rw [if_pos (decide_eq_true h3),if_pos h3]; rfl
 rw [if_neg (by rw [decide_eq_false h3]; decide),if_neg h3,QfQ,Qv4 hx hl h1',Qah]
 by_cases h4:r.visits.any (fun v=>!pairV x r.visits v)=true
 ·rw [QaY (by rw [h4]; rfl),if_pos h4]
 rw [Qbc (by simpa using h4),if_neg h4,Qwu hx hset,Qah]
 by_cases h5:x.apart.any (Qri r.visits)=true
 ·rw [QaY (by rw [h5]; rfl),if_pos h5]
 rw [Qbc (by simpa using h5),if_neg h5,QvQ hx hl hset,Qah]
 by_cases h6:x.before.any (badB r.visits)=true
 ·rw [QaY (by rw [h6]; rfl),if_pos h6]
 ·rw [Qbc (by simpa using h6),if_neg h6]
end
end Go.Proofs.YtpkkaboonnedfaaGreatDoor
namespace Go.Proofs.YtpkkaboonnedfaaGreatDoor
set_option linter.unusedSimpArgs false
set_option linter.unusedVariables false
set_option linter.unusedSectionVars false
def sumN:Nat→(Nat→Int)→Int
 | 0,_=>0
 | n+1,f=>sumN n f+f n
theorem Qt1 {f g:Nat→Int}:∀ n,(∀ i,i<n→f i=g i)→sumN n f=sumN n g
 | 0,_=>rfl
 | n+1,h=>by unfold sumN; rw [Qt1 n fun i hi=>h i (by omega),h n (by omega)]
theorem QuK {f g:Nat→Int} {o:Nat}:∀ n,o<n→(∀ i,i≠o→g i=f i)→sumN n g=sumN n f+(g o-f o)
 | 0,h,_=>by omega
 | n+1,h,hg=>by
  unfold sumN
  rcases Nat.lt_or_eq_of_le (Nat.le_of_lt_succ h) with h'|rfl
  ·rw [QuK n h' hg,hg n (by omega)]; omega
  ·rw [Qt1 _ fun i hi=>hg i (by omega)]; omega
theorem QvH {f : Nat → Int} {n : Nat} : ∀ m, n ≤ m → (∀ i, n ≤ i → f i = 0) → sumN m f = sumN n f
  | 0, h, _ => by obtain rfl : n = 0 := by omega
                  rfl
  | m + 1, h, hf => by
    rcases Nat.lt_or_eq_of_le h with h' | rfl
    · unfold sumN; rw [QvH m (by omega) hf, hf m (by omega)]
      cases n <;> simp [sumN]
    · rfl
theorem QvG {f:Nat→Int} {c:Int} (hc:0≤c):∀ n,(∀ i,0≤f i∧f i≤c)→0≤sumN n f∧sumN n f≤n*c
 | 0,_=>by simp [sumN]
 | n+1,h=>by
  have h1:=QvG hc n h
  have h2:=h n
  unfold sumN
  rw [show ((n+1:Nat):Int)*c=n*c+c by rw [Int.natCast_add,Int.add_mul]; simp]
  omega
def vecN (D:Nat) (f:Nat→Int):List Int:=(List.range D).map f
theorem Qe2 {D:Nat} {f:Nat→Int}:(vecN D f).length=D:=by simp [vecN]
theorem Qhx {D:Nat} {f:Nat→Int} {k:Nat} (h:k<D):(vecN D f)[k]?=some (f k):=by simp [vecN,h]
theorem Qfm {D:Nat} {f g:Nat→Int} (h:∀ d,d<D→f d=g d):vecN D f=vecN D g:=by
 unfold vecN
 exact List.map_congr_left fun d hd=>h d (List.mem_range.1 hd)
theorem Qr7 {D:Nat} {f:Nat→Int} {k:Nat} {y:Int} (h:k<D):setI (vecN D f) (k:Int) y=vecN D (fun d=>if d=k then y else f d):=by
 unfold setI
 refine List.ext_getElem? fun i=>?_
 rw [List.getElem?_set]
 simp only [Int.toNat_natCast,Qe2]
 split
 ·rename_i he
  subst he
  exact ((Qhx (f:=fun d=>if d=k then y else f d) h).trans (by simp)).symm
 ·rename_i he
  rcases Nat.lt_or_ge i D with h'|h'
  ·rw [Qhx h',Qhx h',if_neg (by omega)]
  ·rw [List.getElem?_eq_none (by rw [Qe2]; omega),List.getElem?_eq_none (by rw [Qe2]; omega)]
theorem QBN {l:List Int}:l=vecN l.length (fun d=>l.getD d 0):=by
 refine List.ext_getElem? fun i=>?_
 rcases Nat.lt_or_ge i l.length with h|h
 ·rw [Qhx h,List.getElem?_eq_getElem h,List.getD_eq_getElem?_getD,List.getElem?_eq_getElem h]; rfl
 ·rw [List.getElem?_eq_none h,List.getElem?_eq_none (by rw [Qe2]; omega)]
theorem Qu2 {D:Nat} {f g h:Nat→Int} (hD:D≤3) {B:List Int×Int→Option ((List Int×Int)⊕(List Int))}
  (hin:∀ (k:Nat) (l1:List Int),k<D→l1.length=D→B (l1,(k:Int))=some (.inl (setI l1 k (h k),(k:Int)+1))) (hend:∀ l1:List Int,B (l1,(D:Int))=some (.inr l1)) :
  loopF B (List.replicate D 0,0)=some (vecN D h):=by
 have h0:(List.replicate D (0:Int),(0:Int))=(vecN D (fun d=>if d<0 then h d else 0),((0:Nat):Int)):=by
  congr 1
  refine List.ext_getElem? fun i=>?_
  rcases Nat.lt_or_ge i D with h|h
  ·rw [Qhx h]; simp [h]
  ·rw [List.getElem?_eq_none (by simp; omega),List.getElem?_eq_none (by rw [Qe2]; omega)]
 rw [h0]
 refine Qd8 D (fun k=>(vecN D (fun d=>if d<k then h d else 0),(k:Int))) (by omega) (fun k hk=>?_) ?_
 ·rw [hin k _ hk Qe2,Qr7 hk]
  simp only [Int.natCast_add,Int.cast_ofNat_Int]
  congr 3
  refine Qfm fun d hd=>?_
  by_cases h1:d=k
  ·rw [if_pos h1,if_pos (by omega),h1]
  ·rw [if_neg h1]
   by_cases h2:d<k
   ·rw [if_pos h2,if_pos (by omega)]
   ·rw [if_neg h2,if_neg (by omega)]
 ·rw [hend]
  congr 2
  exact Qfm fun d hd=>if_pos hd
theorem QAX {D:Nat} {f g:Nat→Int} (hD:D≤3) (hf:∀ d,d<D→-4000000000≤f d∧f d≤4000000000) (hg:∀ d,d<D→-4000000000≤g d∧g d≤4000000000):QoF (vecN D f) (vecN D g)=some (vecN D (fun d=>f d+g d),0):=by
 unfold QoF QgW
 rw [QaY (by simp [lenI,Qe2])]
 have hm:mkI (lenI (vecN D f)) (lenI (vecN D f)) 8 (0:Int)=some (List.replicate D 0):=by
  unfold mkI lenI
  rw [Qe2,if_pos (by omega)]
  rfl
 rw [hm,Qah]
 rw [Qc9 (Qu2 (D:=D) (f:=f) (g:=g) (h:=fun d=>f d+g d) hD (B:=fun s=>QbR (vecN D f) (vecN D g) (List.replicate D 0) s.1 s.2) (fun k l1 hk hl=>by
  have a1:=hf k hk
  have a2:=hg k hk
  show QbR (vecN D f) (vecN D g) (List.replicate D 0) l1 k=_
  unfold QbR QpN
  rw [Qb1 (Qhx hk),QaU (Qhx hk),Qah,Qah,Qv1 (by omega),Qah,addI (by omega) (by omega),addI (by omega) (by omega)]) (fun l1=>by
  show QbR (vecN D f) (vecN D g) (List.replicate D 0) l1 D=_
  unfold QbR
  rw [QaY (by simp [lenI,Qe2])]))]
 rfl
theorem QBP {D:Nat} {f g:Nat→Int} (hD:D≤3) (hf:∀ d,d<D→-4000000000≤f d∧f d≤4000000000) (hg:∀ d,d<D→-4000000000≤g d∧g d≤4000000000):QpM (vecN D f) (vecN D g)=some (vecN D (fun d=>f d-g d),0):=by
 unfold QpM Qgl
 rw [QaY (by simp [lenI,Qe2])]
 have hm:mkI (lenI (vecN D f)) (lenI (vecN D f)) 8 (0:Int)=some (List.replicate D 0):=by
  unfold mkI lenI
  rw [Qe2,if_pos (by omega)]
  rfl
 rw [hm,Qah]
 rw [Qc9 (Qu2 (D:=D) (f:=f) (g:=g) (h:=fun d=>f d-g d) hD (B:=fun s=>QbL (vecN D f) (vecN D g) (List.replicate D 0) s.1 s.2) (fun k l1 hk hl=>by
  have a1:=hf k hk
  have a2:=hg k hk
  show QbL (vecN D f) (vecN D g) (List.replicate D 0) l1 k=_
  unfold QbL QoG
  rw [Qb1 (Qhx hk),QaU (Qhx hk),Qah,Qah,Qv1 (by omega),Qah,subI (by omega) (by omega),addI (by omega) (by omega)]) (fun l1=>by
  show QbL (vecN D f) (vecN D g) (List.replicate D 0) l1 D=_
  unfold QbL
  rw [QaY (by simp [lenI,Qe2])]))]
 rfl
section
variable {x : Qac} {l : List Qab} {r : Qad}
theorem SetOf.Has {s:Int} (h:SetOf l s) {i:Int} (h0:0≤i) (h1:i≤62):QrV s i=some (hasO l i):=by
 obtain ⟨m,rfl,hm,hb⟩:=h.ex
 obtain ⟨k,rfl⟩:∃ k:Nat,i=k:=⟨i.toNat,by omega⟩
 unfold QrV
 rw [Qbc (by simp; omega),Qf7 (by omega),shrN (by omega)]
 have hd:=Nat.div_le_self m (2 ^ k)
 rw [show (1:Int)=((1:Nat):Int) from rfl,andN (by omega) (by omega),Nat.and_one_is_mod,← hb,Nat.testBit_eq_decide_div_mod_eq]
 congr 1
 generalize m / 2 ^ k=q
 rw [Bool.eq_iff_iff,eqI_t,decide_eq_true_iff]
 omega
theorem Qsl (hx:QbQ x) (hl:r.visits.length≤1048576) (ho:r.visits.any (fun v=>!inO x v)=false):post (Qgh r) fun s=>s.2=0∧SetOf r.visits s.1:=by
 have hx10:=hx.orders
 unfold Qgh
 refine QmW ?_
 refine QcM (fun s=>∃ (k m:Nat),s=((m:Int),(k:Int))∧k≤r.visits.length∧m<1024∧∀ i:Nat,m.testBit i=hasO (r.visits.take k) (i:Int)) (fun s=>r.visits.length-s.2.toNat) ⟨0,0,rfl,Nat.zero_le _,by omega,fun i=>by simp [hasO]⟩ (by simp; omega) ?_
 rintro _ ⟨k,m,rfl,hk,hm,hb⟩
 show post (QeD r (m:Int) (k:Int)) _
 unfold QeD
 rcases Nat.lt_or_ge k r.visits.length with h|h
 ·have e:r.visits[k]?=some r.visits[k]:=List.getElem?_eq_getElem h
  have hin:=QmL ho (List.getElem_mem h)
  have htk:r.visits.take (k+1)=r.visits.take k++[r.visits[k]]:=by rw [List.take_add_one,e]; rfl
  generalize r.visits[k]=v at e hin htk
  obtain ⟨n,hn⟩:∃ n:Nat,v.order=n:=⟨v.order.toNat,by omega⟩
  have hov:∀ i:Nat,hasO (r.visits.take (k+1)) (i:Int)=(hasO (r.visits.take k) (i:Int)||decide (n=i)):=fun i=>by
   rw [htk]
   unfold hasO
   rw [List.any_append,List.any_cons,List.any_nil,Bool.or_false]
   congr 1
   rw [Bool.eq_iff_iff,isO_t,hn,decide_eq_true_iff]
   omega
  have h2:2 ^ n≤2 ^ 9:=Nat.pow_le_pow_right (by omega) (by omega)
  rw [Qb1 e,QaY (by rw [hn]; simp; omega),Qf7 (by omega),incL e hl,hn,shlN (by omega),orN (by omega) (by omega)]
  have hbit:∀ i,(m ||| 2 ^ n).testBit i=hasO (r.visits.take (k+1)) (i:Int):=fun i=>by rw [Nat.testBit_or,Nat.testBit_two_pow,hov,hb]
  refine QdI ⟨⟨k+1,m ||| 2 ^ n,by simp,h,?_,hbit⟩,by simp; omega⟩
  exact Nat.or_lt_two_pow (n:=10) hm (by omega)
 ·obtain rfl:k=r.visits.length:=by omega
  rw [Qbu]
  refine Qb2 ?_
  rw [QfQ]
  exact Qat.2 ⟨rfl,⟨m,rfl,hm,fun i=>by rw [hb,List.take_length]⟩⟩
def memN (l:List Qab):Nat→List Int
 | 0=>[]
 | n+1=>memN l n++(if hasO l (n:Int)=true then [(n:Int)] else [])
theorem Quo:∀ n,(memN l n).length≤n
 | 0=>Nat.le_refl 0
 | n+1=>by have:=Quo n; unfold memN; split <;> simp <;> omega
theorem Qwp {s:Int} (h:SetOf l s):Qlk s=some (memN l 63):=by
 unfold Qlk
 have this:loopF (fun q:List Int×Int=>QcW s q.1 q.2) ([],0)=some (memN l 63):=Qd8 63 (fun k=>(memN l k,(k:Int))) (B:=fun q=>QcW s q.1 q.2) (by omega) (fun k hk=>by
  show QcW s (memN l k) (k:Int)=_
  have:=Quo (l:=l) k
  unfold QcW
  rw [Qbc (by simp; omega),h.Has (by omega) (by omega),Qah,addI (by omega) (by omega),Qf7 (by unfold okN; simp; omega),brs]
  show _=some (Sum.inl (memN l k++(if hasO l (k:Int)=true then [(k:Int)] else []),((k+1:Nat):Int)))
  split <;> simp) (by
  show QcW s (memN l 63) ((63:Nat):Int)=_
  unfold QcW
  rw [QaY (by decide)])
 rw [Qc9 this]
end
end Go.Proofs.YtpkkaboonnedfaaGreatDoor
namespace Go.Proofs.YtpkkaboonnedfaaGreatDoor
set_option linter.unusedSimpArgs false
set_option linter.unusedVariables false
set_option linter.unusedSectionVars false
def sumF {α:Type} (f:α→Int) (l:List α):Int:=(l.map f).sum
theorem Qot {α:Type} {f:α→Int} {a b:List α}:sumF f (a++b)=sumF f a+sumF f b:=by simp [sumF,List.sum_append]
theorem Qou {α:Type} {f:α→Int} {a:α}:sumF f [a]=f a:=by simp [sumF]
theorem Qx7 {α:Type} {f:α→Int}:sumF f []=0:=rfl
theorem take_one {α:Type} {l:List α} {k:Nat} {a:α} (h:l[k]?=some a):l.take (k+1)=l.take k++[a]:=by rw [List.take_add_one,h]; rfl
theorem QoL {α:Type} {f:α→Int} {l:List α} {k:Nat} {a:α} (h:l[k]?=some a):sumF f (l.take (k+1))=sumF f (l.take k)+f a:=by rw [take_one h,Qot,Qou]
theorem QsB {α:Type} {f:α→Int}:∀ {l:List α},(∀ a∈l,0≤f a∧f a≤1000)→0≤sumF f l∧sumF f l≤1000*l.length
 | [],_=>by simp [sumF]
 | a :: l,h=>by
  have h1:=QsB (f:=f) (l:=l) fun b hb=>h b (List.mem_cons_of_mem _ hb)
  have h2:=h a (List.mem_cons_self ..)
  have e:sumF f (a :: l)=f a+sumF f l:=by simp [sumF]
  rw [e,List.length_cons]
  omega
section
variable (x : Qac)
def loadO (i d:Nat):Int:=match x.orders[i]? with
 | some o=>o.load.getD d 0
 | none=>0
def pk0 (i:Nat):Bool:=match x.orders[i]? with
 | some o=>decide (o.pick.place<0)
 | none=>false
def onK (l:List Qab) (i:Nat):Bool:=l.foldl (fun b v=>if v.order=(i:Int) then !v.drop else b) (pk0 x i)
def incl (l:List Qab) (k i d:Nat):Int:=if (hasO l (i:Int)&&onK x (l.take k) i)=true then loadO x i d else 0
def loadK (l:List Qab) (k d:Nat):Int:=sumN x.orders.length fun i=>incl x l k i d
end
section
variable {x : Qac} {l : List Qab} {r : Qad}
theorem QxA (hx:QbQ x) {i:Nat} (hi:i<x.orders.length):∃ o,x.orders[i]?=some o∧o∈x.orders∧o.load=vecN (QdD x.types) (loadO x i)∧(∀ d,0≤loadO x i d∧loadO x i d≤1000)∧pk0 x i=decide (o.pick.place<0):=by
 have e:x.orders[i]?=some x.orders[i]:=List.getElem?_eq_getElem hi
 have hm:=List.getElem_mem hi
 generalize x.orders[i]=o at e hm
 have hO:=hx.ord o hm
 refine ⟨o,e,hm,?_,fun d=>?_,by unfold pk0; rw [e]⟩
 ·have:=QBN (l:=o.load)
  rw [hO.load] at this
  rw [this]
  refine Qfm fun d hd=>?_
  unfold loadO
  rw [e]
 ·unfold loadO
  rw [e]
  simp only
  rw [List.getD_eq_getElem?_getD]
  rcases Nat.lt_or_ge d o.load.length with h|h
  ·rw [List.getElem?_eq_getElem h]
   exact hO.loads d h _ (List.getElem?_eq_getElem h)
  ·rw [List.getElem?_eq_none h]; simp
theorem Qum (hx:QbQ x) (i d:Nat):0≤loadO x i d∧loadO x i d≤1000:=by
 rcases Nat.lt_or_ge i x.orders.length with h|h
 ·obtain ⟨o,_,_,_,h,_⟩:=QxA hx h
  exact h d
 ·unfold loadO
  rw [List.getElem?_eq_none h]; simp
theorem QAt (hx:QbQ x) (k d:Nat):0≤loadK x l k d∧loadK x l k d≤10000:=by
 have h:=QvG (f:=fun i=>incl x l k i d) (c:=1000) (by omega) x.orders.length fun i=>by
  have:=Qum hx i d
  unfold incl
  split <;> omega
 have:=hx.orders
 unfold loadK
 omega
theorem Qu4 (hx:QbQ x):1≤QdD x.types∧QdD x.types≤3:=by
 have h1:=hx.types1
 cases ht:x.types with
 | nil=>rw [ht] at h1; simp at h1
 | cons t ts =>
  have:=(hx.typ t (by rw [ht]; simp)).dims1
  rw [ht] at this
  exact this
structure SeqOK (x:Qac) (l:List Qab):Prop where
 ne:l.length≠0
 inn:l.any (fun v=>!inO x v)=false
 off:l.any (offV x)=false
 nodup:l.Nodup
 pair:∀ v∈l,pairV x l v=true
 apart:x.apart.any (Qri l)=false
 before:x.before.any (badB l)=false
theorem QtU (h:seqS x l=0):SeqOK x l:=by
 unfold seqS at h
 by_cases h0:l.length=0
 ·rw [if_pos h0] at h; cases h
 rw [if_neg h0] at h
 by_cases h1:l.any (fun v=>!inO x v)=true
 ·rw [if_pos h1] at h; cases h
 rw [if_neg h1] at h
 by_cases h2:l.any (offV x)=true
 ·rw [if_pos h2] at h; cases h
 rw [if_neg h2] at h
 by_cases h3:¬ l.Nodup
 ·rw [if_pos h3] at h; cases h
 rw [if_neg h3] at h
 by_cases h4:l.any (fun v=>!pairV x l v)=true
 ·rw [if_pos h4] at h; cases h
 rw [if_neg h4] at h
 by_cases h5:x.apart.any (Qri l)=true
 ·rw [if_pos h5] at h; cases h
 rw [if_neg h5] at h
 by_cases h6:x.before.any (badB l)=true
 ·rw [if_pos h6] at h; cases h
 refine ⟨h0,by simpa using h1,by simpa using h2,Classical.not_not.1 h3,fun v hv=>?_,by simpa using h5,by simpa using h6⟩
 have:=List.any_eq_false.1 (by simpa using h4:l.any (fun v=>!pairV x l v)=false) v hv
 simpa using this
theorem Qq9 {b:Bool} {i:Nat}:∀ {m:List Qab},(∀ v∈m,v.order≠(i:Int))→m.foldl (fun b v=>if v.order=(i:Int) then !v.drop else b) b=b
 | [],_=>rfl
 | v :: m,h=>by
  rw [List.foldl_cons,if_neg (h v (List.mem_cons_self ..))]
  exact Qq9 fun w hw=>h w (List.mem_cons_of_mem _ hw)
theorem Quh {c:Bool} {i:Nat}:∀ {m:List Qab} {b:Bool},(∀ v∈m,v.order=(i:Int)→v.drop=c)→(b=(!c)∨∃ v∈m,v.order=(i:Int))→m.foldl (fun b v=>if v.order=(i:Int) then !v.drop else b) b=!c
 | [],b,_,h=>by
  rcases h with h|⟨v,hv,_⟩
  ·exact h
  ·cases hv
 | v :: m,b,h,h'=>by
  rw [List.foldl_cons]
  by_cases hv:v.order=(i:Int)
  ·rw [if_pos hv]
   exact Quh (fun w hw=>h w (List.mem_cons_of_mem _ hw)) (.inl (by rw [h v (List.mem_cons_self ..) hv]))
  ·rw [if_neg hv]
   refine Quh (fun w hw=>h w (List.mem_cons_of_mem _ hw)) ?_
   rcases h' with h'|⟨w,hw,he⟩
   ·exact .inl h'
   ·rcases List.mem_cons.1 hw with rfl|hw
    ·exact absurd he hv
    ·exact .inr ⟨w,hw,he⟩
theorem QsW {j k:Nat} (h:l.Nodup) {v:Qab} (hj:l[j]?=some v) (hk:l[k]?=some v):j=k:=by
 refine Classical.byContradiction fun hne=>?_
 have hj':=(List.getElem?_eq_some_iff.1 hj).1
 have hk':=(List.getElem?_eq_some_iff.1 hk).1
 refine (QsX.2 ?_) h
 rcases Nat.lt_or_gt_of_ne hne with hlt|hlt
 ·exact ⟨k,hk',j,hlt,by rw [hj,hk]⟩
 ·exact ⟨j,hj',k,hlt,by rw [hj,hk]⟩
theorem on_at (hx:QbQ x) (h:SeqOK x l) {k:Nat} {v:Qab} (hk:l[k]?=some v) {i:Nat} (hi:v.order=(i:Int)):onK x (l.take k) i=v.drop:=by
 have hv:=List.mem_of_getElem? hk
 have hkl:=(List.getElem?_eq_some_iff.1 hk).1
 have hin:=QmL h.inn hv
 obtain ⟨o,e,hm,_,_,hp⟩:=QxA hx (show i<x.orders.length by omega)
 have hO:=hx.ord o hm
 -- each visit of the order is one of the order's visits
 have vis:∀ w∈l,w.order=(i:Int)→w∈visO x (i:Int)∧rowB l (visO x (i:Int))=true:=fun w hw he=>by
  have:=h.pair w hw
  unfold pairV at this
  rw [he,Bool.and_eq_true,any_V] at this
  exact this
 have hvo:visO x (i:Int)=(if 0≤o.pick.place then [Qab.mk i false] else [])++(if 0≤o.drop.place then [Qab.mk i true] else []):=by
  unfold visO
  rw [Int.toNat_natCast,e]
 have same:∀ w∈l.take k,w.order=(i:Int)→w≠v:=fun w hw _ he=>by
  obtain ⟨j,hj,hje⟩:=(QpB (by omega)).1 hw
  rw [he] at hje
  have:=QsW h.nodup hje hk
  omega
 have drop_or:∀ w:Qab,w.order=(i:Int)→w=Qab.mk i w.drop:=fun w hw=>by cases w; simp at hw; subst hw; rfl
 obtain ⟨v1,v2⟩:=vis v hv hi
 unfold onK
 by_cases hpk:0≤o.pick.place
 ·have hp':pk0 x i=false:=by rw [hp]; simp; omega
  rw [if_pos hpk] at hvo
  by_cases hdr:0≤o.drop.place
  ·rw [if_pos hdr] at hvo
   rw [hvo] at v2
   simp only [List.cons_append,List.nil_append,rowB,Bool.and_eq_true,geI_t,ltI_t] at v2
   obtain ⟨p,hpp⟩:∃ p:Nat,ixI (isV (Qab.mk i false)) l=p:=⟨(ixI (isV (Qab.mk i false)) l).toNat,by omega⟩
   obtain ⟨q,hqq⟩:∃ q:Nat,ixI (isV (Qab.mk i true)) l=q:=⟨(ixI (isV (Qab.mk i true)) l).toNat,by omega⟩
   obtain ⟨p1,p2⟩:=Qtz hpp
   obtain ⟨q1,q2⟩:=Qtz hqq
   have hpq:p<q:=by omega
   cases hd:v.drop with
   | false =>
    have hve:=drop_or v hi
    rw [hd] at hve
    have hkp:k=p:=QsW h.nodup (hve ▸ hk) p1
    rw [Qq9 fun w hw he=>?_,hp']
    have hwe:=drop_or w he
    cases hwd:w.drop with
    | false=>rw [hwd] at hwe; exact same w hw he (hwe.trans hve.symm)
    | true =>
     rw [hwd] at hwe
     obtain ⟨j,hj,hje⟩:=(QpB (by omega)).1 hw
     have:=QsW h.nodup (hwe ▸ hje) q1
     omega
   | true =>
    have hve:=drop_or v hi
    rw [hd] at hve
    have hkq:k=q:=QsW h.nodup (hve ▸ hk) q1
    refine Quh (c:=false) (fun w hw he=>?_) (.inr ⟨Qab.mk i false,(QpB (by omega)).2 ⟨p,by omega,p1⟩,rfl⟩)
    have hwe:=drop_or w he
    cases hwd:w.drop with
    | false=>rfl
    | true=>rw [hwd] at hwe; exact absurd (hwe.trans hve.symm) (same w hw he)
  ·rw [if_neg hdr,List.append_nil] at hvo
   have only:∀ w∈l,w.order=(i:Int)→w=Qab.mk i false:=fun w hw he=>by
    have:=(vis w hw he).1
    rw [hvo] at this
    exact List.mem_singleton.1 this
   rw [Qq9 fun w hw he=>same w hw he ((only w (List.mem_of_mem_take hw) he).trans (only v hv hi).symm),hp',only v hv hi]
 ·have hp':pk0 x i=true:=by rw [hp]; simp; omega
  rw [if_neg hpk,List.nil_append] at hvo
  have only:∀ w∈l,w.order=(i:Int)→w=Qab.mk i true:=fun w hw he=>by
   have:=(vis w hw he).1
   rw [hvo] at this
   split at this
   ·exact List.mem_singleton.1 this
   ·cases this
  rw [Qq9 fun w hw he=>same w hw he ((only w (List.mem_of_mem_take hw) he).trans (only v hv hi).symm),hp',only v hv hi]
theorem QsY {k i:Nat} {v:Qab} (hk:l[k]?=some v):onK x (l.take (k+1)) i=if v.order=(i:Int) then !v.drop else onK x (l.take k) i:=by
 unfold onK
 rw [take_one hk,List.foldl_append]
 rfl
theorem Qxn (hx:QbQ x) (h:SeqOK x l) {k:Nat} {v:Qab} (hk:l[k]?=some v) {i:Nat} (hi:v.order=(i:Int)) (d:Nat) :
  loadK x l (k+1) d=if v.drop=true then loadK x l k d-loadO x i d else loadK x l k d+loadO x i d:=by
 have hin:=QmL h.inn (List.mem_of_getElem? hk)
 unfold loadK
 rw [QuK (f:=fun j=>incl x l k j d) (g:=fun j=>incl x l (k+1) j d) (o:=i) x.orders.length (by omega) (fun j hj=>by
  show incl x l (k+1) j d=incl x l k j d
  have e1:onK x (l.take (k+1)) j=onK x (l.take k) j:=by rw [QsY hk,if_neg (by omega)]
  unfold incl
  rw [e1])]
 have ha:hasO l (i:Int)=true:=Qru.2 ⟨v,List.mem_of_getElem? hk,hi⟩
 simp only [incl,ha,Bool.true_and]
 rw [QsY hk,if_pos hi,on_at hx h hk hi]
 cases v.drop
 ·simp
 ·simp
  omega
end
end Go.Proofs.YtpkkaboonnedfaaGreatDoor
namespace Go.Proofs.YtpkkaboonnedfaaGreatDoor
set_option linter.unusedSimpArgs false
set_option linter.unusedVariables false
set_option linter.unusedSectionVars false
section
variable {x : Qac} {l : List Qab} {r : Qad}
theorem QwO (hx:QbQ x):QnG x.types=some (QdD x.types:Int)∧Ql0 x=some (QdD x.types:Int):=by
 have h1:=hx.types1
 unfold QnG Ql0
 cases ht:x.types with
 | nil=>rw [ht] at h1; simp at h1
 | cons t ts =>
  constructor
  ·rw [QaY (by simp [lenI]; omega)]; rfl
  ·rw [QaY (by simp [lenI]; omega)]; rfl
theorem Qxv {i:Int}:∀ {n:Nat},i∈memN l n→∃ k:Nat,i=k∧k<n∧hasO l (k:Int)=true
 | 0,h=>by cases h
 | n+1,h=>by
  unfold memN at h
  rcases List.mem_append.1 h with h|h
  ·obtain ⟨k,h1,h2,h3⟩:=Qxv h
   exact ⟨k,h1,by omega,h3⟩
  ·split at h
   ·exact ⟨n,List.mem_singleton.1 h,by omega,‹_›⟩
   ·cases h
theorem QBj (h:SeqOK x l) {i:Int} (hi:hasO l i=true):0≤i∧i<x.orders.length:=by
 obtain ⟨v,hv,rfl⟩:=Qru.1 hi
 exact QmL h.inn hv
theorem QwB {α β:Type} {a:β} {y z:Option α}:br (neI (a,(0:Int)).2 0) y z=z:=rfl
def stO (x:Qac) (d:Nat) (i:Int):Int:=if pk0 x i.toNat=true then loadO x i.toNat d else 0
theorem QCa (hx:QbQ x) (d:Nat) (i:Int):0≤stO x d i∧stO x d i≤1000:=by
 have:=Qum hx i.toNat d
 unfold stO
 split <;> omega
theorem QzM (d:Nat):∀ n,sumF (stO x d) (memN l n)=sumN n fun i=>if (hasO l (i:Int)&&pk0 x i)=true then loadO x i d else 0
 | 0=>rfl
 | n+1=>by
  show sumF (stO x d) (memN l n++(if hasO l (n:Int)=true then [(n:Int)] else []))=sumN n _+(if (hasO l (n:Int)&&pk0 x n)=true then loadO x n d else 0)
  rw [Qot,QzM d n]
  by_cases hh:hasO l (n:Int)=true
  ·rw [if_pos hh,Qou,hh,Bool.true_and]; rfl
  ·rw [if_neg hh,Qx7,if_neg (by simp [hh])]
theorem Qy8 (hx:QbQ x) (h:SeqOK x l) {s:Int} (hs:SetOf l s):Ql8 x s (QdD x.types:Int)=some (vecN (QdD x.types) (loadK x l 0)):=by
 obtain ⟨hd1,hd3⟩:=Qu4 hx
 have hx10:=hx.orders
 have hm:=Quo (l:=l) 63
 unfold Ql8
 have hz:mkI (QdD x.types:Int) (QdD x.types:Int) 8 (0:Int)=some (vecN (QdD x.types) fun d=>0):=by
  unfold mkI
  rw [if_pos (by omega)]
  congr 1
  refine List.ext_getElem? fun i=>?_
  rcases Nat.lt_or_ge i (QdD x.types) with h|h
  ·rw [Qhx h]; simp [h]
  ·rw [List.getElem?_eq_none (by simp; omega),List.getElem?_eq_none (by rw [Qe2]; omega)]
 rw [hz,Qah,Qwp hs,Qah]
 have hmem:∀ i∈memN l 63,∃ k:Nat,i=k∧k<63∧hasO l (k:Int)=true:=fun i hi=>Qxv hi
 have hsum:∀ d,sumF (stO x d) (memN l 63)=sumN 63 fun i=>if (hasO l (i:Int)&&pk0 x i)=true then loadO x i d else 0:=fun d=>QzM d 63
 generalize memN l 63=M at *
 have this:loopF (fun q:List Int×Int=>Qdr x (vecN (QdD x.types) fun d=>0) M q.1 q.2) (vecN (QdD x.types) (fun d=>0),0)=some (vecN (QdD x.types) fun d=>sumF (stO x d) M):=by
  have:=Qd8 M.length (fun k=>(vecN (QdD x.types) (fun d=>sumF (stO x d) (M.take k)),(k:Int))) (B:=fun q:List Int×Int=>Qdr x (vecN (QdD x.types) fun d=>0) M q.1 q.2) (e:=vecN (QdD x.types) fun d=>sumF (stO x d) M) (by omega) (fun k hk=>by
   have e:M[k]?=some M[k]:=List.getElem?_eq_getElem hk
   obtain ⟨i,hi,_,hh⟩:=hmem _ (List.getElem_mem hk)
   rw [hi] at e
   have hil:=QBj h hh
   obtain ⟨o,eo,hmo,ho,hb,hp⟩:=QxA hx (show i<x.orders.length by omega)
   show Qdr x (vecN (QdD x.types) fun d=>0) M (vecN (QdD x.types) (fun d=>sumF (stO x d) (M.take k))) (k:Int)=some (Sum.inl (vecN (QdD x.types) (fun d=>sumF (stO x d) (M.take (k+1))),((k+1:Nat):Int)))
   unfold Qdr
   rw [Qb1 e,QaU eo,Qah,incL e (by omega),ho]
   have step:∀ d,sumF (stO x d) (M.take (k+1))=sumF (stO x d) (M.take k)+stO x d (i:Int):=fun d=>QoL e
   have sb:∀ d,0≤sumF (stO x d) (M.take k)∧sumF (stO x d) (M.take k)≤1000*(M.take k).length:=fun d=>QsB fun a _=>QCa hx d a
   have hlt:(M.take k).length≤63:=by rw [List.length_take]; omega
   have hst:∀ d,stO x d (i:Int)=if o.pick.place<0 then loadO x i d else 0:=fun d=>by
    unfold stO
    rw [Int.toNat_natCast,hp]
    simp
   by_cases hpl:o.pick.place<0
   ·rw [Qbc (by simpa using hpl),QAX hd3 (fun d _=>by have:=sb d; omega) (fun d _=>by have:=hb d; omega),Qah]
    congr 3
    exact Qfm fun d _=>by rw [step,hst,if_pos hpl]
   ·rw [QaY (by simp; omega)]
    congr 3
    exact Qfm fun d _=>by rw [step,hst,if_neg hpl]; omega) (by
   show Qdr x (vecN (QdD x.types) fun d=>0) M (vecN (QdD x.types) (fun d=>sumF (stO x d) (M.take M.length))) (M.length:Int)=_
   unfold Qdr
   rw [Qbu,List.take_length])
  exact this
 rw [Qc9 this]
 congr 1
 refine Qfm fun d _=>?_
 rw [hsum,QvH (n:=x.orders.length) 63 (by omega) fun i hi=>by
  rw [if_neg]
  intro hh
  rw [Bool.and_eq_true] at hh
  have:=QBj h hh.1
  omega]
 unfold loadK incl
 rfl
def QgC (x:Qac) (l:List Qab) (n:Nat):List (List Int):=(List.range n).map fun k=>vecN (QdD x.types) (loadK x l k)
theorem QrB {n:Nat}:(QgC x l n).length=n:=by simp [QgC]
theorem Qsu {n:Nat}:QgC x l (n+1)=QgC x l n++[vecN (QdD x.types) (loadK x l n)]:=by simp [QgC,List.range_succ]
theorem QzQ (hx:QbQ x) (hl:r.visits.length≤1048576) (h:SeqOK x r.visits) (h0:seqS x r.visits=0):Ql7 x r=some (QgC x r.visits (r.visits.length+1),0):=by
 obtain ⟨hd1,hd3⟩:=Qu4 hx
 have hx10:=hx.orders
 unfold Ql7
 rw [Qwl hx hl,Qah,h0,QaY (by decide)]
 obtain ⟨s,hs,hs0,hset⟩:=Qsl hx hl h.inn
 rw [hs,Qah,hs0,QaY (by decide),(QwO hx).1,Qah,Qy8 hx h hset,Qah]
 have this:loopF (fun q:List (List Int)×List Int×Int=>Qdq x r q.1 q.2.1 q.2.2) ([vecN (QdD x.types) (loadK x r.visits 0)],vecN (QdD x.types) (loadK x r.visits 0),0)=some (.inl (QgC x r.visits (r.visits.length+1))):=by
  have:=Qd8 r.visits.length (fun k=>(QgC x r.visits (k+1),vecN (QdD x.types) (loadK x r.visits k),(k:Int))) (B:=fun q:List (List Int)×List Int×Int=>Qdq x r q.1 q.2.1 q.2.2) (e:=.inl (QgC x r.visits (r.visits.length+1))) (by omega) (fun k hk=>by
   have e:r.visits[k]?=some r.visits[k]:=List.getElem?_eq_getElem hk
   have hin:=QmL h.inn (List.getElem_mem hk)
   generalize r.visits[k]=v at e hin
   obtain ⟨i,hi⟩:∃ i:Nat,v.order=i:=⟨v.order.toNat,by omega⟩
   obtain ⟨o,eo,hmo,ho,hb,hp⟩:=QxA hx (show i<x.orders.length by omega)
   have hst:=Qxn hx h e hi
   have hk0:=fun d=>QAt (l:=r.visits) hx k d
   show Qdq x r (QgC x r.visits (k+1)) (vecN (QdD x.types) (loadK x r.visits k)) (k:Int)=some (Sum.inl (QgC x r.visits (k+1+1),vecN (QdD x.types) (loadK x r.visits (k+1)),((k+1:Nat):Int)))
   unfold Qdq
   have ok:okN (QgC x r.visits (k+1)++[vecN (QdD x.types) (loadK x r.visits (k+1))]).length 24:=by unfold okN; simp [QrB]; omega
   rw [Qb1 e,hi,QaU eo,Qah,Qah,incL e hl,ho,Qsu (n:=k+1)]
   cases hd:v.drop with
   | true =>
    rw [Qir,QBP hd3 (fun d _=>by have:=hk0 d; omega) (fun d _=>by have:=hb d; omega),Qah,QwB]
    have ev:vecN (QdD x.types) (fun d=>loadK x r.visits k d-loadO x i d)=vecN (QdD x.types) (loadK x r.visits (k+1)):=Qfm fun d _=>by rw [hst,if_pos hd]
    simp only [ev]
    rw [Qf7 ok]
    rfl
   | false =>
    rw [QhY,QAX hd3 (fun d _=>by have:=hk0 d; omega) (fun d _=>by have:=hb d; omega),Qah,QwB]
    have ev:vecN (QdD x.types) (fun d=>loadK x r.visits k d+loadO x i d)=vecN (QdD x.types) (loadK x r.visits (k+1)):=Qfm fun d _=>by rw [hst,if_neg (by rw [hd]; decide)]
    simp only [ev]
    rw [Qf7 ok]
    rfl) (by
   show Qdq x r (QgC x r.visits (r.visits.length+1)) (vecN (QdD x.types) (loadK x r.visits r.visits.length)) (r.visits.length:Int)=_
   unfold Qdq
   rw [Qbu])
  exact this
 rw [Qc9 this]
 rfl
def ldN (x:Qac) (l:List Qab) (n:Nat):Nat→List (List Int)
 | 0=>[]
 | i+1=>ldN x l n i++(if (onK x (l.take n) i&&hasO l (i:Int))=true then [vecN (QdD x.types) (loadO x i)] else [])
theorem Qxl {n:Nat}:∀ i,(ldN x l n i).length≤i
 | 0=>Nat.le_refl 0
 | i+1=>by have:=Qxl (n:=n) i; unfold ldN; split <;> simp <;> omega
theorem Qxm {n:Nat} {a:List Int}:∀ {i},a∈ldN x l n i→∃ j,a=vecN (QdD x.types) (loadO x j)
 | 0,h=>by cases h
 | i+1,h=>by
  unfold ldN at h
  rcases List.mem_append.1 h with h|h
  ·exact Qxm h
  ·split at h
   ·exact ⟨i,List.mem_singleton.1 h⟩
   ·cases h
theorem Qzy {n d:Nat} (hd:d<QdD x.types):∀ i,sumF (fun a:List Int=>a.getD d 0) (ldN x l n i)=sumN i fun j=>incl x l n j d
 | 0=>rfl
 | i+1=>by
  show sumF (fun a:List Int=>a.getD d 0) (ldN x l n i++(if (onK x (l.take n) i&&hasO l (i:Int))=true then [vecN (QdD x.types) (loadO x i)] else []))=sumN i _+(if (hasO l (i:Int)&&onK x (l.take n) i)=true then loadO x i d else 0)
  rw [Qot,Qzy hd i,Bool.and_comm]
  split
  ·rw [Qou,List.getD_eq_getElem?_getD,Qhx hd]; rfl
  ·rw [Qx7]
theorem QAP {D:Nat} (hD:D≤3) {m:List (List Int)} (hm:m.length≤1000) (hl:∀ a∈m,a.length=D) (hb:∀ a∈m,∀ d,0≤a.getD d 0∧a.getD d 0≤1000):QmP m (D:Int)=some (vecN D fun d=>sumF (fun a=>a.getD d 0) m,0):=by
 have even:QlW m (D:Int)=some true:=by
  unfold QlW
  rw [QaY (by simp; omega),Qc9 (Qij (B:=fun s=>QeA m (D:Int) s) (l:=m) (by omega) (fun a=>neI (lenI a) (D:Int)) (y:=(.inr false:Unit⊕Bool)) (N:=.inl ()) (fun i a h=>by
   show QeA m (D:Int) i=_
   unfold QeA
   rw [Qb1 h,incL h (by omega),brs]) (by
   show QeA m (D:Int) m.length=_
   unfold QeA
   rw [Qbu]))]
  rw [if_neg]
  ·rfl
  ·rw [List.any_eq_true]
   rintro ⟨a,ha,h⟩
   rw [neI_t,lenI,hl a ha] at h
   exact h rfl
 unfold QmP
 rw [even,Qah,Qir]
 have this:loopF (fun q:List Int×Int=>Qd9 m (D:Int) q.1 q.2) ([],0)=some (vecN D fun d=>sumF (fun a=>a.getD d 0) m):=by
  have:=Qd8 D (fun k=>(vecN k (fun d=>sumF (fun a=>a.getD d 0) m),(k:Int))) (B:=fun q:List Int×Int=>Qd9 m (D:Int) q.1 q.2) (e:=vecN D fun d=>sumF (fun a=>a.getD d 0) m) (by omega) (fun k hk=>by
   show Qd9 m (D:Int) (vecN k (fun d=>sumF (fun a=>a.getD d 0) m)) (k:Int)=some (Sum.inl (vecN (k+1) (fun d=>sumF (fun a=>a.getD d 0) m),((k+1:Nat):Int)))
   unfold Qd9
   rw [Qbc (by simp; omega)]
   have inner:loopF (fun q:Int×Int=>Qea m (D:Int) (vecN k (fun d=>sumF (fun a=>a.getD d 0) m)) (k:Int) q.1 q.2) (0,0)=some (sumF (fun a=>a.getD k 0) m):=by
    have:=Qd8 m.length (fun j=>(sumF (fun a:List Int=>a.getD k 0) (m.take j),(j:Int))) (B:=fun q:Int×Int=>Qea m (D:Int) (vecN k (fun d=>sumF (fun a=>a.getD d 0) m)) (k:Int) q.1 q.2) (e:=sumF (fun a=>a.getD k 0) m) (by omega) (fun j hj=>by
     have e:m[j]?=some m[j]:=List.getElem?_eq_getElem hj
     have hmj:=List.getElem_mem hj
     generalize m[j]=a at e hmj
     have ha:=hl a hmj
     have hab:=hb a hmj k
     have e2:a[k]?=some (a.getD k 0):=by rw [List.getD_eq_getElem?_getD,List.getElem?_eq_getElem (show k<a.length by omega)]; rfl
     have sb:=QsB (f:=fun a:List Int=>a.getD k 0) (l:=m.take j) fun c hc=>hb c (List.mem_of_mem_take hc) k
     have hlt:(m.take j).length≤1000:=by rw [List.length_take]; omega
     show Qea m (D:Int) (vecN k (fun d=>sumF (fun a=>a.getD d 0) m)) (k:Int) (sumF (fun a:List Int=>a.getD k 0) (m.take j)) (j:Int)=some (Sum.inl (sumF (fun a:List Int=>a.getD k 0) (m.take (j+1)),((j+1:Nat):Int)))
     unfold Qea
     rw [Qb1 e,QaU e2,Qah,incL e (by omega),addI (by omega) (by omega),QoL e]
     rfl) (by
     show Qea m (D:Int) (vecN k (fun d=>sumF (fun a=>a.getD d 0) m)) (k:Int) (sumF (fun a:List Int=>a.getD k 0) (m.take m.length)) (m.length:Int)=_
     unfold Qea
     rw [Qbu,List.take_length])
    exact this
   have ev:vecN (k+1) (fun d=>sumF (fun a:List Int=>a.getD d 0) m)=vecN k (fun d=>sumF (fun a:List Int=>a.getD d 0) m)++[sumF (fun a:List Int=>a.getD k 0) m]:=by simp [vecN,List.range_succ]
   rw [Qc9 inner,Qf7 (by unfold okN; simp [Qe2]; omega),addI (by omega) (by omega),ev]
   rfl) (by
   show Qd9 m (D:Int) (vecN D (fun d=>sumF (fun a=>a.getD d 0) m)) (D:Int)=_
   unfold Qd9
   rw [QaY (by simp)])
  exact this
 rw [Qc9 this]
theorem Qyj (hx:QbQ x) (hl:l.length≤1048576) {n:Nat} (hn:n≤l.length):Qk6 x l (n:Int)=some (vecN (QdD x.types) (loadK x l n),0):=by
 obtain ⟨hd1,hd3⟩:=Qu4 hx
 have hx10:=hx.orders
 unfold Qk6
 have this:loopF (fun q:List (List Int)×Int=>Qc1 x l (n:Int) q.1 q.2) ([],0)=some (ldN x l n x.orders.length):=by
  have:=Qd8 x.orders.length (fun k=>(ldN x l n k,(k:Int))) (B:=fun q:List (List Int)×Int=>Qc1 x l (n:Int) q.1 q.2) (e:=ldN x l n x.orders.length) (by omega) (fun i hi=>by
   obtain ⟨o,eo,hmo,ho,hb,hp⟩:=QxA hx hi
   show Qc1 x l (n:Int) (ldN x l n i) (i:Int)=some (Sum.inl (ldN x l n (i+1),((i+1:Nat):Int)))
   unfold Qc1
   rw [Qb1 eo]
   have inner:loopF (fun q:Bool×Bool×Int=>Qc2 x l (n:Int) (ldN x l n i) (i:Int) q.1 q.2.1 q.2.2) (ltI o.pick.place 0,false,0)=some (onK x (l.take n) i,hasO l (i:Int)):=by
    have:=Qd8 l.length (fun k=>(onK x (l.take (min k n)) i,hasO (l.take k) (i:Int),(k:Int))) (B:=fun q:Bool×Bool×Int=>Qc2 x l (n:Int) (ldN x l n i) (i:Int) q.1 q.2.1 q.2.2) (e:=(onK x (l.take n) i,hasO l (i:Int))) (by omega) (fun k hk=>by
     have e:l[k]?=some l[k]:=List.getElem?_eq_getElem hk
     generalize l[k]=v at e
     show Qc2 x l (n:Int) (ldN x l n i) (i:Int) (onK x (l.take (min k n)) i) (hasO (l.take k) (i:Int)) (k:Int)=some (Sum.inl (onK x (l.take (min (k+1) n)) i,hasO (l.take (k+1)) (i:Int),((k+1:Nat):Int)))
     unfold Qc2
     have hh:hasO (l.take (k+1)) (i:Int)=(hasO (l.take k) (i:Int)||isO (i:Int) v):=by rw [take_one e]; simp [hasO]
     rw [Qb1 e,incL e hl,hh]
     by_cases hv:v.order=(i:Int)
     ·rw [QaY (by simpa using hv),isO_t.2 hv,Bool.or_true]
      by_cases hkn:k<n
      ·rw [Qbc (by simpa using hkn),show min (k+1) n=k+1 by omega,QsY e,if_pos hv]
       rfl
      ·rw [QaY (by simp; omega),show min (k+1) n=min k n by omega]
       rfl
     ·have hvf:isO (i:Int) v=false:=by
       rw [Bool.eq_false_iff]
       exact fun h=>hv (isO_t.1 h)
      rw [Qbc (by simpa using hv),hvf,Bool.or_false]
      by_cases hkn:k<n
      ·rw [show min (k+1) n=k+1 by omega,QsY e,if_neg hv,show min k n=k by omega]
       rfl
      ·rw [show min (k+1) n=min k n by omega]
       rfl) (by
     show Qc2 x l (n:Int) (ldN x l n i) (i:Int) (onK x (l.take (min l.length n)) i) (hasO (l.take l.length) (i:Int)) (l.length:Int)=_
     unfold Qc2
     rw [Qbu,List.take_length,show min l.length n=n by omega])
    have h0:(onK x (l.take (min 0 n)) i,hasO (l.take 0) (i:Int),((0:Nat):Int))=(ltI o.pick.place 0,false,0):=by
     rw [Nat.zero_min,List.take_zero]
     unfold onK hasO
     rw [List.foldl_nil,hp]
     congr 1
    rw [← h0]
    exact this
   rw [Qc9 inner]
   simp only
   rw [QaU eo,Qah,ho,incL eo (by omega)]
   have hlen:=Qxl (x:=x) (l:=l) (n:=n) i
   rw [Qf7 (by unfold okN; simp; omega),brs]
   show _=some (Sum.inl (ldN x l n i++(if (onK x (l.take n) i&&hasO l (i:Int))=true then [vecN (QdD x.types) (loadO x i)] else []),((i+1:Nat):Int)))
   split <;> simp) (by
   show Qc1 x l (n:Int) (ldN x l n x.orders.length) (x.orders.length:Int)=_
   unfold Qc1
   rw [Qbu])
  exact this
 rw [Qc9 this,(QwO hx).2,Qah]
 have hlen:=Qxl (x:=x) (l:=l) (n:=n) x.orders.length
 rw [QAP hd3 (by omega) (fun a ha=>by obtain ⟨j,rfl⟩:=Qxm ha; exact Qe2) (fun a ha d=>by
  obtain ⟨j,rfl⟩:=Qxm ha
  rw [List.getD_eq_getElem?_getD]
  rcases Nat.lt_or_ge d (QdD x.types) with h|h
  ·rw [Qhx h]; exact Qum hx j d
  ·rw [List.getElem?_eq_none (by rw [Qe2]; omega)]; simp),Qah]
 congr 2
 exact Qfm fun d hd=>Qzy hd _
theorem Qwo (hx:QbQ x) (hl:r.visits.length≤1048576) (h0:seqS x r.visits=0):Qk5 x r=some (QgC x r.visits (r.visits.length+1),0):=by
 unfold Qk5
 rw [Qtg hx hl,Qah,h0,QaY (by decide)]
 have this:loopF (fun q:List (List Int)×Int=>Qc0 x r q.1 q.2) ([],0)=some (.inl (QgC x r.visits (r.visits.length+1))):=by
  have:=Qd8 (r.visits.length+1) (fun k=>(QgC x r.visits k,(k:Int))) (B:=fun q:List (List Int)×Int=>Qc0 x r q.1 q.2) (e:=.inl (QgC x r.visits (r.visits.length+1))) (by omega) (fun k hk=>by
   show Qc0 x r (QgC x r.visits k) (k:Int)=some (Sum.inl (QgC x r.visits (k+1),((k+1:Nat):Int)))
   unfold Qc0
   rw [Qbc (by simp [lenI]; omega),Qyj hx hl (by omega),Qah,QwB,Qf7 (by unfold okN; simp [QrB]; omega),addI (by omega) (by omega),Qsu]
   rfl) (by
   show Qc0 x r (QgC x r.visits (r.visits.length+1)) ((r.visits.length+1:Nat):Int)=_
   unfold Qc0
   rw [QaY (by simp [lenI]; omega)])
  exact this
 rw [Qc9 this]
 rfl
def overB (cap a:List Int):Bool:=(List.range a.length).any fun i=>gtI (a.getD i 0) (cap.getD i 0)
theorem Qzq {a cap:List Int} (ha:a.length=cap.length) (hl:a.length≤1048576):QnR a cap=some (!overB cap a)∧QlV a cap=some (!overB cap a):=by
 have g:∀ i,i<a.length→a[i]?=some (a.getD i 0)∧cap[i]?=some (cap.getD i 0):=fun i hi=>by
  rw [List.getD_eq_getElem?_getD,List.getD_eq_getElem?_getD,List.getElem?_eq_getElem hi,List.getElem?_eq_getElem (show i<cap.length by omega)]
  exact ⟨rfl,rfl⟩
 have hb:overB cap a=true↔∃ k,k<a.length∧gtI (a.getD k 0) (cap.getD k 0)=true:=by
  unfold overB
  rw [List.any_eq_true]
  exact ⟨fun ⟨k,hk,h⟩=>⟨k,List.mem_range.1 hk,h⟩,fun ⟨k,hk,h⟩=>⟨k,List.mem_range.2 hk,h⟩⟩
 constructor
 ·unfold QnR
  rw [QaY (by simp [lenI,ha]),Qc9 (QtT (B:=fun s=>Qe9 a cap s) hl (fun k=>gtI (a.getD k 0) (cap.getD k 0)) (y:=(.inr false:Unit⊕Bool)) (N:=.inl ()) hb (fun i hi=>by
   show Qe9 a cap i=_
   unfold Qe9
   rw [Qb1 (g i hi).1,QaU (g i hi).2,Qah,inc hi hl,brs]) (by
   show Qe9 a cap a.length=_
   unfold Qe9
   rw [Qbu]))]
  cases overB cap a <;> rfl
 ·unfold QlV
  rw [QaY (by simp [lenI,ha]),Qc9 (QtT (B:=fun s=>Qez a cap s) hl (fun k=>gtI (a.getD k 0) (cap.getD k 0)) (y:=(.inr false:Unit⊕Bool)) (N:=.inl ()) hb (fun i hi=>by
   show Qez a cap i=_
   unfold Qez
   rw [Qb1 (g i hi).1,QaU (g i hi).2,Qah,inc hi hl,brs]) (by
   show Qez a cap a.length=_
   unfold Qez
   rw [Qbu]))]
  cases overB cap a <;> rfl
def fitS (x:Qac) (r:Qad):Int:=if (QgC x r.visits (r.visits.length+1)).any (overB (typS x r).cap)=true then 17 else 0
theorem QuL (h0:0≤r.type_) (h1:r.type_<x.types.length):getI x.types r.type_=some (typS x r)∧typS x r∈x.types:=by
 have e:x.types[r.type_.toNat]?=some (x.types[r.type_.toNat]'(by omega)):=List.getElem?_eq_getElem _
 have ht:typS x r=x.types[r.type_.toNat]'(by omega):=by unfold typS; rw [List.getD_eq_getElem?_getD,e]; rfl
 rw [ht]
 exact ⟨Qrs h0 h1,List.getElem_mem _⟩
theorem QAZ (hx:QbQ x) (hl:r.visits.length≤1000000) (h0:seqS x r.visits=0) (ht:0≤r.type_∧r.type_<x.types.length):Qnx x r=some (fitS x r)∧QlZ x r=some (fitS x r):=by
 have h:=QtU h0
 obtain ⟨t1,t2⟩:=QuL ht.1 ht.2
 have hcap:=(hx.typ _ t2).cap
 have hd:=Qu4 hx
 have lens:∀ a∈QgC x r.visits (r.visits.length+1),a.length=(typS x r).cap.length:=fun a ha=>by
  obtain ⟨k,_,rfl⟩:=List.mem_map.1 ha
  rw [Qe2,hcap]
 have hlen:=QrB (x:=x) (l:=r.visits) (n:=r.visits.length+1)
 constructor
 ·unfold Qnx
  rw [QaY (by simp [lenI]; omega),QzQ hx (by omega) h h0,Qah,QwB]
  have:=Qpe (B:=fun s=>QaJ (QgC x r.visits (r.visits.length+1)) x r s) (l:=QgC x r.visits (r.visits.length+1)) (by omega) (overB (typS x r).cap) (fun k=>(.inr (k:Int):Unit⊕Int)) (N:=.inl ()) (fun i a h=>by
   have hm:=lens a (List.mem_of_getElem? h)
   show QaJ (QgC x r.visits (r.visits.length+1)) x r i=_
   unfold QaJ QmH
   rw [Qb1 h,t1,Qah,(Qzq hm (by omega)).1,Qah,Qah,incL h (by omega),Bool.not_not,brs]) (by
   show QaJ (QgC x r.visits (r.visits.length+1)) x r (QgC x r.visits (r.visits.length+1)).length=_
   unfold QaJ
   rw [Qbu])
  have e:Qbw (QgC x r.visits (r.visits.length+1)) x r=some (ixI (overB (typS x r).cap) (QgC x r.visits (r.visits.length+1))):=by
   unfold Qbw
   rw [Qc9 this]
   unfold ixI
   cases ixP (overB (typS x r).cap) (QgC x r.visits (r.visits.length+1)) <;> rfl
  unfold QbH
  simp only
  rw [e,Qah,Qah,Qm3,brs]
  rfl
 ·unfold QlZ
  rw [QaY (by simp [lenI]; omega),Qwo hx (by omega) h0,Qah,QwB]
  rw [Qc9 (Qij (B:=fun s=>QeC x r (QgC x r.visits (r.visits.length+1),0) s) (l:=QgC x r.visits (r.visits.length+1)) (by omega) (overB (typS x r).cap) (y:=(.inr 17:Unit⊕Int)) (N:=.inl ()) (fun i a h=>by
   have hm:=lens a (List.mem_of_getElem? h)
   show QeC x r (QgC x r.visits (r.visits.length+1),0) i=_
   unfold QeC
   rw [Qb1 h,t1,Qah,(Qzq hm (by omega)).2,Qah,incL h (by omega)]
   cases overB (typS x r).cap a <;> rfl) (by
   show QeC x r (QgC x r.visits (r.visits.length+1),0) (QgC x r.visits (r.visits.length+1)).length=_
   unfold QeC
   rw [Qbu]))]
  unfold fitS
  split <;> rfl
end
end Go.Proofs.YtpkkaboonnedfaaGreatDoor
namespace Go.Proofs.YtpkkaboonnedfaaGreatDoor
set_option linter.unusedSimpArgs false
set_option linter.unusedVariables false
set_option linter.unusedSectionVars false
theorem QAy {m:List (Int×Int)} {k k' v z:Int}:mGet eqI (mPut eqI m k v) k' z=if k'=k then v else mGet eqI m k' z:=by
 induction m with
 | nil =>
  unfold mPut mGet mGet
  by_cases h:k'=k
  ·rw [if_pos h,show eqI k' k=true by simpa using h]; rfl
  ·rw [if_neg h,show eqI k' k=false by simpa using h]; rfl
 | cons p r ih =>
  unfold mPut
  cases hp:eqI k p.1 with
  | true =>
   have hp':k=p.1:=by simpa using hp
   simp only [cond_true]
   unfold mGet
   by_cases h:k'=k
   ·rw [if_pos h,show eqI k' k=true by simpa using h]; rfl
   ·rw [if_neg h,show eqI k' k=false by simpa using h,show eqI k' p.1=false by rw [← hp']; simpa using h]; rfl
  | false =>
   have hp':k≠p.1:=by simpa using hp
   simp only [cond_false]
   unfold mGet
   rw [ih]
   by_cases h:k'=k
   ·rw [if_pos h,show eqI k' p.1=false by rw [h]; exact hp,if_pos h]; rfl
   ·rw [if_neg h,if_neg h]
section
variable {x : Qac} {l : List Qab} {r : Qad} {s0 : Qap}
def cntV (l:List Qab) (o:Int):Int:=sumF (fun v:Qab=>if v.order=o then 1 else 0) l
theorem QwI {o:Int}:0≤cntV l o∧cntV l o≤l.length∧(0<cntV l o↔hasO l o=true):=by
 induction l with
 | nil=>simp [cntV,sumF,hasO]
 | cons v l ih =>
  have e:cntV (v :: l) o=(if v.order=o then 1 else 0)+cntV l o:=by simp [cntV,sumF]
  have e2:hasO (v :: l) o=(isO o v||hasO l o):=by simp [hasO]
  rw [e,e2,List.length_cons,Bool.or_eq_true,isO_t]
  split
  ·rename_i h
   refine ⟨by omega,by omega,fun _=>.inl h,fun _=>by omega⟩
  ·rename_i h
   refine ⟨by omega,by omega,fun h'=>.inr (ih.2.2.1 (by omega)),fun h'=>?_⟩
   rcases h' with h'|h'
   ·exact absurd h' h
   ·have:=ih.2.2.2 h'; omega
def mapK (l:List Qab):List (Int×Int):=l.foldl (fun m v=>mPut eqI m v.order (addK .i64 (mGet eqI m v.order 0) 1)) []
theorem Qvj {v:Qab}:mapK (l++[v])=mPut eqI (mapK l) v.order (addK .i64 (mGet eqI (mapK l) v.order 0) 1):=by simp [mapK]
theorem QAz {l:List Qab} (hl:l.length≤1048576) (o:Int):mGet eqI (mapK l) o 0=cntV l o:=by
 have main:∀ k,k≤l.length→mGet eqI (mapK (l.take k)) o 0=cntV (l.take k) o:=by
  intro k hk
  induction k generalizing o with
  | zero=>rfl
  | succ k ih =>
   have e:l[k]?=some l[k]:=List.getElem?_eq_getElem (by omega)
   generalize l[k]=v at e
   rw [take_one e,Qvj,QAy]
   have e2:cntV (l.take k++[v]) o=cntV (l.take k) o+(if v.order=o then 1 else 0):=by unfold cntV; rw [Qot,Qou]
   have hb:=(QwI (l:=l.take k) (o:=v.order)).2.1
   have hb0:=(QwI (l:=l.take k) (o:=v.order)).1
   have hlen:(l.take k).length≤k:=by rw [List.length_take]; omega
   rw [e2,ih v.order (by omega),ih o (by omega),addI (by omega) (by omega)]
   by_cases h:o=v.order
   ·rw [if_pos h,if_pos h.symm,h]
   ·rw [if_neg h,if_neg fun h'=>h h'.symm]; omega
 have:=main l.length (Nat.le_refl _)
 rwa [List.take_length] at this
def forB (kind own:Int):Bool:=neI kind (-1)&&neI kind own
def bit1 (b:Bool):Int:=if b=true then 1 else 0
def pairK (x:Qac) (r:Qad):Nat→Int×Int
 | 0=>(0,0)
 | k+1=>match r.visits[k]? with
  | none=>pairK x r k
  | some v=>match (if 0≤v.order then x.orders[v.order.toNat]? else none) with
   | none=>pairK x r k
   | some o=>if hasO (r.visits.take k) v.order=true then pairK x r k else ((pairK x r k).1+bit1 (forB o.now r.type_),(pairK x r k).2+bit1 (forB o.last_ r.type_))
theorem Qi6 {b:Bool}:0≤bit1 b∧bit1 b≤1:=by cases b <;> simp [bit1]
theorem Qs0:∀ k,(0≤(pairK x r k).1∧(pairK x r k).1≤k)∧(0≤(pairK x r k).2∧(pairK x r k).2≤k)
 | 0=>by simp [pairK]
 | k+1=>by
  have ih:=Qs0 k
  unfold pairK
  split
  ·omega
  ·split
   ·omega
   ·rename_i o _
    have h1:=Qi6 (b:=forB o.now r.type_)
    have h2:=Qi6 (b:=forB o.last_ r.type_)
    split
    ·omega
    ·simp only; omega
theorem Qvr (hx:QbQ x):∀ k,k≤r.visits.length→(pairK x r k).1≤sumN x.orders.length (fun i=>bit1 (hasO (r.visits.take k) (i:Int)))∧(pairK x r k).2≤sumN x.orders.length (fun i=>bit1 (hasO (r.visits.take k) (i:Int)))
 | 0,_=>by
  have:=(QvG (f:=fun i=>bit1 (hasO (r.visits.take 0) (i:Int))) (c:=1) (by omega) x.orders.length fun i=>Qi6).1
  simp only [pairK]
  omega
 | k+1,hk=>by
  have ih:=Qvr hx k (by omega)
  have e:r.visits[k]?=some r.visits[k]:=List.getElem?_eq_getElem (by omega)
  generalize r.visits[k]=v at e
  have hh:∀ i:Nat,hasO (r.visits.take (k+1)) (i:Int)=(hasO (r.visits.take k) (i:Int)||isO (i:Int) v):=fun i=>by rw [take_one e]; simp [hasO]
  have mono:sumN x.orders.length (fun i=>bit1 (hasO (r.visits.take k) (i:Int)))≤sumN x.orders.length (fun i=>bit1 (hasO (r.visits.take (k+1)) (i:Int))):=by
   generalize x.orders.length=n
   induction n with
   | zero=>exact Int.le_refl _
   | succ n ihn =>
    show sumN n (fun i=>bit1 (hasO (r.visits.take k) (i:Int)))+bit1 (hasO (r.visits.take k) (n:Int))≤sumN n (fun i=>bit1 (hasO (r.visits.take (k+1)) (i:Int)))+bit1 (hasO (r.visits.take (k+1)) (n:Int))
    have:=hh n
    have h2:bit1 (hasO (r.visits.take k) (n:Int))≤bit1 (hasO (r.visits.take (k+1)) (n:Int)):=by
     rw [this]
     cases hasO (r.visits.take k) (n:Int) <;> cases isO (n:Int) v <;> simp [bit1]
    omega
  unfold pairK
  rw [e]
  simp only
  split
  ·omega
  ·rename_i o ho
   split at ho
   ·rename_i h0
    have hlt:=(List.getElem?_eq_some_iff.1 ho).1
    have h1:=Qi6 (b:=forB o.now r.type_)
    have h2:=Qi6 (b:=forB o.last_ r.type_)
    split
    ·omega
    ·rename_i hn
     obtain ⟨i,hi⟩:∃ i:Nat,v.order=i:=⟨v.order.toNat,by omega⟩
     rw [hi] at hn hlt
     have up:=QuK (f:=fun i=>bit1 (hasO (r.visits.take k) (i:Int))) (g:=fun i=>bit1 (hasO (r.visits.take (k+1)) (i:Int))) (o:=i) x.orders.length (by omega) (fun j hj=>by
      have hjf:isO (j:Int) v=false:=by
       rw [Bool.eq_false_iff]
       intro h
       have:=isO_t.1 h
       omega
      show bit1 (hasO (r.visits.take (k+1)) (j:Int))=bit1 (hasO (r.visits.take k) (j:Int))
      rw [hh,hjf,Bool.or_false])
     rw [up]
     have e1:bit1 (hasO (r.visits.take (k+1)) (i:Int))=1:=by rw [hh,isO_t.2 hi,Bool.or_true]; rfl
     have e2:bit1 (hasO (r.visits.take k) (i:Int))=0:=by rw [Bool.eq_false_iff.2 hn]; rfl
     rw [e1,e2]
     omega
   ·cases ho
def scoS (x:Qac) (r:Qad) (s0:Qap):QaG :=
 QaG.mk (addK .i64 (addK .i64 (typS x r).fixed (mulK .i64 (typS x r).perMile s0.miles)) (mulK .i64 (typS x r).perTick (subK .i64 s0.end_ (typS x r).open_))) (pairK x r r.visits.length).1 (pairK x r r.visits.length).2 (mulK .i64 (quoK .i64 (subK .i64 s0.end_ (typS x r).open_) 64) (quoK .i64 (subK .i64 s0.end_ (typS x r).open_) 64))
theorem QzR (hx:QbQ x) (hl:r.visits.length≤1048576) (ht:0≤r.type_∧r.type_<x.types.length):Qmx x r s0=some (scoS x r s0):=by
 obtain ⟨t1,t2⟩:=QuL ht.1 ht.2
 have h10:=hx.orders
 unfold Qmx
 rw [QaY (by simp [lenI]; omega),t1,Qah]
 have this:loopF (fun q:List (Int×Int)×Int×Int×Int=>QdB x r s0 (typS x r) q.1 q.2.1 q.2.2.1 q.2.2.2) ([],0,0,0)=some (pairK x r r.visits.length):=by
  have:=Qd8 r.visits.length (fun k=>(mapK (r.visits.take k),(pairK x r k).1,(pairK x r k).2,(k:Int))) (B:=fun q:List (Int×Int)×Int×Int×Int=>QdB x r s0 (typS x r) q.1 q.2.1 q.2.2.1 q.2.2.2) (e:=pairK x r r.visits.length) (by omega) (fun k hk=>by
   have e:r.visits[k]?=some r.visits[k]:=List.getElem?_eq_getElem hk
   generalize r.visits[k]=v at e
   show QdB x r s0 (typS x r) (mapK (r.visits.take k)) (pairK x r k).1 (pairK x r k).2 (k:Int)=some (Sum.inl (mapK (r.visits.take (k+1)),(pairK x r (k+1)).1,(pairK x r (k+1)).2,((k+1:Nat):Int)))
   unfold QdB Qih QjN
   rw [Qb1 e,← Qvj,← take_one e,incL e hl]
   have hlen:(r.visits.take k).length≤1048576:=by rw [List.length_take]; omega
   have hlen1:(r.visits.take (k+1)).length≤1048576:=by rw [List.length_take]; omega
   have hp:=Qs0 (x:=x) (r:=r) k
   have hg:gtI (mGet eqI (mapK (r.visits.take (k+1))) v.order 0) 1=hasO (r.visits.take k) v.order:=by
    rw [QAz hlen1,take_one e]
    have e2:cntV (r.visits.take k++[v]) v.order=cntV (r.visits.take k) v.order+1:=by unfold cntV; rw [Qot,Qou,if_pos rfl]
    have:=(QwI (l:=r.visits.take k) (o:=v.order)).2.2
    rw [e2,Bool.eq_iff_iff,gtI_t,← this]
    omega
   rw [hg]
   show _=some (Sum.inl (mapK (r.visits.take (k+1)),(pairK x r (k+1)).1,(pairK x r (k+1)).2,(k:Int)+1))
   have hP:pairK x r (k+1)=match (if 0≤v.order then x.orders[v.order.toNat]? else none) with
    | none=>pairK x r k
    | some o=>if hasO (r.visits.take k) v.order=true then pairK x r k else ((pairK x r k).1+bit1 (forB o.now r.type_),(pairK x r k).2+bit1 (forB o.last_ r.type_)):=by
    show (match r.visits[k]? with
     | none=>pairK x r k
     | some v=>match (if 0≤v.order then x.orders[v.order.toNat]? else none) with
      | none=>pairK x r k
      | some o=>if hasO (r.visits.take k) v.order=true then pairK x r k else ((pairK x r k).1+bit1 (forB o.now r.type_),(pairK x r k).2+bit1 (forB o.last_ r.type_)))=_
    rw [e]
   rw [hP]
   by_cases hin:0≤v.order∧v.order<x.orders.length
   ·rw [QaY (by simp [lenI]; omega),if_pos hin.1]
    have eo:x.orders[v.order.toNat]?=some (x.orders[v.order.toNat]'(by omega)):=List.getElem?_eq_getElem _
    generalize x.orders[v.order.toNat]'(by omega)=o at eo
    have eg:getI x.orders v.order=some o:=by unfold getI; rw [if_pos hin.1,eo]
    rw [eo,eg]
    simp only [Qah]
    cases hasO (r.visits.take k) v.order with
    | true=>rfl
    | false =>
     rw [QhY,if_neg (by decide),show (neI o.now (-1)&&neI o.now r.type_)=forB o.now r.type_ from rfl,show (neI o.last_ (-1)&&neI o.last_ r.type_)=forB o.last_ r.type_ from rfl,addI (by omega) (by omega),addI (by omega) (by omega)]
     generalize pairK x r k=p
     cases forB o.now r.type_ <;> cases forB o.last_ r.type_ <;> simp [bit1]
   ·rw [Qbc (by simp [lenI]; omega)]
    have:(if 0≤v.order then x.orders[v.order.toNat]? else none)=none:=by
     split
     ·exact List.getElem?_eq_none (by omega)
     ·rfl
    rw [this]) (by
   show QdB x r s0 (typS x r) (mapK (r.visits.take r.visits.length)) (pairK x r r.visits.length).1 (pairK x r r.visits.length).2 (r.visits.length:Int)=_
   unfold QdB
   rw [Qbu])
  exact this
 rw [Qc9 this]
 rfl
theorem Qym (hl:l.length≤1048576) {k:Nat} {v:Qab} (e:l[k]?=some v):Qj4 l (k:Int)=some (!hasO (l.take k) v.order):=by
 have hk:=(List.getElem?_eq_some_iff.1 e).1
 have:=QtT (B:=fun q=>Qdn l (k:Int) q) (n:=k) (by omega) (fun j=>match l[j]? with|some w=>eqI w.order v.order|none=>false) (y:=(.inr false:Unit⊕Bool)) (N:=.inl ()) (b:=hasO (l.take k) v.order) (by
  rw [Qru]
  constructor
  ·rintro ⟨w,hw,he⟩
   obtain ⟨j,hj,hje⟩:=(QpB (by omega)).1 hw
   exact ⟨j,hj,by rw [hje]; simpa using he⟩
  ·rintro ⟨j,hj,h⟩
   rw [List.getElem?_eq_getElem (show j<l.length by omega)] at h
   exact ⟨_,(QpB (by omega)).2 ⟨j,hj,List.getElem?_eq_getElem (by omega)⟩,by simpa using h⟩) (fun j hj=>by
  have ej:l[j]?=some (l[j]'(by omega)):=List.getElem?_eq_getElem _
  show Qdn l (k:Int) j=_
  unfold Qdn
  rw [Qbc (by simp; omega),QaU ej,Qah,QaU e,Qah,incL ej hl,brs,ej]) (by
  show Qdn l (k:Int) k=_
  unfold Qdn
  rw [QaY (by simp)])
 unfold Qj4
 rw [Qc9 this]
 cases hasO (l.take k) v.order <;> rfl
theorem Qwr (hx:QbQ x) (hl:r.visits.length≤1048576) (ht:0≤r.type_∧r.type_<x.types.length):Qk7 x r s0=some (scoS x r s0):=by
 obtain ⟨t1,t2⟩:=QuL ht.1 ht.2
 have h10:=hx.orders
 unfold Qk7
 rw [QaY (by simp [lenI]; omega),t1,Qah]
 have this:loopF (fun q:Int×Int×Int=>Qc3 x r s0 (typS x r) q.1 q.2.1 q.2.2) (0,0,0)=some (pairK x r r.visits.length):=by
  have:=Qd8 r.visits.length (fun k=>((pairK x r k).1,(pairK x r k).2,(k:Int))) (B:=fun q:Int×Int×Int=>Qc3 x r s0 (typS x r) q.1 q.2.1 q.2.2) (e:=pairK x r r.visits.length) (by omega) (fun k hk=>by
   have e:r.visits[k]?=some r.visits[k]:=List.getElem?_eq_getElem hk
   generalize r.visits[k]=v at e
   show Qc3 x r s0 (typS x r) (pairK x r k).1 (pairK x r k).2 (k:Int)=some (Sum.inl ((pairK x r (k+1)).1,(pairK x r (k+1)).2,((k+1:Nat):Int)))
   unfold Qc3 Qig
   rw [Qb1 e,incL e hl,Qym hl e]
   have hp:=Qs0 (x:=x) (r:=r) k
   show _=some (Sum.inl ((pairK x r (k+1)).1,(pairK x r (k+1)).2,(k:Int)+1))
   have hP:pairK x r (k+1)=match (if 0≤v.order then x.orders[v.order.toNat]? else none) with
    | none=>pairK x r k
    | some o=>if hasO (r.visits.take k) v.order=true then pairK x r k else ((pairK x r k).1+bit1 (forB o.now r.type_),(pairK x r k).2+bit1 (forB o.last_ r.type_)):=by
    show (match r.visits[k]? with
     | none=>pairK x r k
     | some v=>match (if 0≤v.order then x.orders[v.order.toNat]? else none) with
      | none=>pairK x r k
      | some o=>if hasO (r.visits.take k) v.order=true then pairK x r k else ((pairK x r k).1+bit1 (forB o.now r.type_),(pairK x r k).2+bit1 (forB o.last_ r.type_)))=_
    rw [e]
   rw [hP]
   by_cases hin:0≤v.order∧v.order<x.orders.length
   ·rw [QaY (by simp [lenI]; omega),if_pos hin.1]
    have eo:x.orders[v.order.toNat]?=some (x.orders[v.order.toNat]'(by omega)):=List.getElem?_eq_getElem _
    generalize x.orders[v.order.toNat]'(by omega)=o at eo
    have eg:getI x.orders v.order=some o:=by unfold getI; rw [if_pos hin.1,eo]
    rw [eo,eg]
    simp only [Qah]
    cases hasO (r.visits.take k) v.order with
    | true=>rfl
    | false =>
     rw [Bool.not_false,Qir,if_neg (by decide),addI (by omega) (by omega),addI (by omega) (by omega)]
     generalize pairK x r k=p
     unfold forB
     cases neI o.now (-1) <;> cases neI o.now r.type_ <;> cases neI o.last_ (-1) <;> cases neI o.last_ r.type_ <;> simp [bit1]
   ·rw [Qbc (by simp [lenI]; omega)]
    have:(if 0≤v.order then x.orders[v.order.toNat]? else none)=none:=by
     split
     ·exact List.getElem?_eq_none (by omega)
     ·rfl
    rw [this]) (by
   show Qc3 x r s0 (typS x r) (pairK x r r.visits.length).1 (pairK x r r.visits.length).2 (r.visits.length:Int)=_
   unfold Qc3
   rw [Qbu])
  exact this
 rw [Qc9 this]
 rfl
end
theorem QuQ (s:QaG):∃ w,QeS s=some w∧Qj3 s=some w:=by
 unfold QeS Qj3 Qmy Qn7
 simp only [Qah]
 cases h1:ltI s.cost 0 with
 | true=>exact ⟨_,rfl,rfl⟩
 | false =>
  cases h2:ltI s.moved 0 with
  | true=>exact ⟨_,rfl,rfl⟩
  | false =>
   cases h3:ltI s.other 0 with
   | true=>exact ⟨_,rfl,rfl⟩
   | false =>
    cases h4:ltI s.work 0 with
    | true=>exact ⟨_,rfl,rfl⟩
    | false =>
     have e:(((((((geI s.cost 0&&leI s.cost 1073741824)&&geI s.moved 0)&&leI s.moved 15)&&geI s.other 0)&&leI s.other 15)&&geI s.work 0)&&leI s.work 65535)=!(((gtI s.cost 1073741824||geI s.moved 16)||geI s.other 16)||geI s.work 65536):=by
      simp only [ltI_f] at h1 h2 h3 h4
      rw [Bool.eq_iff_iff]
      simp only [Bool.and_eq_true,geI_t,leI_t,Bool.not_eq_true',Bool.or_eq_false_iff,gtI_f,geI_f]
      omega
     rw [e]
     simp only [QhY]
     cases ((gtI s.cost 1073741824||geI s.moved 16)||geI s.other 16)||geI s.work 65536
     ·exact ⟨_,rfl,rfl⟩
     ·exact ⟨_,rfl,rfl⟩
end Go.Proofs.YtpkkaboonnedfaaGreatDoor
namespace Go.Proofs.YtpkkaboonnedfaaGreatDoor
set_option linter.unusedSimpArgs false
set_option linter.unusedVariables false
set_option linter.unusedSectionVars false
theorem QrG:∀ (n:Nat) (l:List Nat),l.Nodup→(∀ a∈l,a<n)→l.length≤n
 | 0,l,_,h=>by
  cases l with
  | nil=>simp
  | cons a r=>exact absurd (h a (by simp)) (by omega)
 | n+1,l,hd,h=>by
  by_cases hm:n∈l
  ·have h1:=QrG n (l.erase n) (hd.erase n) fun a ha=>by
    have h2:=(hd.mem_erase_iff).1 ha
    have:=h a h2.2
    omega
   rw [List.length_erase_of_mem hm] at h1
   omega
  ·have:=QrG n l hd fun a ha=>by
    have:=h a ha
    have:a≠n:=fun e=>hm (e ▸ ha)
    omega
   omega
section
variable {x : Qac} {l : List Qab} {r : Qad}
theorem SeqOK.short (hx:QbQ x) (h:SeqOK x l):l.length≤20:=by
 have h10:=hx.orders
 have hm:(l.map fun v:Qab=>2*v.order.toNat+(if v.drop=true then 1 else 0)).Nodup:=by
  unfold List.Nodup
  rw [List.pairwise_map]
  refine h.nodup.imp_of_mem fun {a b} ha hb hne he=>hne ?_
  have h1:=QmL h.inn ha
  have h2:=QmL h.inn hb
  cases a with
  | mk ao ad =>
   cases b with
   | mk bo bd =>
    simp only at h1 h2 he
    have hd:ad=bd∧ao=bo:=by
     cases ad <;> cases bd <;> simp at he ⊢ <;> omega
    rw [hd.1,hd.2]
 have:=QrG 20 _ hm fun a ha=>by
  obtain ⟨v,hv,rfl⟩:=List.mem_map.1 ha
  have h1:=QmL h.inn hv
  split <;> omega
 simpa using this
noncomputable def ableB (t:Qaj) (skills:Int):Bool:=(QkW t skills).getD false
noncomputable def Qqu (x:Qac) (r:Qad) (v:Qab):Bool:=match x.orders[v.order.toNat]? with
 | some o=>ableB (typS x r) o.skills
 | none=>false
theorem Qzf (hx:QbQ x) (ht:0≤r.type_∧r.type_<x.types.length) {v:Qab} (hv:0≤v.order∧v.order<x.orders.length):∃ o,getI x.orders v.order=some o∧QkW (typS x r) o.skills=some (Qqu x r v)∧Qi0 (typS x r) o.skills=some (Qqu x r v)∧x.orders[v.order.toNat]?=some o:=by
 obtain ⟨o,g1,g2,_,g4⟩:=Qvp (x:=x) hv.1 hv.2
 obtain ⟨b,b1,b2⟩:=QBQ (t:=typS x r) (hx.typ _ (QuL ht.1 ht.2).2).skills (hx.ord o g2).skills
 have:Qqu x r v=b:=by unfold Qqu ableB; rw [g4]; simp only; rw [b1]; rfl
 exact ⟨o,g1,by rw [this,b1],by rw [this,b2],g4⟩
def Qyg:QaG:=QaG.mk 0 0 0 0
theorem Qyo (hx:QbQ x) (hR:Qi5 r) (h9:¬ (9<r.visits.length∧r.visits.length≤20)) :
  ∃ A,Qmb x r=some A∧Qi1 x r=some A∧A.1.times.length≤1048576∧(A.2≠0→A.1=Qnw) ∧
   (A.2=0→(possS x r=true∧r.rests.length≤r.visits.length+1)∧∃ b,fullB x.net (typS x r) (Qay x r) r.start r.rests b∧minB x.net (typS x r) (Qay x r) r.start r.rests b∧A.1=(lbB x.net (typS x r) (Qay x r) r.start b).sheet):=by
 obtain ⟨A,hA,pA⟩:=Qyn hx hR h9
 obtain ⟨B,hB,pB⟩:=QtO hx hR h9
 have hv:=hR.visits
 have hr:=hR.rests
 have key:A=B∧A.1.times.length≤1048576∧(A.2≠0→A.1=Qnw)∧(A.2=0→(possS x r=true∧r.rests.length≤r.visits.length+1)∧∃ b,fullB x.net (typS x r) (Qay x r) r.start r.rests b∧minB x.net (typS x r) (Qay x r) r.start r.rests b∧A.1=(lbB x.net (typS x r) (Qay x r) r.start b).sheet):=by
  rcases pA with ⟨a1,a2⟩|⟨a1,a2⟩
  ·rcases pB with ⟨_,b2⟩|⟨b1,_⟩
   ·rw [a2,b2]; exact ⟨rfl,Nat.zero_le _,fun _=>rfl,fun h=>by cases h⟩
   ·exact absurd b1 a1
  ·rcases pB with ⟨b1,_⟩|⟨_,b2⟩
   ·exact absurd a1 b1
   ·rcases a2 with ⟨a,fa,ma,ea⟩|⟨na,ea⟩
    ·rcases b2 with ⟨b,fb,mb,eb⟩|⟨nb,eb⟩
     ·have hab:=QAA fa fb ma mb
      rw [ea,eb,hab]
      refine ⟨rfl,?_,fun h=>absurd rfl h,fun _=>⟨a1,b,fb,mb,rfl⟩⟩
      have h1:=QAp (n:=x.net) (t:=typS x r) (stops:=Qay x r) (start:=r.start) (b:=b)
      have h2:=fb.1
      rw [QkF] at h2
      have:=(of_decide_eq_true (QmV a1.1)).2.2.2.2
      show (lbB x.net (typS x r) (Qay x r) r.start b).sheet.times.length≤_
      omega
     ·exact absurd fa (nb a)
    ·rcases b2 with ⟨b,fb,mb,eb⟩|⟨nb,eb⟩
     ·exact absurd fb (na b)
     ·rw [ea,eb]
      have hno:¬ okB x.net (typS x r) (Qay x r) r.start (r.rests++List.replicate (r.visits.length+1-r.rests.length) false):=fun hok=>by
       refine na _ ⟨?_,?_,hok⟩
       ·rw [QkF,List.length_append,List.length_replicate]; omega
       ·rw [← QpC]; exact QwX
      obtain ⟨n1,n2⟩:=QtQ hno
      refine ⟨rfl,?_,fun _=>by rw [n2],fun h=>absurd h n1⟩
      rw [n2]; exact Nat.zero_le _
 exact ⟨A,hA,by rw [key.1]; exact hB,key.2.1,key.2.2.1,key.2.2.2⟩
structure EvOK (x:Qac) (r:Qad) (s:Qap) (b:List Bool):Prop where
 type_:0≤r.type_∧r.type_<x.types.length
 seq:seqS x r.visits=0
 able:∀ v∈r.visits,Qqu x r v=true
 fits:fitS x r=0
 poss:possS x r=true
 rests:r.rests.length≤r.visits.length+1
 full:fullB x.net (typS x r) (Qay x r) r.start r.rests b
 min:minB x.net (typS x r) (Qay x r) r.start r.rests b
 sheet:s=(lbB x.net (typS x r) (Qay x r) r.start b).sheet
theorem Qzp (hx:QbQ x) (hR:Qi5 r) (h9:¬ (9<r.visits.length∧r.visits.length≤20)) :
  ∃ E,Qfk x r=some E∧Qgv x r=some E∧E.1.times.length≤1048576∧(E.2.2≠0→E.1=Qnw∧E.2.1=Qyg)∧(E.2.2=0→E.2.1=scoS x r E.1∧∃ b,EvOK x r E.1 b):=by
 have hv:=hR.visits
 unfold Qfk Qgv
 by_cases ht:0≤r.type_∧r.type_<x.types.length
 ·rw [QaY (by simp [lenI]; omega),QaY (by simp [lenI]; omega),Qwl hx hv,Qah,Qtg hx hv,Qah]
  by_cases hs:seqS x r.visits=0
  ·have hq:=QtU hs
   have h20:=hq.short hx
   rw [QaY (by simpa using hs),QaY (by simpa using hs)]
   have a1:Qok x r=some (if r.visits.any (fun v=>!Qqu x r v)=true then 18 else 0):=by
    unfold Qok
    rw [Qc9 (Qij (B:=fun s=>Qfl x r s) hv (fun v=>!Qqu x r v) (y:=(.inr 18:Unit⊕Int)) (N:=.inl ()) (fun i a h=>by
     obtain ⟨o,g1,g2,g3,_⟩:=Qzf (r:=r) hx ht (QmL hq.inn (List.mem_of_getElem? h))
     show Qfl x r i=_
     unfold Qfl
     rw [Qb1 h,(QuL ht.1 ht.2).1,Qah,g1,Qah,g2,Qah,incL h hv]
     cases Qqu x r a <;> rfl) (by
     show Qfl x r r.visits.length=_
     unfold Qfl
     rw [Qbu]))]
    split <;> rfl
   have a2:loopF (fun s=>Qcp x r s) 0=some (if r.visits.any (fun v=>!Qqu x r v)=true then .inr (Qnw,Qyg,18) else .inl ()) :=
    Qij (B:=fun s=>Qcp x r s) hv (fun v=>!Qqu x r v) (y:=(.inr (Qnw,Qyg,18):Unit⊕(Qap×QaG×Int))) (N:=.inl ()) (fun i a h=>by
     obtain ⟨o,g1,g2,g3,_⟩:=Qzf (r:=r) hx ht (QmL hq.inn (List.mem_of_getElem? h))
     show Qcp x r i=_
     unfold Qcp
     have hlt:=(List.getElem?_eq_some_iff.1 h).1
     rw [Qbc (by simp [lenI]; omega),(QuL ht.1 ht.2).1,Qah,QaU h,Qah,g1,Qah,g3,Qah,incL h hv]
     cases Qqu x r a <;> rfl) (by
     show Qcp x r r.visits.length=_
     unfold Qcp
     rw [QaY (by simp [lenI])])
   rw [a1,Qah,a2,Qah]
   by_cases hab:r.visits.any (fun v=>!Qqu x r v)=true
   ·rw [if_pos hab,if_pos hab,Qbc (by decide),Qg6]
    exact ⟨_,rfl,rfl,Nat.zero_le _,fun _=>⟨rfl,rfl⟩,fun h=>by cases h⟩
   ·rw [if_neg hab,if_neg hab,QaY (by decide),QfQ]
    obtain ⟨f1,f2⟩:=QAZ (r:=r) hx (by omega) hs ht
    rw [f1,Qah,f2,Qah]
    by_cases hf:fitS x r=0
    ·rw [QaY (by simpa using hf),QaY (by simpa using hf)]
     obtain ⟨A,hA,hB,ht',hz,hfull⟩:=Qyo hx hR h9
     rw [hA,Qah,hB,Qah]
     by_cases hA2:A.2=0
     ·rw [QaY (by simpa using hA2),QaY (by simpa using hA2),QzR hx hv ht,Qah,Qwr hx hv ht,Qah]
      obtain ⟨⟨p1,p2⟩,b,fb,mb,eb⟩:=hfull hA2
      refine ⟨_,rfl,rfl,ht',fun h=>absurd rfl h,fun _=>⟨rfl,b,ht,hs,fun v hv'=>?_,hf,p1,p2,fb,mb,eb⟩⟩
      have:=List.any_eq_false.1 (by simpa using hab:r.visits.any (fun v=>!Qqu x r v)=false) v hv'
      simpa using this
     ·rw [Qbc (by simpa using hA2),Qbc (by simpa using hA2)]
      exact ⟨_,rfl,rfl,Nat.zero_le _,fun _=>⟨rfl,rfl⟩,fun h=>absurd h hA2⟩
    ·rw [Qbc (by simpa using hf),Qbc (by simpa using hf)]
     exact ⟨_,rfl,rfl,Nat.zero_le _,fun _=>⟨rfl,rfl⟩,fun h=>absurd h hf⟩
  ·rw [Qbc (by simpa using hs),Qbc (by simpa using hs)]
   exact ⟨_,rfl,rfl,Nat.zero_le _,fun _=>⟨rfl,rfl⟩,fun h=>absurd h hs⟩
 ·rw [Qbc (by simp [lenI]; omega),Qbc (by simp [lenI]; omega)]
  exact ⟨_,rfl,rfl,Nat.zero_le _,fun _=>⟨rfl,rfl⟩,fun h=>by cases h⟩
theorem Qwq (hx:QbQ x) (hR:Qi5 r) (h9:¬ (9<r.visits.length∧r.visits.length≤20)):∃ w,QfM x r=some w∧Qk8 x r=some w:=by
 obtain ⟨E,e1,e2,e3,e4,e5⟩:=Qzp hx hR h9
 obtain ⟨w,w1,w2⟩:=QuQ E.2.1
 unfold QfM Qk8
 rw [e1,Qah,e2,Qah,w1,Qah,w2,Qah,brs]
 exact ⟨_,rfl,rfl⟩
end
end Go.Proofs.YtpkkaboonnedfaaGreatDoor
namespace Go.Proofs.YtpkkaboonnedfaaGreatDoor
set_option linter.unusedSimpArgs false
set_option linter.unusedVariables false
set_option linter.unusedSectionVars false
section
variable {n : Qai} {t : Qaj} {stops : List Qau} {start : Int}
theorem QzK (hT:QkO n t stops):∀ (b:List Bool) (k:Nat) (l:Qaf),LabI k l→k+b.length≤stops.length→(runK n t stops b k l).2=0→l.ready≤(runK n t stops b k l).1.ready
 | [],k,l,hl,_,_=>Int.le_refl _
 | a :: b,k,l,hl,hk,h=>by
  simp only [runK] at h ⊢
  simp only [List.length_cons] at hk
  by_cases h0:(nxt n t stops l k a).2=0
  ·rw [if_neg (by simpa using h0)] at h ⊢
   have h1:=QzK hT b (k+1) _ (QtJ hT hl (by omega) h0) (by omega) h
   refine Int.le_trans ?_ h1
   obtain ⟨g0,g1,g2,g3⟩:=Qsc hT hl h0
   have hb:=Qtw hT.net (Que (rest:=a) hT hl) g0
   have hS:=hT.stopK k
   have:=hS.serv0
   have hr:=hT.rest
   rw [g3]
   have hd:l.ready≤depS t l a:=by unfold depS; split <;> omega
   show l.ready≤max _ _+_
   omega
  ·rw [if_pos h0] at h; exact absurd h h0
theorem QAl (hT:QkO n t stops) (hs:0≤start∧start≤4096) {b:List Bool} (hl:b.length=stops.length+1) (hok:okB n t stops start b) :
  t.open_≤(lbB n t stops start b).sheet.end_∧(lbB n t stops start b).sheet.end_≤t.close∧0≤(lbB n t stops start b).sheet.miles∧(lbB n t stops start b).sheet.miles≤210000:=by
 obtain ⟨b0,c,rfl⟩:∃ b0 c,b=b0++[c]:=by
  rcases List.eq_nil_or_concat b with rfl|⟨b0,c,rfl⟩
  ·simp at hl
  ·exact ⟨b0,c,by simp⟩
 have hb0:b0.length=stops.length:=by simpa using hl
 obtain ⟨o1,o2⟩:=Qn9.1 hok
 have hL:=Qry hT hs (by omega) o1
 obtain ⟨g0,g1,g2,g3⟩:=Qsc hT hL o2
 have hb:=Qtw hT.net (Que (rest:=c) hT hL) g0
 have hge:t.open_≤(lbB n t stops start b0).ready:=by
  have:=QzK hT b0 0 (begS t start) (Qth hT hs) (by omega) o1
  have h2:t.open_≤(begS t start).ready:=by show t.open_≤max t.open_ start; omega
  exact Int.le_trans h2 this
 have hn:¬ b0.length<stops.length:=by omega
 have hm0:=hL.miles0
 have hm1:=hL.miles1
 have hfew:=hT.few
 have hr:=hT.rest
 have hd:(lbB n t stops start b0).ready≤depS t (lbB n t stops start b0) c:=by unfold depS; split <;> omega
 rw [Qrz hok,g3]
 rw [QoK hn] at hb g1 ⊢
 have g1':(goN n t.profile (fromP t stops b0.length) (endS t).place (depS t (lbB n t stops start b0) c)).1≤t.close:=g1
 show t.open_≤(if b0.length<stops.length then _ else _:Int)∧(if b0.length<stops.length then _ else _:Int)≤t.close∧0≤(lbB n t stops start b0).sheet.miles+_∧(lbB n t stops start b0).sheet.miles+_≤210000
 rw [if_neg hn]
 omega
end
section
variable {x : Qac} {l : List Qab} {r : Qad}
theorem EvOK.facts (hx:QbQ x) {s:Qap} {b:List Bool} (h:EvOK x r s b) :
  (typS x r).open_≤s.end_∧s.end_≤(typS x r).close∧0≤s.miles∧s.miles≤210000∧QrP s=b∧s.times.length=r.visits.length∧b.length=r.visits.length+1∧r.visits.length≤20:=by
 have h5:=of_decide_eq_true (QmV h.poss)
 have hT:=Qza hx h.poss
 obtain ⟨e1,e2,e3,e4⟩:=QAl hT ⟨h5.2.2.1,h5.2.2.2.1⟩ h.full.1 h.full.2.2
 obtain ⟨r1,r2⟩:=QxT hx h.poss h.full.1 h.full.2.2
 have hsl:=QkF (x:=x) (r:=r)
 have hl:=h.full.1
 rw [h.sheet]
 exact ⟨e1,e2,e3,e4,r1,by omega,by omega,h5.2.2.2.2⟩
theorem EvOK.score (hx:QbQ x) {s:Qap} {b:List Bool} (h:EvOK x r s b) :
  ∃ c m o w:Int,scoS x r s=QaG.mk c m o w∧(typS x r).fixed≤c∧0≤c∧c≤1073741824∧0≤m∧m≤10∧0≤o∧o≤10∧0≤w∧w≤65535∧w=mulK .i64 (quoK .i64 (subK .i64 s.end_ (typS x r).open_) 64) (quoK .i64 (subK .i64 s.end_ (typS x r).open_) 64):=by
 obtain ⟨f1,f2,f3,f4,f5,f6,f7,f8⟩:=h.facts hx
 have hT:=hx.typ _ (QuL h.type_.1 h.type_.2).2
 have h1:=hT.fixed; have h2:=hT.perMile; have h3:=hT.perTick; have h4:=hT.opn; have h5:=hT.close
 have h10:=hx.orders
 have hp:=Qs0 (x:=x) (r:=r) r.visits.length
 have hf:=Qvr (r:=r) hx r.visits.length (Nat.le_refl _)
 have hs:sumN x.orders.length (fun i=>bit1 (hasO (r.visits.take r.visits.length) (i:Int)))≤x.orders.length:=by
  have:=(QvG (f:=fun i=>bit1 (hasO (r.visits.take r.visits.length) (i:Int))) (c:=1) (by omega) x.orders.length fun i=>Qi6).2
  omega
 have hd:subK .i64 s.end_ (typS x r).open_=s.end_-(typS x r).open_:=subI (by omega) (by omega)
 obtain ⟨a,ha⟩:∃ a,a=s.end_-(typS x r).open_:=⟨_,rfl⟩
 have ha0:0≤a∧a≤4096:=by omega
 have m1:0≤(typS x r).perMile*s.miles∧(typS x r).perMile*s.miles≤21000000:=by
  refine ⟨Int.mul_nonneg h2.1 f3,?_⟩
  exact Int.le_trans (Int.mul_le_mul h2.2 f4 f3 (by omega)) (by omega)
 have m2:0≤(typS x r).perTick*a∧(typS x r).perTick*a≤409600:=by
  refine ⟨Int.mul_nonneg h3.1 ha0.1,?_⟩
  exact Int.le_trans (Int.mul_le_mul h3.2 ha0.2 ha0.1 (by omega)) (by omega)
 have hq:quoK .i64 a 64=a / 64:=by
  have e:a.tdiv 64=a / 64:=Int.tdiv_eq_ediv_of_nonneg ha0.1
  rw [quoI (by rw [e]; omega) (by rw [e]; omega),e]
 have hq2:0≤a / 64∧a / 64≤64:=by omega
 have m3:0≤(a / 64)*(a / 64)∧(a / 64)*(a / 64)≤4096:=⟨Int.mul_nonneg hq2.1 hq2.1,Int.le_trans (Int.mul_le_mul hq2.2 hq2.2 hq2.1 (by omega)) (by omega)⟩
 unfold scoS
 refine ⟨_,_,_,_,rfl,?_,?_,?_,by omega,by omega,by omega,by omega,?_,?_,rfl⟩
 ·rw [hd,← ha,mulI (by omega) (by omega),mulI (by omega) (by omega),addI (a:=(typS x r).fixed) (by omega) (by omega),addI (by omega) (by omega)]; omega
 ·rw [hd,← ha,mulI (by omega) (by omega),mulI (by omega) (by omega),addI (a:=(typS x r).fixed) (by omega) (by omega),addI (by omega) (by omega)]; omega
 ·rw [hd,← ha,mulI (by omega) (by omega),mulI (by omega) (by omega),addI (a:=(typS x r).fixed) (by omega) (by omega),addI (by omega) (by omega)]; omega
 ·rw [hd,← ha,hq,mulI (by omega) (by omega)]; omega
 ·rw [hd,← ha,hq,mulI (by omega) (by omega)]; omega
theorem QuR {c m o w:Int} (h1:0≤c∧c≤1073741824) (h2:0≤m∧m≤15) (h3:0≤o∧o≤15) (h4:0≤w∧w≤65535):QeS (QaG.mk c m o w)=some (((c*16+m)*16+o)*65536+w,0):=by
 unfold QeS Qmy
 rw [Qah]
 simp only
 rw [QaY (by simp; omega),QaY (by simp; omega),QaY (by simp; omega),QaY (by simp; omega),QaY (by simp; omega),mulI (a:=c) (by omega) (by omega),addI (a:=c*16) (by omega) (by omega),mulI (a:=c*16+m) (by omega) (by omega),addI (a:=(c*16+m)*16) (by omega) (by omega),mulI (by omega) (by omega),addI (by omega) (by omega)]
end
end Go.Proofs.YtpkkaboonnedfaaGreatDoor
namespace Go.Proofs.YtpkkaboonnedfaaGreatDoor
set_option linter.unusedSimpArgs false
set_option linter.unusedVariables false
set_option linter.unusedSectionVars false
def QmM (p:Nat→Bool):Nat→Nat→Nat
 | 0,k=>k
 | f+1,k=>if p k=true then k else QmM p f (k+1)
theorem QoE (p:Nat→Bool):∀ f k,k≤QmM p f k∧QmM p f k≤k+f∧(∀ j,k≤j→j<QmM p f k→p j=false)∧(QmM p f k<k+f→p (QmM p f k)=true)
 | 0,k=>⟨Nat.le_refl _,Nat.le_refl _,fun j h1 h2=>absurd (Nat.lt_of_le_of_lt h1 h2) (Nat.lt_irrefl k),fun h=>absurd h (Nat.lt_irrefl k)⟩
 | f+1,k=>by
  unfold QmM
  by_cases hp:p k=true
  ·rw [if_pos hp]
   exact ⟨Nat.le_refl _,by omega,fun j h1 h2=>by omega,fun _=>hp⟩
  ·rw [if_neg hp]
   obtain ⟨h1,h2,h3,h4⟩:=QoE p f (k+1)
   refine ⟨by omega,by omega,fun j g1 g2=>?_,fun h=>h4 (by omega)⟩
   rcases Nat.lt_or_ge k j with h|h
   ·exact h3 j h g2
   ·obtain rfl:j=k:=by omega
    simpa using hp
section
variable {S E : Type} {B : S → Option (S ⊕ E)}
theorem Qty (p:Nat→Bool) (st:Nat→S) (Y:Nat→E) (N:E):∀ f k,(∀ j,k≤j→j<k+f→B (st j)=some (if p j=true then .inr (Y j) else .inl (st (j+1))))→B (st (k+f))=some (.inr N) →
  iterF B (f+1) (st k)=some (if QmM p f k<k+f then Y (QmM p f k) else N)
 | 0,k,_,he=>by
  simp only [iterF]
  rw [show B (st k)=some (.inr N) from he]
  simp only
  rw [if_neg (by unfold QmM; omega)]
 | f+1,k,hs,he=>by
  rw [iterF,hs k (Nat.le_refl _) (by omega)]
  unfold QmM
  by_cases hp:p k=true
  ·rw [if_pos hp,if_pos hp,if_pos (by omega)]
  ·rw [if_neg hp,if_neg hp]
   simp only
   have:=Qty p st Y N f (k+1) (fun j h1 h2=>hs j (by omega) (by omega)) (by rw [show k+1+f=k+(f+1) by omega]; exact he)
   rw [show k+1+f=k+(f+1) by omega] at this
   exact this
theorem QtF {n:Nat} (hn:n<18446744073709551616) (p:Nat→Bool) (st:Nat→S) (Y:Nat→E) {N:E} (hs:∀ j,j<n→B (st j)=some (if p j=true then .inr (Y j) else .inl (st (j+1)))) (he:B (st n)=some (.inr N)) :
  loopF B (st 0)=some (if QmM p n 0<n then Y (QmM p n 0) else N):=by
 have:=Qty (B:=B) p st Y N n 0 (fun j _ h=>hs j (by omega)) (by rw [Nat.zero_add]; exact he)
 rw [Nat.zero_add] at this
 exact Qqg (n+1) hn this
end
end Go.Proofs.YtpkkaboonnedfaaGreatDoor
namespace Go.Proofs.YtpkkaboonnedfaaGreatDoor
set_option linter.unusedSimpArgs false
set_option linter.unusedVariables false
set_option linter.unusedSectionVars false
def zTime:Qar:=Qar.mk 0 0 0 false
def Qka (r:Qad):Prop:=¬ (9<r.visits.length∧r.visits.length≤20)
section
variable {x : Qac} {r : Qad} {s : Qap} {now : Int}
noncomputable def evX (x:Qac) (r:Qad):Qap×QaG×Int:=(Qfk x r).getD (Qnw,Qyg,0)
theorem Qrq (hx:QbQ x) (hR:Qi5 r) (h9:Qka r):Qfk x r=some (evX x r)∧Qgv x r=some (evX x r)∧(evX x r).1.times.length≤1048576∧((evX x r).2.2≠0→(evX x r).1=Qnw∧(evX x r).2.1=Qyg)∧((evX x r).2.2=0→(evX x r).2.1=scoS x r (evX x r).1∧∃ b,EvOK x r (evX x r).1 b):=by
 obtain ⟨E,e1,e2,e3,e4,e5⟩:=Qzp hx hR h9
 have:evX x r=E:=by unfold evX; rw [e1]; rfl
 rw [this]
 exact ⟨e1,e2,e3,e4,e5⟩
theorem EvOK.visit (hx:QbQ x) {b:List Bool} (h:EvOK x r s b) {k:Nat} (hk:k<r.visits.length):∃ v o,r.visits[k]?=some v∧getI x.orders v.order=some o∧stopV x v=some ((Qay x r).getD k zStop)∧atS v o=(Qay x r).getD k zStop∧s.times[k]?=some (s.times.getD k zTime):=by
 have hf:=h.facts hx
 have hsl:=QkF (x:=x) (r:=r)
 have e0:(Qay x r)[k]?=some ((Qay x r).getD k zStop):=by rw [List.getD_eq_getElem?_getD,List.getElem?_eq_getElem (show k<(Qay x r).length by omega)]; rfl
 obtain ⟨v,v1,v2⟩:=QuI h.poss e0
 have hin:=QmL (QtU h.seq).inn (List.mem_of_getElem? v1)
 obtain ⟨o,g1,g2,g3,g4⟩:=Qvp (x:=x) hin.1 hin.2
 refine ⟨v,o,v1,g1,v2,?_,?_⟩
 ·unfold stopV at v2
  rw [if_pos hin.1,g4] at v2
  simp only at v2
  split at v2
  ·exact Option.some.inj v2
  ·cases v2
 ·rw [List.getD_eq_getElem?_getD,List.getElem?_eq_getElem (show k<s.times.length by have:=hf.2.2.2.2.2.1; omega)]; rfl
theorem QAM {α:Type} {l:List α} {k:Nat} (h:k≤l.length):slcI l 0 (k:Int)=some (l.take k):=by
 unfold slcI
 rw [if_pos ⟨by omega,by omega,by omega⟩]
 simp
structure PlanI (p:Qam):Prop where
 routes:p.routes.length≤1048576
 each:∀ r∈p.routes,Qi5 r
 unserved:p.unserved.length≤1048576
end
end Go.Proofs.YtpkkaboonnedfaaGreatDoor
namespace Go.Proofs.YtpkkaboonnedfaaGreatDoor
set_option linter.unusedSimpArgs false
set_option linter.unusedVariables false
set_option linter.unusedSectionVars false
section
variable {x : Qac} {r b : Qad} {p : Qam} {now : Int} {s : Qap}
theorem EvOK.again (hx:QbQ x) {b:List Bool} (h:EvOK x r s b):EvOK x (Qad.mk r.type_ r.start b r.visits) s b:=by
 obtain ⟨f1,f2,f3,f4,f5,f6,f7,f8⟩:=h.facts hx
 refine ⟨h.type_,h.seq,h.able,h.fits,h.poss,by show b.length≤r.visits.length+1; omega,⟨h.full.1,QBT fun i _=>rfl,h.full.2.2⟩,fun q hq=>?_,h.sheet⟩
 have hqb:q=b:=by
  have hl1:=hq.1
  have hl2:=h.full.1
  have hl1':q.length=(Qay x r).length+1:=hl1
  have:=Qz3 hq.2.1 (by show b.length≤q.length; omega)
  rw [List.take_of_length_le (by show q.length≤b.length; omega)] at this
  exact this
 rw [hqb]
 exact ⟨Int.le_refl _,fun _=>Nat.le_refl _⟩
theorem Qpg {D:Nat} {f:Nat→Int} {i:Int} (h0:0≤i) (h1:i<D):getI (vecN D f) i=some (f i.toNat):=by
 unfold getI
 rw [if_pos h0,Qhx (by omega)]
def cntO (l:List Qad) (o:Nat):Int:=sumF (fun r=>bit1 (hasO r.visits (o:Int))) l
theorem QqG {l:List Qad} {o:Nat}:0≤cntO l o∧cntO l o≤1000*l.length:=QsB fun a _=>by have:=Qi6 (b:=hasO a.visits (o:Int)); omega
theorem zeros {n:Nat} (hn:n≤1048576):mkI (n:Int) (n:Int) 8 (0:Int)=some (vecN n fun _=>0):=by
 unfold mkI
 rw [if_pos (by omega)]
 congr 1
 refine List.ext_getElem? fun i=>?_
 rcases Nat.lt_or_ge i n with h|h
 ·rw [Qhx h]; simp [h]
 ·rw [List.getElem?_eq_none (by simp; omega),List.getElem?_eq_none (by rw [Qe2]; omega)]
theorem Qyr (hx:QbQ x) (hP:PlanI p) (hq:∀ r∈p.routes,SeqOK x r.visits):loopF (fun q:List Int×Int=>Qdy x p (vecN x.orders.length fun _=>0) (vecN x.orders.length fun _=>0) q.1 q.2) (vecN x.orders.length (fun _=>0),0)=some (vecN x.orders.length (cntO p.routes)):=by
 have h10:=hx.orders
 have hr:=hP.routes
 have:=Qd8 p.routes.length (fun k=>(vecN x.orders.length (cntO (p.routes.take k)),(k:Int))) (B:=fun q:List Int×Int=>Qdy x p (vecN x.orders.length fun _=>0) (vecN x.orders.length fun _=>0) q.1 q.2) (e:=vecN x.orders.length (cntO p.routes)) (by omega) (fun k hk=>by
  have e:p.routes[k]?=some p.routes[k]:=List.getElem?_eq_getElem hk
  have hm:=List.getElem_mem hk
  generalize p.routes[k]=r at e hm
  have hs:=hq r hm
  obtain ⟨s,h1,h2,h3⟩:=Qsl (r:=r) hx (hP.each r hm).visits hs.inn
  show Qdy x p (vecN x.orders.length fun _=>0) (vecN x.orders.length fun _=>0) (vecN x.orders.length (cntO (p.routes.take k))) (k:Int)=some (Sum.inl (vecN x.orders.length (cntO (p.routes.take (k+1))),((k+1:Nat):Int)))
  unfold Qdy
  rw [Qb1 e,h1,Qah,incL e hr]
  have inner:loopF (fun q:List Int×Int=>Qdz x p (vecN x.orders.length fun _=>0) (vecN x.orders.length fun _=>0) (vecN x.orders.length (cntO (p.routes.take k))) (k:Int) s q.1 q.2) (vecN x.orders.length (cntO (p.routes.take k)),0)=some (vecN x.orders.length (cntO (p.routes.take (k+1)))):=by
   have:=Qd8 x.orders.length (fun j=>(vecN x.orders.length (fun o=>if o<j then cntO (p.routes.take (k+1)) o else cntO (p.routes.take k) o),(j:Int))) (B:=fun q:List Int×Int=>Qdz x p (vecN x.orders.length fun _=>0) (vecN x.orders.length fun _=>0) (vecN x.orders.length (cntO (p.routes.take k))) (k:Int) s q.1 q.2) (e:=vecN x.orders.length (cntO (p.routes.take (k+1)))) (by omega) (fun j hj=>by
    show Qdz x p (vecN x.orders.length fun _=>0) (vecN x.orders.length fun _=>0) (vecN x.orders.length (cntO (p.routes.take k))) (k:Int) s (vecN x.orders.length (fun o=>if o<j then cntO (p.routes.take (k+1)) o else cntO (p.routes.take k) o)) (j:Int)=some (Sum.inl (vecN x.orders.length (fun o=>if o<j+1 then cntO (p.routes.take (k+1)) o else cntO (p.routes.take k) o),((j+1:Nat):Int)))
    have hc:=QqG (l:=p.routes.take k) (o:=j)
    have hlen:(p.routes.take k).length≤1048576:=by rw [List.length_take]; omega
    have hbit:andK .i64 (shrK .i64 s.1 (j:Int)) 1=bit1 (hasO r.visits (j:Int)):=by
     obtain ⟨m,hm1,hm2,hm3⟩:=h3.ex
     rw [hm1,shrN (by omega)]
     have hd:=Nat.div_le_self m (2 ^ j)
     rw [show (1:Int)=((1:Nat):Int) from rfl,andN (by omega) (by omega),Nat.and_one_is_mod,← hm3,Nat.testBit_eq_decide_div_mod_eq]
     generalize m / 2 ^ j=q
     unfold bit1
     by_cases h:q % 2=1
     ·rw [h]; rfl
     ·rw [show q % 2=0 by omega]; rfl
    have estep:cntO (p.routes.take (k+1)) j=cntO (p.routes.take k) j+bit1 (hasO r.visits (j:Int)):=QoL e
    have hb:=Qi6 (b:=hasO r.visits (j:Int))
    unfold Qdz
    rw [Qbc (by simp [lenI,Qe2]; omega),QaU (Qhx hj),Qah,if_neg (Nat.lt_irrefl j),Qf7 (by omega),hbit,addI (by omega) (by omega),addI (by omega) (by omega),Qr7 hj]
    congr 3
    refine Qfm fun d hd=>?_
    by_cases hdj:d=j
    ·subst hdj; rw [if_pos rfl,if_pos (by omega),estep]
    ·rw [if_neg hdj]
     by_cases hlt:d<j
     ·rw [if_pos hlt,if_pos (by omega)]
     ·rw [if_neg hlt,if_neg (by omega)]) (by
    show Qdz x p (vecN x.orders.length fun _=>0) (vecN x.orders.length fun _=>0) (vecN x.orders.length (cntO (p.routes.take k))) (k:Int) s (vecN x.orders.length (fun o=>if o<x.orders.length then cntO (p.routes.take (k+1)) o else cntO (p.routes.take k) o)) (x.orders.length:Int)=_
    unfold Qdz
    rw [QaY (by simp [lenI,Qe2])]
    congr 2
    exact Qfm fun d hd=>if_pos hd)
   simpa using this
  rw [Qc9 inner]
  rfl) (by
  show Qdy x p (vecN x.orders.length fun _=>0) (vecN x.orders.length fun _=>0) (vecN x.orders.length (cntO (p.routes.take p.routes.length))) (p.routes.length:Int)=_
  unfold Qdy
  rw [Qbu,List.take_length])
 exact this
end
end Go.Proofs.YtpkkaboonnedfaaGreatDoor
namespace Go.Proofs.YtpkkaboonnedfaaGreatDoor
set_option linter.unusedSimpArgs false
set_option linter.unusedVariables false
set_option linter.unusedSectionVars false
section
variable {x : Qac} {r b : Qad} {p : Qam} {now : Int} {s : Qap}
theorem QAT (hx:QbQ x) (hR:Qi5 r) (h9:Qka r):Qmz x r=some (evX x r).2.2:=by
 unfold Qmz
 rw [(Qrq hx hR h9).1,Qah]
theorem Qz0 {l:List Qad} {o:Nat} (h:cntO l o=0):∀ r∈l,hasO r.visits (o:Int)=false:=by
 induction l with
 | nil=>intro r hr; cases hr
 | cons q l ih =>
  have e:cntO (q :: l) o=bit1 (hasO q.visits (o:Int))+cntO l o:=by simp [cntO,sumF]
  have hb:=Qi6 (b:=hasO q.visits (o:Int))
  have hc:=QqG (l:=l) (o:=o)
  intro r hr
  rcases List.mem_cons.1 hr with rfl|hr
  ·cases hh:hasO r.visits (o:Int) with
   | false=>rfl
   | true=>rw [hh] at e; simp only [bit1,if_true] at e; omega
  ·exact ih (by omega) r hr
end
end Go.Proofs.YtpkkaboonnedfaaGreatDoor
namespace Go.Proofs.YtpkkaboonnedfaaGreatDoor
set_option linter.unusedSimpArgs false
set_option linter.unusedVariables false
set_option linter.unusedSectionVars false
theorem QBq {n:Qai} (h:Qai.ok 1048576 n):NetI n:=by
 obtain ⟨⟨h1,h2⟩,⟨h3,h4⟩,_⟩:=h
 refine ⟨h1,h3,h2,fun a ha=>?_⟩
 obtain ⟨_,_,_,_,⟨h5,h6⟩,⟨h7,h8⟩,_⟩:=h4 a ha
 exact ⟨h5,h7,fun p hp=>⟨(h6 p hp).1,(h6 p hp).2.1⟩,fun p hp=>⟨(h8 p hp).1,(h8 p hp).2.1⟩⟩
end Go.Proofs.YtpkkaboonnedfaaGreatDoor
namespace Go.Proofs.YtpkkaboonnedfaaGreatDoor
set_option linter.unusedSimpArgs false
set_option linter.unusedVariables false
set_option linter.unusedSectionVars false
theorem QAi {x:Qac} (h:Qac.ok 1048576 x):InstI x:=by
 obtain ⟨h0,⟨h1,h2⟩,⟨h3,h4⟩,⟨h5,_⟩,⟨h6,_⟩,_⟩:=h
 refine ⟨QBq h0,h1,h3,h5,h6,fun t ht=>?_,fun o ho=>?_⟩
 ·obtain ⟨a,_,_,_,⟨b,_⟩,_⟩:=h2 t ht
  exact ⟨a,b⟩
 ·obtain ⟨a,⟨b,_⟩,_⟩:=h4 o ho
  exact ⟨a,b⟩
theorem Qy1 {r:Qad} (h:Qad.ok 1048576 r):Qi5 r:=by
 obtain ⟨h0,h1,⟨h2,_⟩,⟨h3,_⟩,_⟩:=h
 exact ⟨h0,h1,h2,h3⟩
end Go.Proofs.YtpkkaboonnedfaaGreatDoor
namespace Go.Proofs.YtpkkaboonnedfaaGreatDoor
set_option linter.unusedSimpArgs false
set_option linter.unusedVariables false
theorem QAE {p:Qam} (h:Qam.ok 1048576 p):PlanI p:=⟨h.1.1,fun r hr=>Qy1 (h.1.2 r hr),h.2.1.1⟩
end Go.Proofs.YtpkkaboonnedfaaGreatDoor
