/- Part MR of the proof: texts Lra Lrb Lrc Lrd Lre Lrf Lrg Lrh Lri Lrj Lta Ltb Lqz Lqze. -/
import Derived.Test.YtfjiafgldchinaaGreatDoorMP
import Derived.Test.YtfjiafgldchinaaGreatDoorMQ
import Derived.Test.YtfjiafgldchinaaGreatDoorMT
namespace Go.Proofs.YtfjiafgldchinaaGreatDoor
set_option linter.unusedSimpArgs false
set_option linter.unusedVariables false
set_option linter.unusedSectionVars false
def ixP {α:Type} (p:α→Bool):List α→Option Nat
 | []=>none
 | a :: r=>if p a=true then some 0 else (ixP p r).map (·+1)
section
variable {α : Type} {p : α → Bool}
theorem Qok {l:List α} {k:Nat} (h:ixP p l=some k):∃ hk:k<l.length,p l[k]=true∧∀ j (hj:j<k),p (l[j]'(by omega))=false:=by
 induction l generalizing k with
 | nil=>cases h
 | cons a r ih =>
  unfold ixP at h
  split at h
  ·cases h
   exact ⟨by simp,by simpa,fun j hj=>by omega⟩
  ·rename_i ha
   rw [Option.map_eq_some_iff] at h
   obtain ⟨m,hm,rfl⟩:=h
   obtain ⟨h1,h2,h3⟩:=ih hm
   refine ⟨by simp; omega,by simpa using h2,fun j hj=>?_⟩
   cases j with
   | zero=>simpa using ha
   | succ j=>simpa using h3 j (by omega)
theorem Qut {l:List α} (h:ixP p l=none):∀ a∈l,p a=false:=by
 induction l with
 | nil=>simp
 | cons a r ih =>
  unfold ixP at h
  split at h
  ·cases h
  ·rename_i ha
   rw [Option.map_eq_none_iff] at h
   intro b hb
   rcases List.mem_cons.1 hb with rfl|hb
   ·simpa using ha
   ·exact ih h b hb
def ixI (p:α→Bool) (l:List α):Int:=match ixP p l with
 | some k=>k
 | none=>-1
theorem QF8 {l:List α}:0≤ixI p l↔∃ a∈l,p a=true:=by
 unfold ixI
 cases h:ixP p l with
 | some k =>
  obtain ⟨h1,h2,_⟩:=Qok h
  exact ⟨fun _=>⟨_,List.getElem_mem h1,h2⟩,fun _=>Int.natCast_nonneg k⟩
 | none=>exact ⟨fun h'=>by simp at h',fun ⟨a,ha,hp⟩=>by rw [Qut h a ha] at hp; cases hp⟩
theorem QDI {l:List α}:-1≤ixI p l∧ixI p l<l.length:=by
 unfold ixI
 cases h:ixP p l with
 | some k=>have:=(Qok h).1; simp only; omega
 | none=>simp only; omega
theorem Qqr {l:List α}:geI (ixI p l) 0=l.any p:=by
 rw [Bool.eq_iff_iff,Qqs,QF8,List.any_eq_true]
end
section
variable {E : Type} {B : Int → Option (Int ⊕ E)}
theorem QFt {n:Nat} (hn:n≤1048576) (p:Nat→Bool) (Y:Nat→E) {N:E}
  (hin:∀ i:Nat,i<n→B (i:Int)=some (if p i=true then .inr (Y i) else .inl ((i:Int)+1))) (hend:B (n:Int)=some (.inr N)) :
  (∃ k,k<n∧p k=true∧(∀ j,j<k→p j=false)∧QaK B 0=some (Y k))∨((∀ j,j<n→p j=false)∧QaK B 0=some N):=by
 have main:post (QaK B 0) fun e=>(∃ k,k<n∧p k=true∧(∀ j,j<k→p j=false)∧e=Y k)∨((∀ j,j<n→p j=false)∧e=N):=by
  refine Qct (fun i=>∃ k:Nat,i=(k:Int)∧k≤n∧∀ j,j<k→p j=false) (fun i=>n-i.toNat) ⟨0,rfl,Nat.zero_le _,fun j hj=>by omega⟩ (by simp; omega) ?_
  rintro _ ⟨k,rfl,hk,hf⟩
  rcases Nat.lt_or_ge k n with h|h
  ·rw [hin k h]
   split
   ·rename_i hp
    exact Qcg (.inl ⟨k,h,hp,hf,rfl⟩)
   ·rename_i hp
    refine Qc4 ⟨⟨k+1,by simp,by omega,fun j hj=>?_⟩,by simp; omega⟩
    rcases Nat.lt_or_eq_of_le (Nat.le_of_lt_succ hj) with hj|rfl
    ·exact hf j hj
    ·simpa using hp
  ·obtain rfl:k=n:=by omega
   rw [hend]
   exact Qcg (.inr ⟨hf,rfl⟩)
 obtain ⟨e,he,h⟩:=main
 rcases h with ⟨k,h1,h2,h3,rfl⟩|⟨h1,rfl⟩
 ·exact .inl ⟨k,h1,h2,h3,he⟩
 ·exact .inr ⟨h1,he⟩
theorem Qty {n:Nat} (hn:n≤1048576) (p:Nat→Bool) {y N:E} {b:Bool} (hb:b=true↔∃ k,k<n∧p k=true)
  (hin:∀ i:Nat,i<n→B (i:Int)=some (if p i=true then .inr y else .inl ((i:Int)+1))) (hend:B (n:Int)=some (.inr N)) :
  QaK B 0=some (if b=true then y else N):=by
 rcases QFt hn p (fun _=>y) hin hend with ⟨k,h1,h2,_,h4⟩|⟨h1,h4⟩
 ·rw [h4,if_pos (hb.2 ⟨k,h1,h2⟩)]
 ·rw [h4,if_neg fun h=>by obtain ⟨k,h5,h6⟩:=hb.1 h; rw [h1 k h5] at h6; cases h6]
theorem Qcv {α:Type} {l:List α} (hl:l.length≤1048576) (p:α→Bool) {y N:E}
  (hin:∀ (i:Nat) a,l[i]?=some a→B (i:Int)=some (if p a=true then .inr y else .inl ((i:Int)+1))) (hend:B (l.length:Int)=some (.inr N)) :
  QaK B 0=some (if l.any p=true then y else N):=by
 refine Qty hl (fun i=>match l[i]? with|some a=>p a|none=>false) ?_ (fun i hi=>?_) hend
 ·rw [List.any_eq_true]
  constructor
  ·rintro ⟨a,ha,hp⟩
   obtain ⟨k,hk,rfl⟩:=List.getElem_of_mem ha
   exact ⟨k,hk,by rw [List.getElem?_eq_getElem hk]; exact hp⟩
  ·rintro ⟨k,hk,hp⟩
   rw [List.getElem?_eq_getElem hk] at hp
   exact ⟨_,List.getElem_mem hk,hp⟩
 ·rw [List.getElem?_eq_getElem hi]
  exact hin i _ (List.getElem?_eq_getElem hi)
theorem QAz {α:Type} {l:List α} (hl:l.length≤1048576) (p:α→Bool) (Y:Nat→E) {N:E}
  (hin:∀ (i:Nat) a,l[i]?=some a→B (i:Int)=some (if p a=true then .inr (Y i) else .inl ((i:Int)+1))) (hend:B (l.length:Int)=some (.inr N)) :
  QaK B 0=some (match ixP p l with|some k=>Y k|none=>N):=by
 have h:=QFt (B:=B) hl (fun i=>match l[i]? with|some a=>p a|none=>false) Y (N:=N) (fun i hi=>by
  rw [List.getElem?_eq_getElem hi]; exact hin i _ (List.getElem?_eq_getElem hi)) hend
 have at_:∀ j (hj:j<l.length),(match l[j]? with|some a=>p a|none=>false)=p l[j]:=fun j hj=>by rw [List.getElem?_eq_getElem hj]
 rcases h with ⟨k,h1,h2,h3,h4⟩|⟨h1,h4⟩
 ·cases hx:ixP p l with
  | none=>rw [at_ k h1,Qut hx _ (List.getElem_mem h1)] at h2; cases h2
  | some m =>
   obtain ⟨g1,g2,g3⟩:=Qok hx
   rcases Nat.lt_trichotomy k m with h|h|h
   ·rw [at_ k h1,g3 k h] at h2; cases h2
   ·rw [h4,h]
   ·have:=h3 m h; simp only [at_ m g1] at this; rw [g2] at this; cases this
 ·cases hx:ixP p l with
  | none=>rw [h4]
  | some m =>
   obtain ⟨g1,g2,g3⟩:=Qok hx
   have:=h1 m g1; simp only [at_ m g1] at this; rw [g2] at this; cases this
end
theorem QFG {m:Nat} (h:m<9223372036854775808):IntKind.i64.wrap (m:Int)=m:=IntWalk.i64_in _ ⟨by omega,by omega⟩
theorem cvuN {m:Nat} (h:m<9223372036854775808):cvK .u64 (m:Int)=m:=by
 unfold cvK
 simp only [IntKind.wrap,IntKind.bits,IntKind.signed]
 simp
 omega
theorem shrN {m i:Nat} (hi:i≤64):shrK .i64 (m:Int) (i:Int)=((m / 2 ^ i:Nat):Int):=by
 unfold shrK
 rw [show min (i:Int).toNat IntKind.i64.bits=i by simp [IntKind.bits]; omega,show (2:Int) ^ i=((2 ^ i:Nat):Int) by simp,Int.fdiv_eq_ediv_of_nonneg _ (Int.natCast_nonneg _)]
 rfl
theorem shlN {i:Nat} (hi:i≤62):shlK .i64 1 (i:Int)=((2 ^ i:Nat):Int):=by
 have h2:2 ^ i≤2 ^ 62:=Nat.pow_le_pow_right (by omega) hi
 unfold shlK
 rw [show min (i:Int).toNat IntKind.i64.bits=i by simp [IntKind.bits]; omega,Int.one_mul,show (2:Int) ^ i=((2 ^ i:Nat):Int) by simp]
 exact QFG (by omega)
theorem orN {a b:Nat} (ha:a<9223372036854775808) (hb:b<9223372036854775808):orK .i64 (a:Int) (b:Int)=((a ||| b:Nat):Int):=by
 unfold orK
 have h:=Nat.or_lt_two_pow (n:=63) ha hb
 have e:(BitVec.ofInt IntKind.i64.bits (a:Int) ||| BitVec.ofInt IntKind.i64.bits (b:Int)).toNat=a ||| b:=by
  rw [BitVec.toNat_or]
  show (BitVec.ofInt 64 (a:Int)).toNat ||| (BitVec.ofInt 64 (b:Int)).toNat=_
  rw [BitVec.ofInt_natCast,BitVec.ofInt_natCast,BitVec.toNat_ofNat,BitVec.toNat_ofNat,Nat.mod_eq_of_lt (by omega),Nat.mod_eq_of_lt (by omega)]
 rw [e]
 exact QFG (by omega)
theorem andN {a b:Nat} (ha:a<9223372036854775808) (hb:b<9223372036854775808):andK .i64 (a:Int) (b:Int)=((a &&& b:Nat):Int):=by
 unfold andK
 have h:=Nat.and_le_left (n:=a) (m:=b)
 have e:(BitVec.ofInt IntKind.i64.bits (a:Int) &&& BitVec.ofInt IntKind.i64.bits (b:Int)).toNat=a &&& b:=by
  rw [BitVec.toNat_and]
  show (BitVec.ofInt 64 (a:Int)).toNat &&& (BitVec.ofInt 64 (b:Int)).toNat=_
  rw [BitVec.ofInt_natCast,BitVec.ofInt_natCast,BitVec.toNat_ofNat,BitVec.toNat_ofNat,Nat.mod_eq_of_lt (by omega),Nat.mod_eq_of_lt (by omega)]
 rw [e]
 exact QFG (by omega)
theorem QCs {a b:Nat} (ha:a<9223372036854775808) (hb:b<9223372036854775808):QpI .i64 (a:Int) (b:Int)=0↔∀ i,a.testBit i=true→b.testBit i=true:=by
 show IntKind.i64.wrap (((BitVec.ofInt 64 (a:Int) &&& ~~~BitVec.ofInt 64 (b:Int)).toNat:Nat):Int)=0↔_
 rw [BitVec.ofInt_natCast,BitVec.ofInt_natCast]
 have hle:(BitVec.ofNat 64 a &&& ~~~BitVec.ofNat 64 b).toNat<9223372036854775808:=by
  rw [BitVec.toNat_and,BitVec.toNat_ofNat,Nat.mod_eq_of_lt (by omega)]
  exact Nat.lt_of_le_of_lt Nat.and_le_left ha
 rw [QFG hle]
 have bit:∀ i,(BitVec.ofNat 64 a &&& ~~~BitVec.ofNat 64 b).toNat.testBit i=(a.testBit i&&!b.testBit i):=fun i=>by
  rw [BitVec.testBit_toNat,BitVec.getLsbD_and,BitVec.getLsbD_not,BitVec.getLsbD_ofNat,BitVec.getLsbD_ofNat]
  rcases Nat.lt_or_ge i 64 with h|h
  ·simp [h]
  ·have:a.testBit i=false:=Nat.testBit_lt_two_pow (Nat.lt_of_lt_of_le ha (Nat.le_trans (by decide) (Nat.pow_le_pow_right (n:=2) (by omega) h)))
   simp [this]
 constructor
 ·intro h i hi
  have:=bit i
  rw [show (BitVec.ofNat 64 a &&& ~~~BitVec.ofNat 64 b).toNat=0 by omega,Nat.zero_testBit,hi] at this
  simpa using this.symm
 ·intro h
  have:(BitVec.ofNat 64 a &&& ~~~BitVec.ofNat 64 b).toNat=0:=Nat.eq_of_testBit_eq fun i=>by
   rw [bit,Nat.zero_testBit]
   cases hi:a.testBit i with
   | false=>rfl
   | true=>rw [h i hi]; rfl
  omega
theorem Qw2 {m i:Nat}:eqI (remK (((m / 2 ^ i:Nat):Int)) 2) 1=m.testBit i:=by
 rw [Bool.eq_iff_iff,QrZ,Nat.testBit_eq_decide_div_mod_eq,decide_eq_true_iff]
 unfold remK
 generalize m / 2 ^ i=q
 rw [Int.tmod_eq_emod_of_nonneg (by omega)]
 omega
theorem QEP {m i:Nat} (h:m.testBit i=false) (j:Nat):(m+2 ^ i).testBit j=(m.testBit j||decide (i=j)):=by
 rw [Nat.add_comm]
 rcases Nat.lt_trichotomy j i with hj|rfl|hj
 ·rw [Nat.testBit_two_pow_add_gt hj,decide_eq_false (by omega),Bool.or_false]
 ·rw [Nat.testBit_two_pow_add_eq,h]; simp
 ·rw [decide_eq_false (by omega),Bool.or_false]
  have h0:m / 2 ^ i % 2=0:=by
   rw [Nat.testBit_eq_decide_div_mod_eq,decide_eq_false_iff_not] at h
   omega
  have e1:(2 ^ i+m) / 2 ^ (i+1)=m / 2 ^ (i+1):=by
   rw [Nat.pow_succ,← Nat.div_div_eq_div_mul,← Nat.div_div_eq_div_mul,Nat.add_div_left _ (Nat.two_pow_pos i)]
   omega
  rw [Nat.testBit_eq_decide_div_mod_eq,Nat.testBit_eq_decide_div_mod_eq]
  have hp:2 ^ j=2 ^ (i+1)*2 ^ (j-(i+1)):=by rw [← Nat.pow_add]; congr 1; omega
  rw [hp,← Nat.div_div_eq_div_mul,← Nat.div_div_eq_div_mul,e1]
theorem QEN {t:Qag} {skills:Int} (ht:0≤t.skills∧t.skills≤1073741823) (hs:0≤skills∧skills≤1073741823):∃ b,QfJ t skills=some b∧QcU t skills=some b:=by
 obtain ⟨a,ha⟩:∃ a:Nat,skills=a:=⟨skills.toNat,by omega⟩
 obtain ⟨c,hc⟩:∃ c:Nat,t.skills=c:=⟨t.skills.toNat,by omega⟩
 subst ha
 refine ⟨eqI (QpI .i64 (a:Int) (c:Int)) 0,?_,?_⟩
 ·unfold QfJ
  rw [hc]
  rw [show geI (c:Int) 0=true by simp,show geI (a:Int) 0=true by simp]
  rfl
 ·unfold QcU
  rw [QaW (by simp; omega)]
  have key:QaK (fun s=>QcO t (a:Int) s) 1=some (if (eqI (QpI .i64 (a:Int) (c:Int)) 0)=true then .inl () else .inr false):=by
   have bigpow:∀ k:Nat,k≤62→(0:Int)<((2 ^ k:Nat):Int)∧((2 ^ k:Nat):Int)≤4611686018427387904:=fun k hk=>by
    have h1:=Nat.two_pow_pos k
    have h2:2 ^ k≤2 ^ 62:=Nat.pow_le_pow_right (by omega) hk
    omega
   have main:post (QaK (fun s=>QcO t (a:Int) s) 1) fun e=>e=if (eqI (QpI .i64 (a:Int) (c:Int)) 0)=true then .inl () else .inr false:=by
    refine Qct (fun s=>∃ k:Nat,k≤63∧s=(if k=63 then -9223372036854775808 else ((2 ^ k:Nat):Int))∧∀ i,i<k→a.testBit i=true→c.testBit i=true) (fun s=>if s<0 then 0 else 9223372036854775808-s.toNat) ⟨0,by omega,rfl,fun i hi=>by omega⟩ (by decide) ?_
    rintro _ ⟨k,hk,rfl,hb⟩
    show post (QcO t (a:Int) _) _
    unfold QcO
    rcases Nat.lt_or_ge k 63 with hk'|hk'
    ·rw [if_neg (by omega)]
     obtain ⟨p1,p2⟩:=bigpow k (by omega)
     rw [Qbj (by simp only [Qwg]; exact p1),QcL (by omega),hc]
     have hq:∀ z:Nat,z<9223372036854775808→quoK .i64 (z:Int) ((2 ^ k:Nat):Int)=((z / 2 ^ k:Nat):Int):=fun z hz=>by
      have e:(z:Int).tdiv ((2 ^ k:Nat):Int)=((z / 2 ^ k:Nat):Int):=by rw [Int.tdiv_eq_ediv_of_nonneg (by omega)]; rfl
      have h1:=Nat.div_le_self z (2 ^ k)
      rw [quoI,e] <;> (rw [e]; generalize z / 2 ^ k=q at h1; omega)
     rw [hq a (by omega),hq c (by omega),Qw2]
     have go:∀ h:(a.testBit k=true→c.testBit k=true),post (some (Sum.inl (mulK .i64 ((2 ^ k:Nat):Int) 2):Int⊕(Unit⊕Bool))) fun x=>(∀ s',x=.inl s'→(∃ k':Nat,k'≤63∧s'=(if k'=63 then -9223372036854775808 else ((2 ^ k':Nat):Int))∧∀ i,i<k'→a.testBit i=true→c.testBit i=true)∧(if s'<0 then 0 else 9223372036854775808-s'.toNat)<(if ((2 ^ k:Nat):Int)<0 then 0 else 9223372036854775808-((2 ^ k:Nat):Int).toNat))∧∀ e,x=.inr e→e=if (eqI (QpI .i64 (a:Int) (c:Int)) 0)=true then .inl () else .inr false:=by
      intro h
      have hm:mulK .i64 ((2 ^ k:Nat):Int) 2=if k+1=63 then -9223372036854775808 else ((2 ^ (k+1):Nat):Int):=by
       split
       ·rename_i h62
        obtain rfl:k=62:=by omega
        decide
       ·obtain ⟨q1,q2⟩:=bigpow (k+1) (by omega)
        have e:((2 ^ k:Nat):Int)*2=((2 ^ (k+1):Nat):Int):=by rw [Nat.pow_succ]; simp
        rw [mulI (by omega) (by omega),e]
      refine Qc4 ⟨⟨k+1,by omega,hm,fun i hi=>?_⟩,?_⟩
      ·rcases Nat.lt_or_eq_of_le (Nat.le_of_lt_succ hi) with hi|rfl
       ·exact hb i hi
       ·exact h
      ·rw [hm,if_neg (show ¬ ((2 ^ k:Nat):Int)<0 by omega)]
       split
       ·rw [if_pos (by omega)]; omega
       ·obtain ⟨q1,q2⟩:=bigpow (k+1) (by omega)
        have e:2 ^ (k+1)=2 ^ k*2:=Nat.pow_succ ..
        rw [if_neg (by omega)]
        omega
     refine QaE (fun h1=>Qbc (by omega) (QaE (fun h2=>Qcg ?_) (fun h2=>go fun _=>?_))) (fun h1=>go fun h=>by rw [h1] at h; cases h)
     ·rw [if_neg]
      intro h
      have h3:=(QCs (by omega) (by omega)).1 (QrZ.1 h) k h1
      rw [← Qw2,QrZ] at h3
      rw [QrZ] at h2
      omega
     ·rw [Qv9] at h2
      rw [← Qw2,QrZ]
      unfold remK at h2 ⊢
      generalize c / 2 ^ k=q at h2 ⊢
      rw [Int.tmod_eq_emod_of_nonneg (by omega)] at h2 ⊢
      omega
    ·obtain rfl:k=63:=by omega
     rw [if_pos rfl,QaW (by decide)]
     refine Qcg ?_
     rw [if_pos]
     rw [QrZ]
     refine (QCs (by omega) (by omega)).2 fun i hi=>?_
     rcases Nat.lt_or_ge i 63 with h|h
     ·exact hb i h hi
     ·rw [Nat.testBit_lt_two_pow (Nat.lt_of_lt_of_le (show a<2 ^ 63 by omega) (Nat.pow_le_pow_right (n:=2) (by omega) h))] at hi; cases hi
   exact main.eq
  rw [key,Qaj]
  split <;> simp_all
end Go.Proofs.YtfjiafgldchinaaGreatDoor
namespace Go.Proofs.YtfjiafgldchinaaGreatDoor
set_option linter.unusedSimpArgs false
set_option linter.unusedVariables false
set_option linter.unusedSectionVars false
theorem brs {α:Type} {b:Bool} {x y:α}:br b (some x) (some y)=some (if b=true then x else y):=by cases b <;> rfl
theorem Qbz {α β:Type} {l:List α} {i:Nat} {a:α} (h:l[i]?=some a) (f:α→Option β) (z:Option β):br (ltI (i:Int) (lenI l)) (bnd (getI l i) f) z=f a:=by
 have:=(List.getElem?_eq_some_iff.1 h).1
 rw [Qbj (by simp [lenI]; omega),QaR h,Qaj]
theorem Qa4 {α β:Type} {l:List α} {y z:Option β}:br (ltI (l.length:Int) (lenI l)) y z=z:=QaW (by simp [lenI])
theorem incL {α:Type} {l:List α} {i:Nat} {a:α} (h:l[i]?=some a) (hl:l.length≤1048576):addK .i64 (i:Int) 1=(i:Int)+1:=inc (List.getElem?_eq_some_iff.1 h).1 hl
def inO (x:Qab) (v:Qaa):Bool:=decide (0≤v.order∧v.order<x.orders.length)
def offV (x:Qab) (v:Qaa):Bool:=match x.orders[v.order.toNat]? with
 | some o=>o.off
 | none=>false
def isO (o:Int) (v:Qaa):Bool:=eqI v.order o
def hasO (l:List Qaa) (o:Int):Bool:=l.any (isO o)
def isV (v a:Qaa):Bool:=eqI v.order a.order&&(eqB v.drop a.drop&&true)
def visO (x:Qab) (o:Int):List Qaa:=match x.orders[o.toNat]? with
 | some q=>(if 0≤q.pick.place then [Qaa.mk o false] else [])++(if 0≤q.drop.place then [Qaa.mk o true] else [])
 | none=>[]
def rowB (l:List Qaa):List Qaa→Bool
 | []=>true
 | [a]=>geI (ixI (isV a) l) 0
 | a :: b :: _=>geI (ixI (isV a) l) 0&&ltI (ixI (isV a) l) (ixI (isV b) l)
def Qwy (x:Qab) (l:List Qaa) (v:Qaa):Bool:=(visO x v.order).any (isV v)&&rowB l (visO x v.order)
def Qmp (l:List Qaa) (p:Qau):Bool:=hasO l p.x0&&hasO l p.x1
def QA8 (l:List Qaa) (p:Qau):Bool:=match ixP (isO p.x1) l with
 | some k=>hasO (l.drop k) p.x0
 | none=>false
def badB (l:List Qaa) (p:Qau):Bool:=hasO l p.x1&&(!hasO l p.x0||QA8 l p)
instance (l:List Qaa):Decidable l.Nodup:=inferInstanceAs (Decidable (List.Nodup l))
def seqS (x:Qab) (l:List Qaa):Int :=
 if l.length=0 then 2 else if l.any (fun v=>!inO x v)=true then 2 else if l.any (offV x)=true then 9 else if ¬ l.Nodup then 6 else
 if l.any (fun v=>!Qwy x l v)=true then 19 else if x.apart.any (Qmp l)=true then 20 else if x.before.any (badB l)=true then 21 else 0
section
variable {x : Qab} {l : List Qaa}
theorem Qxl {v a:Qaa}:isV v a=true↔a=v:=by
 unfold isV
 cases v; cases a
 simp
 exact ⟨fun ⟨h1,h2⟩=>⟨h1.symm,h2.symm⟩,fun ⟨h1,h2⟩=>⟨h1.symm,h2.symm⟩⟩
theorem Qwh {o:Int} {v:Qaa}:isO o v=true↔v.order=o:=by simp [isO]
theorem Qhy {o:Int}:hasO l o=true↔∃ v∈l,v.order=o:=by simp [hasO,List.any_eq_true,isO]
theorem Qrg {v:Qaa}:l.any (isV v)=true↔v∈l:=by
 rw [List.any_eq_true]
 exact ⟨fun ⟨a,h,h'⟩=>Qxl.1 h' ▸ h,fun h=>⟨v,h,Qxl.2 rfl⟩⟩
theorem Qwj {v:Qaa}:0≤ixI (isV v) l↔v∈l:=by rw [← Qqs,Qqr,Qrg]
theorem Qvu {v:Qaa} {k:Nat} (h:ixI (isV v) l=k):l[k]?=some v∧∀ j,j<k→l[j]?≠some v:=by
 unfold ixI at h
 cases hx:ixP (isV v) l with
 | none=>rw [hx] at h; simp only at h; omega
 | some m =>
  rw [hx] at h
  simp only at h
  obtain rfl:m=k:=by omega
  obtain ⟨h1,h2,h3⟩:=Qok hx
  refine ⟨by rw [List.getElem?_eq_getElem h1,Qxl.1 h2],fun j hj he=>?_⟩
  have:=h3 j hj
  rw [List.getElem?_eq_getElem (show j<l.length by omega)] at he
  rw [Qxl.2 (Option.some.inj he)] at this
  cases this
theorem QuO (hl:l.length≤1048576) (v:Qaa):QfD l v=some (ixI (isV v) l):=by
 have:=QAz hl (isV v) (fun k=>(.inr (k:Int):Unit⊕Int)) (N:=.inl ()) (B:=fun s=>QaG l v s) (fun i a h=>by
  show QaG l v i=_
  unfold QaG
  rw [Qbz h,incL h hl,brs]; rfl) (by
  show QaG l v l.length=_
  unfold QaG
  rw [Qa4])
 unfold QfD QbX
 rw [QbW this]
 unfold ixI
 cases ixP (isV v) l <;> rfl
theorem Qk1 (hl:l.length≤1048576) (v:Qaa):Qbr l v=some (ixI (isV v) l):=by
 have:=QAz hl (isV v) (fun k=>(.inr (k:Int):Unit⊕Int)) (N:=.inl ()) (B:=fun s=>Qb6 l v s) (fun i a h=>by
  show Qb6 l v i=_
  unfold Qb6
  rw [Qbz h,incL h hl,brs]
  rw [show (eqI a.order v.order&&(eqB a.drop v.drop&&true))=isV v a by
   rw [Bool.eq_iff_iff,Qxl]; cases v; cases a; simp]) (by
  show Qb6 l v l.length=_
  unfold Qb6
  rw [Qa4])
 unfold Qbr
 rw [QbW this]
 unfold ixI
 cases ixP (isV v) l <;> rfl
theorem QxK:¬ l.Nodup↔∃ k,k<l.length∧∃ j,j<k∧l[j]?=l[k]?:=by
 unfold List.Nodup
 rw [List.pairwise_iff_getElem]
 constructor
 ·intro h
  refine Classical.byContradiction fun hn=>h fun i j hi hj hij he=>hn ⟨j,hj,i,hij,?_⟩
  rw [List.getElem?_eq_getElem hi,List.getElem?_eq_getElem hj,he]
 ·rintro ⟨k,hk,j,hj,he⟩ h
  rw [List.getElem?_eq_getElem hk,List.getElem?_eq_getElem (show j<l.length by omega)] at he
  exact h j k (by omega) hk hj (Option.some.inj he)
theorem QtL {v:Qaa} {k:Nat} (hk:k≤l.length):v∈l.take k↔∃ j,j<k∧l[j]?=some v:=by
 rw [List.mem_iff_getElem?]
 constructor
 ·rintro ⟨j,h⟩
  rw [List.getElem?_take] at h
  split at h
  ·exact ⟨j,‹_›,h⟩
  ·cases h
 ·rintro ⟨j,hj,h⟩
  exact ⟨j,by rw [List.getElem?_take,if_pos hj,h]⟩
theorem QiO {o:Int}:(visO x o).length≤2:=by
 unfold visO
 split
 ·split <;> split <;> simp
 ·simp
theorem Qsy (hx:QaV x) {o:Int} (h0:0≤o) (h1:o<x.orders.length):Qgu x.orders o=some (visO x o):=by
 have e:x.orders[o.toNat]?=some (x.orders[o.toNat]'(by omega)):=List.getElem?_eq_getElem _
 generalize x.orders[o.toNat]'(by omega)=q at e
 have hg:getI x.orders o=some q:=by unfold getI; rw [if_pos h0,e]
 unfold Qgu QkW
 rw [Qaj,Qbj (by simp [lenI]; omega),hg,Qaj]
 unfold visO
 rw [e]
 have hJ:∀ l1:List Qaa,l1.length≤1→QfX x.orders o l1=some (l1++if 0≤q.drop.place then [Qaa.mk o true] else []):=fun l1 hl=>by
  unfold QfX
  rw [hg,Qaj,QcL (by unfold okN; simp; omega),QCu]
  simp only [Qqs]
  split <;> simp
 rw [hJ _ (by simp),hJ _ (by simp),QcL (by unfold okN; simp),brs]
 simp only [Qqs]
 split <;> rfl
theorem Qmo (hx:QaV x) {o:Int} (h0:0≤o) (h1:o<x.orders.length):Qcj x o=some (visO x o):=by
 have e:x.orders[o.toNat]?=some (x.orders[o.toNat]'(by omega)):=List.getElem?_eq_getElem _
 generalize x.orders[o.toNat]'(by omega)=q at e
 have hq:=hx.ord q (List.mem_of_getElem? e)
 have hg:getI x.orders o=some q:=by unfold getI; rw [if_pos h0,e]
 have hp:neI q.pick.place (-1)=decide (0≤q.pick.place):=by
  have:=hq.pick
  rw [Bool.eq_iff_iff,Qyy,decide_eq_true_iff]
  unfold Qyi at this
  omega
 have hd:neI q.drop.place (-1)=decide (0≤q.drop.place):=by
  have:=hq.drop
  rw [Bool.eq_iff_iff,Qyy,decide_eq_true_iff]
  unfold Qyi at this
  omega
 unfold Qcj
 rw [hg,Qaj]
 unfold visO
 rw [e]
 have hJ:∀ l1:List Qaa,l1.length≤1→Qdj x o l1=some (l1++if 0≤q.drop.place then [Qaa.mk o true] else []):=fun l1 hl=>by
  unfold Qdj
  rw [hg,Qaj,QcL (by unfold okN; simp; omega),hd,QCu]
  simp only [decide_eq_true_iff]
  split <;> simp
 rw [hJ _ (by simp),hJ _ (by simp),QcL (by unfold okN; simp),hp,brs]
 simp only [decide_eq_true_iff]
 split <;> rfl
theorem Qpc {o:Int} {a b:Qaa} {r:List Qaa} (h:visO x o=a :: b :: r):r=[]∧a≠b:=by
 have h2:=QiO (x:=x) (o:=o)
 rw [h] at h2
 have hr:r=[]:=by cases r with
  | nil=>rfl
  | cons c r=>simp at h2
 refine ⟨hr,?_⟩
 subst hr
 unfold visO at h
 split at h
 ·split at h <;> split at h <;> simp at h
  obtain ⟨rfl,rfl⟩:=h
  simp
 ·cases h
theorem Qni (h:l.any (fun v=>!inO x v)=false) {v:Qaa} (hv:v∈l):0≤v.order∧v.order<x.orders.length:=by
 have:=List.any_eq_false.1 h v hv
 simpa [inO] using this
theorem QlI (hl:l.length≤1048576) {r:List Qaa} (hr:r.length≤2):QcA l r=some (!r.any (fun a=>ltI (ixI (isV a) l) 0)):=by
 have:=Qcv (B:=fun s=>Qbs l r s) (l:=r) (by omega) (fun a=>ltI (ixI (isV a) l) 0) (y:=(.inr false:Unit⊕Bool)) (N:=.inl ()) (fun i a h=>by
  show Qbs l r i=_
  unfold Qbs
  rw [Qbz h,Qk1 hl,Qaj,incL h (by omega),brs]) (by
  show Qbs l r r.length=_
  unfold Qbs
  rw [Qa4])
 unfold QcA
 rw [QbW this]
 cases r.any (fun a=>ltI (ixI (isV a) l) 0) <;> rfl
theorem QvB {a b:Int}:ltI a b=!geI a b:=by rw [Bool.eq_iff_iff]; simp
theorem QyB (hx:QaV x) (hl:l.length≤1048576) (ho:l.any (fun v=>!inO x v)=false):Qda x l=some (!l.any (fun v=>!Qwy x l v)):=by
 have:=Qcv (B:=fun s=>QbT x l s) hl (fun v=>!Qwy x l v) (y:=(.inr false:Unit⊕Bool)) (N:=.inl ()) (fun i a h=>by
  obtain ⟨h0,h1⟩:=Qni ho (List.mem_of_getElem? h)
  show QbT x l i=_
  unfold QbT
  have hv:=QiO (x:=x) (o:=a.order)
  rw [Qbz h,Qmo hx h0 h1,Qaj,Qk1 (by omega),Qaj,QlI hl hv,Qaj,incL h hl]
  rw [QvB,Qqr]
  have hP:Qwy x l a=((visO x a.order).any (isV a)&&rowB l (visO x a.order)):=rfl
  generalize Qwy x l a=P at hP ⊢
  cases hany:(visO x a.order).any (isV a) with
  | false=>rw [hany] at hP; subst hP; rfl
  | true =>
   rw [hany,Bool.true_and] at hP
   rw [Bool.not_true,Qca]
   cases hvis:visO x a.order with
   | nil=>rw [hvis] at hP; subst hP; rfl
   | cons c r =>
    cases r with
    | nil =>
     rw [hvis] at hP
     rw [List.any_cons,List.any_nil,Bool.or_false,QvB,Bool.not_not,← show P=geI (ixI (isV c) l) 0 from hP]
     cases P <;> rfl
    | cons d r =>
     obtain ⟨rfl,hne⟩:=Qpc hvis
     rw [hvis] at hP
     rw [List.any_cons,List.any_cons,List.any_nil,Bool.or_false]
     show br _ (br true (bnd (some c) fun x2=>bnd (Qbr l x2) fun r3=>bnd (some d) fun x3=>bnd (Qbr l x3) fun r4=>br (gtI r3 r4) _ _) _) _=_
     rw [QcK,Qaj,Qk1 hl,Qaj,Qaj,Qk1 hl,Qaj]
     simp only [rowB] at hP
     have hc:=QDI (p:=isV c) (l:=l)
     have hd:=QDI (p:=isV d) (l:=l)
     have hcd:0≤ixI (isV c) l→ixI (isV c) l≠ixI (isV d) l:=fun h0 he=>by
      obtain ⟨k,hk⟩:∃ k:Nat,ixI (isV c) l=k:=⟨(ixI (isV c) l).toNat,by omega⟩
      have e1:=(Qvu hk).1
      have e2:=(Qvu (he.symm.trans hk)).1
      rw [e1] at e2
      exact hne (Option.some.inj e2)
     generalize ixI (isV c) l=m at *
     generalize ixI (isV d) l=n at *
     cases P with
     | true =>
      have hP':=hP.symm
      simp only [Bool.and_eq_true,Qqs,Qoi] at hP'
      rw [Qbj (by simp; omega),QaW (by simp; omega)]
      rfl
     | false =>
      have hP':=hP.symm
      simp only [Bool.and_eq_false_iff,Qys,QoX] at hP'
      by_cases h1:0≤m∧0≤n
      ·have:=hcd h1.1
       rw [Qbj (by simp; omega),Qbj (by simp; omega)]
       rfl
      ·rw [QaW (by simp; omega)]
       rfl) (by
  show QbT x l l.length=_
  unfold QbT
  rw [Qa4])
 unfold Qda
 rw [QbW this]
 cases l.any (fun v=>!Qwy x l v) <;> rfl
end
end Go.Proofs.YtfjiafgldchinaaGreatDoor
namespace Go.Proofs.YtfjiafgldchinaaGreatDoor
set_option linter.unusedSimpArgs false
set_option linter.unusedVariables false
set_option linter.unusedSectionVars false
section
variable {x : Qab} {l : List Qaa}
theorem QxN {v:Qaa} (h0:0≤v.order) (h1:v.order<x.orders.length):∃ o,getI x.orders v.order=some o∧o∈x.orders∧offV x v=o.off∧x.orders[v.order.toNat]?=some o:=by
 have e:x.orders[v.order.toNat]?=some (x.orders[v.order.toNat]'(by omega)):=List.getElem?_eq_getElem _
 refine ⟨_,Qr0 h0 h1,List.getElem_mem _,?_,e⟩
 unfold offV
 rw [e]
theorem Qrn {m:Nat} (hm:m<9223372036854775808) {i:Int} (h0:0≤i) (h1:i≤62):Qb8 (m:Int) i=some (m.testBit i.toNat):=by
 obtain ⟨k,rfl⟩:∃ k:Nat,i=k:=⟨i.toNat,by omega⟩
 unfold Qb8
 rw [Qbj (by simp; omega),cvuN (by omega),QcL (by omega),shrN (by omega),Qw2]
 rfl
structure QA3 (l:List Qaa) (s:Int):Prop where
 ex:∃ m:Nat,s=m∧m<1024∧∀ i:Nat,m.testBit i=hasO l (i:Int)
theorem QAb {r:Qam} (hx:QaV x) (hl:r.visits.length≤1048576) (ho:r.visits.any (fun v=>!inO x v)=false):post (QcH r) fun s=>s.2=0∧QA3 r.visits s.1:=by
 have hx10:=hx.orders
 unfold QcH
 refine Qpo ?_
 refine Qct (fun s=>∃ (k m:Nat),s=((m:Int),(k:Int))∧k≤r.visits.length∧m<1024∧∀ i:Nat,m.testBit i=hasO (r.visits.take k) (i:Int)) (fun s=>r.visits.length-s.2.toNat) ⟨0,0,rfl,Nat.zero_le _,by omega,fun i=>by simp [hasO]⟩ (by simp; omega) ?_
 rintro _ ⟨k,m,rfl,hk,hm,hb⟩
 show post (Qdi r (m:Int) (k:Int)) _
 unfold Qdi
 rcases Nat.lt_or_ge k r.visits.length with h|h
 ·have e:r.visits[k]?=some r.visits[k]:=List.getElem?_eq_getElem h
  have hin:=Qni ho (List.getElem_mem h)
  have htk:r.visits.take (k+1)=r.visits.take k++[r.visits[k]]:=by rw [List.take_add_one,e]; rfl
  generalize r.visits[k]=v at e hin htk
  obtain ⟨n,hn⟩:∃ n:Nat,v.order=n:=⟨v.order.toNat,by omega⟩
  have hov:∀ i:Nat,hasO (r.visits.take (k+1)) (i:Int)=(hasO (r.visits.take k) (i:Int)||decide (n=i)):=fun i=>by
   rw [htk]
   unfold hasO
   rw [List.any_append,List.any_cons,List.any_nil,Bool.or_false]
   congr 1
   rw [Bool.eq_iff_iff,Qwh,hn,decide_eq_true_iff]
   omega
  rw [Qbz e,QaW (by rw [hn]; simp; omega),Qrn (by omega) (by omega) (by omega),Qaj,incL e hl,hn]
  simp only [Int.toNat_natCast]
  refine QaE (fun h1=>Qc4 ⟨⟨k+1,m,rfl,h,hm,fun i=>?_⟩,by simp; omega⟩) (fun h1=>?_)
  ·rw [hov,← hb]
   by_cases hi:n=i
   ·subst hi; rw [h1]; rfl
   ·rw [decide_eq_false hi,Bool.or_false]
  ·rw [cvuN (by omega),QcL (by omega),shlN (by omega)]
   have h2:2 ^ n≤2 ^ 9:=Nat.pow_le_pow_right (by omega) (by omega)
   have h3:(0:Int)≤((2 ^ n:Nat):Int)∧((2 ^ n:Nat):Int)≤512:=⟨Int.natCast_nonneg _,Int.ofNat_le.2 (show 2 ^ n≤512 by omega)⟩
   rw [addI (by omega) (by omega)]
   have hbit:∀ i,(m+2 ^ n).testBit i=hasO (r.visits.take (k+1)) (i:Int):=fun i=>by rw [QEP h1,hov,hb]
   refine Qc4 ⟨⟨k+1,m+2 ^ n,by simp,h,?_,hbit⟩,by simp; omega⟩
   refine Nat.lt_pow_two_of_testBit (n:=10) _ fun i hi=>?_
   rw [hbit]
   rw [Bool.eq_false_iff]
   intro hh
   obtain ⟨w,hw,hwi⟩:=Qhy.1 hh
   have:=Qni ho (List.mem_of_mem_take hw)
   omega
 ·obtain rfl:k=r.visits.length:=by omega
  rw [Qa4]
  refine Qcg ?_
  rw [Qdm]
  exact Qaw.2 ⟨rfl,⟨m,rfl,hm,fun i=>by rw [hb,List.take_length]⟩⟩
theorem QA3.has {s:Int} (h:QA3 l s) {i:Int} (h0:0≤i) (h1:i≤62):Qb8 s i=some (hasO l i):=by
 obtain ⟨m,rfl,hm,hb⟩:=h.ex
 rw [Qrn (by omega) h0 h1,hb,Int.toNat_of_nonneg h0]
theorem Qvc (hx:QaV x) {s:Int} (h:QA3 l s):QcD x s=some (!x.apart.any (Qmp l)):=by
 have ha:=hx.apart
 have hx10:=hx.orders
 have:=Qcv (B:=fun i=>Qb7 x s i) (l:=x.apart) (by omega) (Qmp l) (y:=(.inr false:Unit⊕Bool)) (N:=.inl ()) (fun i a ha'=>by
  obtain ⟨p0,p1,p2,p3,p4⟩:=hx.aparts a (List.mem_of_getElem? ha')
  show Qb7 x s i=_
  unfold Qb7
  rw [Qbz ha',h.has p0 (by omega),Qaj,h.has p2 (by omega),Qaj,incL ha' (by omega)]
  unfold Qmp
  cases hasO l a.x0 <;> cases hasO l a.x1 <;> rfl) (by
  show Qb7 x s x.apart.length=_
  unfold Qb7
  rw [Qa4])
 unfold QcD
 rw [QbW this]
 cases x.apart.any (Qmp l) <;> rfl
theorem QDO {p:Qau} (hne:p.x0≠p.x1) (hb:hasO l p.x1=true):QA8 l p=true↔∃ j,j<l.length∧∃ k,k<j∧(∃ v,l[j]?=some v∧v.order=p.x0)∧∃ w,l[k]?=some w∧w.order=p.x1:=by
 unfold QA8
 cases h:ixP (isO p.x1) l with
 | none =>
  obtain ⟨w,hw,he⟩:=Qhy.1 hb
  have:=Qut h w hw
  rw [Qwh.2 he] at this
  cases this
 | some m =>
  obtain ⟨g1,g2,g3⟩:=Qok h
  simp only
  rw [Qhy]
  constructor
  ·rintro ⟨v,hv,he⟩
   obtain ⟨q,hq,rfl⟩:=List.getElem_of_mem hv
   rw [List.length_drop] at hq
   rw [List.getElem_drop] at he
   have hmq:q≠0:=fun h0=>by subst h0; exact hne (he.symm.trans (Qwh.1 (by simpa using g2)))
   exact ⟨m+q,by omega,m,by omega,⟨_,List.getElem?_eq_getElem (by omega),he⟩,⟨_,List.getElem?_eq_getElem g1,Qwh.1 g2⟩⟩
  ·rintro ⟨j,hj,k,hk,⟨v,hv,he⟩,⟨w,hw,hwe⟩⟩
   have hmk:m≤k:=Nat.le_of_not_lt fun hlt=>by
    have:=g3 k hlt
    rw [List.getElem?_eq_getElem (show k<l.length by omega)] at hw
    rw [Option.some.inj hw,Qwh.2 hwe] at this
    cases this
   exact ⟨v,List.mem_iff_getElem?.2 ⟨j-m,by rw [List.getElem?_drop,show m+(j-m)=j by omega,hv]⟩,he⟩
theorem Qyj (hx:QaV x) (hl:l.length≤1048576) {s:Int} (h:QA3 l s):Qc9 x s l=some (!x.before.any (badB l)):=by
 have hbf:=hx.before
 have hx10:=hx.orders
 have:=Qcv (B:=fun i=>QbQ x s l i) (l:=x.before) (by omega) (badB l) (y:=(.inr false:Unit⊕Bool)) (N:=.inl ()) (fun i a ha'=>by
  obtain ⟨p0,p1,p2,p3,p4⟩:=hx.befores a (List.mem_of_getElem? ha')
  show QbQ x s l i=_
  unfold QbQ
  rw [Qbz ha',h.has p2 (by omega),Qaj,h.has p0 (by omega),Qaj,incL ha' (by omega)]
  have hP:badB l a=(hasO l a.x1&&(!hasO l a.x0||QA8 l a)):=rfl
  generalize badB l a=P at hP ⊢
  cases hb:hasO l a.x1 with
  | false=>rw [hb] at hP; subst hP; rfl
  | true =>
   rw [hb] at hP
   cases hq:hasO l a.x0 with
   | false=>rw [hq] at hP; subst hP; rfl
   | true =>
    rw [hq] at hP
    obtain rfl:P=QA8 l a:=hP
    have inner:QaK (fun q=>QbR x s l (i:Int) a q) 0=some (if QA8 l a=true then .inr false else .inl ()):=by
     refine Qty hl (fun j=>(List.range j).any fun k=>match l[j]?,l[k]? with|some v,some w=>decide (v.order=a.x0)&&decide (w.order=a.x1)|_,_=>false) ?_ (fun j hj=>?_) ?_
     ·rw [QDO p4 hb]
      constructor
      ·rintro ⟨j,hj,k,hk,⟨v,hv,e1⟩,⟨w,hw,e2⟩⟩
       refine ⟨j,hj,List.any_eq_true.2 ⟨k,List.mem_range.2 hk,?_⟩⟩
       rw [hv,hw]; simp [e1,e2]
      ·rintro ⟨j,hj,hh⟩
       obtain ⟨k,hk,hm⟩:=List.any_eq_true.1 hh
       rw [List.mem_range] at hk
       rw [List.getElem?_eq_getElem hj,List.getElem?_eq_getElem (show k<l.length by omega)] at hm
       simp only [Bool.and_eq_true,decide_eq_true_iff] at hm
       exact ⟨j,hj,k,hk,⟨_,List.getElem?_eq_getElem hj,hm.1⟩,⟨_,List.getElem?_eq_getElem (show k<l.length by omega),hm.2⟩⟩
     ·have ej:l[j]?=some l[j]:=List.getElem?_eq_getElem hj
      show QbR x s l (i:Int) a j=_
      unfold QbR
      rw [Qbj (by simp [lenI]; omega),inc hj hl]
      have in2:=Qty (B:=fun q=>QbS x s l (i:Int) a (j:Int) q) (n:=j) (by omega) (fun k=>match l[j]?,l[k]? with|some v,some w=>decide (v.order=a.x0)&&decide (w.order=a.x1)|_,_=>false) (y:=(.inr false:Unit⊕Bool)) (N:=.inl ())
       (b:=(List.range j).any fun k=>match l[j]?,l[k]? with|some v,some w=>decide (v.order=a.x0)&&decide (w.order=a.x1)|_,_=>false) (by
        rw [List.any_eq_true]
        exact ⟨fun ⟨k,hk,hm⟩=>⟨k,List.mem_range.1 hk,hm⟩,fun ⟨k,hk,hm⟩=>⟨k,List.mem_range.2 hk,hm⟩⟩) (fun k hk=>by
       have ek:l[k]?=some (l[k]'(by omega)):=List.getElem?_eq_getElem _
       show QbS x s l (i:Int) a (j:Int) k=_
       unfold QbS
       rw [Qbj (by simp; omega),QaR ej,Qaj,QaR ek,Qaj,inc (n:=l.length) (by omega) hl,ej,ek]
       simp only [brs,QrZ,Bool.and_eq_true,decide_eq_true_iff]
       by_cases c1:(l[j]).order=a.x0
       ·rw [if_pos c1]
        by_cases c2:(l[k]'(by omega)).order=a.x1
        ·rw [if_pos c2,if_pos ⟨c1,c2⟩]
        ·rw [if_neg c2,if_neg fun h=>c2 h.2]
       ·rw [if_neg c1,if_neg fun h=>c1 h.1]) (by
       show QbS x s l (i:Int) a (j:Int) j=_
       unfold QbS
       rw [QaW (by simp)])
      rw [QbW in2]
      split <;> rfl
     ·show QbR x s l (i:Int) a l.length=_
      unfold QbR
      rw [QaW (by simp [lenI])]
    rw [QcK,QcK,QbW inner]
    cases QA8 l a <;> rfl) (by
  show QbQ x s l x.before.length=_
  unfold QbQ
  rw [Qa4])
 unfold Qc9
 rw [QbW this]
 cases x.before.any (badB l) <;> rfl
theorem Qu9 {r:Qam} (hx:QaV x) (hl:r.visits.length≤1048576):Qe9 x r=some (seqS x r.visits):=by
 unfold Qe9 seqS
 rw [QbW (Qcv (B:=fun s=>Qb5 x r s) hl (fun v=>!inO x v) (y:=(.inr 2:Unit⊕Int)) (N:=.inl ()) (fun i a h=>by
  show Qb5 x r i=_
  unfold Qb5
  rw [Qbz h,incL h hl]
  have hP:(!inO x a)=(ltI a.order 0||geI a.order (lenI x.orders)):=by
   unfold inO lenI; rw [Bool.eq_iff_iff]; simp
  rw [hP]
  cases ltI a.order 0 <;> cases geI a.order (lenI x.orders) <;> rfl) (by
  show Qb5 x r r.visits.length=_
  unfold Qb5
  rw [Qa4]))]
 by_cases h1:r.visits.any (fun v=>!inO x v)=true
 ·rw [if_pos h1,Qm6]
  split <;> rfl
 have h1':r.visits.any (fun v=>!inO x v)=false:=by simpa using h1
 rw [if_neg h1,if_neg h1,Qdm]
 obtain ⟨s,hs,hs0,hset⟩:=QAb hx hl h1'
 rw [hs,Qaj,hs0]
 by_cases h0:r.visits.length=0
 ·rw [Qbj (by simp [lenI,h0]),if_pos h0]
 rw [QaW (by simp only [lenI,neI,orF,Qv9]; simp; intro h; exact h0 (by rw [h]; rfl)),if_neg h0]
 rw [QbW (Qcv (B:=fun q=>QbG x r s q) hl (offV x) (y:=(.inr 9:Unit⊕Int)) (N:=.inl ()) (fun i a h=>by
  obtain ⟨h0,h1⟩:=Qni h1' (List.mem_of_getElem? h)
  obtain ⟨o,g1,g2,g3,_⟩:=QxN h0 h1
  show QbG x r s i=_
  unfold QbG
  rw [Qbz h,g1,Qaj,incL h hl,brs,g3]) (by
  show QbG x r s r.visits.length=_
  unfold QbG
  rw [Qa4]))]
 by_cases h2:r.visits.any (offV x)=true
 ·rw [if_pos h2,if_pos h2]; rfl
 rw [if_neg h2,if_neg h2,Qdm]
 rw [QbW (Qty (B:=fun q=>Qbq x r s q) hl (fun k=>match r.visits[k]? with|some v=>neI (ixI (isV v) r.visits) (k:Int)|none=>false) (y:=(.inr 6:Unit⊕Int)) (N:=.inl ()) (b:=decide (¬ r.visits.Nodup)) (by
  rw [decide_eq_true_iff,QxK]
  constructor
  ·rintro ⟨k,hk,j,hj,he⟩
   refine ⟨k,hk,?_⟩
   rw [List.getElem?_eq_getElem hk] at he ⊢
   simp only [Qyy]
   intro h
   exact (Qvu h).2 j hj he
  ·rintro ⟨k,hk,h⟩
   rw [List.getElem?_eq_getElem hk] at h
   simp only [Qyy] at h
   have h0:=Qwj.2 (List.getElem_mem hk)
   obtain ⟨m,hm⟩:∃ m:Nat,ixI (isV r.visits[k]) r.visits=m:=⟨(ixI (isV r.visits[k]) r.visits).toNat,by omega⟩
   obtain ⟨g1,g2⟩:=Qvu hm
   have hmk:m<k:=by
    rcases Nat.lt_trichotomy m k with h'|h'|h'
    ·exact h'
    ·exact absurd (by rw [hm,h']) h
    ·exact absurd (List.getElem?_eq_getElem hk) (g2 k h')
   exact ⟨k,hk,m,hmk,by rw [g1,List.getElem?_eq_getElem hk]⟩) (fun i hi=>by
  have h:r.visits[i]?=some r.visits[i]:=List.getElem?_eq_getElem hi
  show Qbq x r s i=_
  unfold Qbq
  rw [Qbz h,Qk1 hl,Qaj,incL h hl,brs,h]) (by
  show Qbq x r s r.visits.length=_
  unfold Qbq
  rw [Qa4]))]
 by_cases h3:¬ r.visits.Nodup
 ·rw [if_pos (decide_eq_true h3),if_pos h3]; rfl
 rw [if_neg (by rw [decide_eq_false h3]; decide),if_neg h3,Qdm,QyB hx hl h1',Qaj]
 by_cases h4:r.visits.any (fun v=>!Qwy x r.visits v)=true
 ·rw [QaW (by rw [h4]; rfl),if_pos h4]
 rw [Qbj (by simpa using h4),if_neg h4,Qvc hx hset,Qaj]
 by_cases h5:x.apart.any (Qmp r.visits)=true
 ·rw [QaW (by rw [h5]; rfl),if_pos h5]
 rw [Qbj (by simpa using h5),if_neg h5,Qyj hx hl hset,Qaj]
 by_cases h6:x.before.any (badB r.visits)=true
 ·rw [QaW (by rw [h6]; rfl),if_pos h6]
 ·rw [Qbj (by simpa using h6),if_neg h6]
end
end Go.Proofs.YtfjiafgldchinaaGreatDoor
namespace Go.Proofs.YtfjiafgldchinaaGreatDoor
set_option linter.unusedSimpArgs false
set_option linter.unusedVariables false
set_option linter.unusedSectionVars false
def sumN:Nat→(Nat→Int)→Int
 | 0,_=>0
 | n+1,f=>sumN n f+f n
theorem Qh3 {f g:Nat→Int}:∀ n,(∀ i,i<n→f i=g i)→sumN n f=sumN n g
 | 0,_=>rfl
 | n+1,h=>by unfold sumN; rw [Qh3 n fun i hi=>h i (by omega),h n (by omega)]
theorem QtK {f g:Nat→Int} {o:Nat}:∀ n,o<n→(∀ i,i≠o→g i=f i)→sumN n g=sumN n f+(g o-f o)
 | 0,h,_=>by omega
 | n+1,h,hg=>by
  unfold sumN
  rcases Nat.lt_or_eq_of_le (Nat.le_of_lt_succ h) with h'|rfl
  ·rw [QtK n h' hg,hg n (by omega)]; omega
  ·rw [Qh3 _ fun i hi=>hg i (by omega)]; omega
theorem QvV {f:Nat→Int} {c:Int} (hc:0≤c):∀ n,(∀ i,0≤f i∧f i≤c)→0≤sumN n f∧sumN n f≤n*c
 | 0,_=>by simp [sumN]
 | n+1,h=>by
  have h1:=QvV hc n h
  have h2:=h n
  unfold sumN
  rw [show ((n+1:Nat):Int)*c=n*c+c by rw [Int.natCast_add,Int.add_mul]; simp]
  omega
def vecN (D:Nat) (f:Nat→Int):List Int:=(List.range D).map f
theorem QdV {D:Nat} {f:Nat→Int}:(vecN D f).length=D:=by simp [vecN]
theorem QfG {D:Nat} {f:Nat→Int} {k:Nat} (h:k<D):(vecN D f)[k]?=some (f k):=by simp [vecN,h]
theorem Qgy {D:Nat} {f g:Nat→Int} (h:∀ d,d<D→f d=g d):vecN D f=vecN D g:=by
 unfold vecN
 exact List.map_congr_left fun d hd=>h d (List.mem_range.1 hd)
theorem QAT {D:Nat} {f:Nat→Int} {k:Nat} {y:Int} (h:k<D):setI (vecN D f) (k:Int) y=vecN D (fun d=>if d=k then y else f d):=by
 unfold setI
 refine List.ext_getElem? fun i=>?_
 rw [List.getElem?_set]
 simp only [Int.toNat_natCast,QdV]
 split
 ·rename_i he
  subst he
  exact ((QfG (f:=fun d=>if d=k then y else f d) h).trans (by simp)).symm
 ·rename_i he
  rcases Nat.lt_or_ge i D with h'|h'
  ·rw [QfG h',QfG h',if_neg (by omega)]
  ·rw [List.getElem?_eq_none (by rw [QdV]; omega),List.getElem?_eq_none (by rw [QdV]; omega)]
theorem QFF {l:List Int}:l=vecN l.length (fun d=>l.getD d 0):=by
 refine List.ext_getElem? fun i=>?_
 rcases Nat.lt_or_ge i l.length with h|h
 ·rw [QfG h,List.getElem?_eq_getElem h,List.getD_eq_getElem?_getD,List.getElem?_eq_getElem h]; rfl
 ·rw [List.getElem?_eq_none h,List.getElem?_eq_none (by rw [QdV]; omega)]
theorem Qw9 {D:Nat} {f g h:Nat→Int} (hD:D≤3) {B:List Int×Int→Option ((List Int×Int)⊕(List Int))}
  (hin:∀ (k:Nat) (l1:List Int),k<D→l1.length=D→B (l1,(k:Int))=some (.inl (setI l1 k (h k),(k:Int)+1))) (hend:∀ l1:List Int,B (l1,(D:Int))=some (.inr l1)) :
  QaK B (List.replicate D 0,0)=some (vecN D h):=by
 have h0:(List.replicate D (0:Int),(0:Int))=(vecN D (fun d=>if d<0 then h d else 0),((0:Nat):Int)):=by
  congr 1
  refine List.ext_getElem? fun i=>?_
  rcases Nat.lt_or_ge i D with h|h
  ·rw [QfG h]; simp [h]
  ·rw [List.getElem?_eq_none (by simp; omega),List.getElem?_eq_none (by rw [QdV]; omega)]
 rw [h0]
 refine Qep D (fun k=>(vecN D (fun d=>if d<k then h d else 0),(k:Int))) (by omega) (fun k hk=>?_) ?_
 ·rw [hin k _ hk QdV,QAT hk]
  simp only [Int.natCast_add,Int.cast_ofNat_Int]
  congr 3
  refine Qgy fun d hd=>?_
  by_cases h1:d=k
  ·rw [if_pos h1,if_pos (by omega),h1]
  ·rw [if_neg h1]
   by_cases h2:d<k
   ·rw [if_pos h2,if_pos (by omega)]
   ·rw [if_neg h2,if_neg (by omega)]
 ·rw [hend]
  congr 2
  exact Qgy fun d hd=>if_pos hd
theorem QEH {D:Nat} {f g:Nat→Int} (hD:D≤3) (hf:∀ d,d<D→-4000000000≤f d∧f d≤4000000000) (hg:∀ d,d<D→-4000000000≤g d∧g d≤4000000000):Qpm (vecN D f) (vecN D g)=some (vecN D (fun d=>f d+g d),0):=by
 unfold Qpm QgD
 rw [QaW (by simp [lenI,QdV])]
 have hm:mkI (lenI (vecN D f)) (lenI (vecN D f)) 8 (0:Int)=some (List.replicate D 0):=by
  unfold mkI lenI
  rw [QdV,if_pos (by omega)]
  rfl
 rw [hm,Qaj]
 rw [QbW (Qw9 (D:=D) (f:=f) (g:=g) (h:=fun d=>f d+g d) hD (B:=fun s=>QbB (vecN D f) (vecN D g) (List.replicate D 0) s.1 s.2) (fun k l1 hk hl=>by
  have a1:=hf k hk
  have a2:=hg k hk
  show QbB (vecN D f) (vecN D g) (List.replicate D 0) l1 k=_
  unfold QbB Qqv
  rw [Qbz (QfG hk),QaR (QfG hk),Qaj,Qaj,Qyt (by omega),Qaj,addI (by omega) (by omega),addI (by omega) (by omega)]) (fun l1=>by
  show QbB (vecN D f) (vecN D g) (List.replicate D 0) l1 D=_
  unfold QbB
  rw [QaW (by simp [lenI,QdV])]))]
 rfl
theorem QFW {D:Nat} {f g:Nat→Int} (hD:D≤3) (hf:∀ d,d<D→-4000000000≤f d∧f d≤4000000000) (hg:∀ d,d<D→-4000000000≤g d∧g d≤4000000000):Qqu (vecN D f) (vecN D g)=some (vecN D (fun d=>f d-g d),0):=by
 unfold Qqu QfZ
 rw [QaW (by simp [lenI,QdV])]
 have hm:mkI (lenI (vecN D f)) (lenI (vecN D f)) 8 (0:Int)=some (List.replicate D 0):=by
  unfold mkI lenI
  rw [QdV,if_pos (by omega)]
  rfl
 rw [hm,Qaj]
 rw [QbW (Qw9 (D:=D) (f:=f) (g:=g) (h:=fun d=>f d-g d) hD (B:=fun s=>Qbl (vecN D f) (vecN D g) (List.replicate D 0) s.1 s.2) (fun k l1 hk hl=>by
  have a1:=hf k hk
  have a2:=hg k hk
  show Qbl (vecN D f) (vecN D g) (List.replicate D 0) l1 k=_
  unfold Qbl Qpn
  rw [Qbz (QfG hk),QaR (QfG hk),Qaj,Qaj,Qyt (by omega),Qaj,subI (by omega) (by omega),addI (by omega) (by omega)]) (fun l1=>by
  show Qbl (vecN D f) (vecN D g) (List.replicate D 0) l1 D=_
  unfold Qbl
  rw [QaW (by simp [lenI,QdV])]))]
 rfl
section
variable {x : Qab} {l : List Qaa} {r : Qam}
theorem QA3.Has {s:Int} (h:QA3 l s) {i:Int} (h0:0≤i) (h1:i≤62):QbV s i=some (hasO l i):=by
 obtain ⟨m,rfl,hm,hb⟩:=h.ex
 obtain ⟨k,rfl⟩:∃ k:Nat,i=k:=⟨i.toNat,by omega⟩
 unfold QbV
 rw [Qbj (by simp; omega),QcL (by omega),shrN (by omega)]
 have hd:=Nat.div_le_self m (2 ^ k)
 rw [show (1:Int)=((1:Nat):Int) from rfl,andN (by omega) (by omega),Nat.and_one_is_mod,← hb,Nat.testBit_eq_decide_div_mod_eq]
 congr 1
 generalize m / 2 ^ k=q
 rw [Bool.eq_iff_iff,QrZ,decide_eq_true_iff]
 omega
def memN (l:List Qaa):Nat→List Int
 | 0=>[]
 | n+1=>memN l n++(if hasO l (n:Int)=true then [(n:Int)] else [])
theorem Qth:∀ n,(memN l n).length≤n
 | 0=>Nat.le_refl 0
 | n+1=>by have:=Qth n; unfold memN; split <;> simp <;> omega
theorem QsK {s:Int} (h:QA3 l s):QfE s=some (memN l 63):=by
 unfold QfE
 have this:QaK (fun q:List Int×Int=>Qbf s q.1 q.2) ([],0)=some (memN l 63):=Qep 63 (fun k=>(memN l k,(k:Int))) (B:=fun q=>Qbf s q.1 q.2) (by omega) (fun k hk=>by
  show Qbf s (memN l k) (k:Int)=_
  have:=Qth (l:=l) k
  unfold Qbf
  rw [Qbj (by simp; omega),h.Has (by omega) (by omega),Qaj,addI (by omega) (by omega),QcL (by unfold okN; simp; omega),brs]
  show _=some (Sum.inl (memN l k++(if hasO l (k:Int)=true then [(k:Int)] else []),((k+1:Nat):Int)))
  split <;> simp) (by
  show Qbf s (memN l 63) ((63:Nat):Int)=_
  unfold Qbf
  rw [QaW (by decide)])
 rw [QbW this]
end
end Go.Proofs.YtfjiafgldchinaaGreatDoor
namespace Go.Proofs.YtfjiafgldchinaaGreatDoor
set_option linter.unusedSimpArgs false
set_option linter.unusedVariables false
set_option linter.unusedSectionVars false
def sumF {α:Type} (f:α→Int) (l:List α):Int:=(l.map f).sum
theorem QtI {α:Type} {f:α→Int} {a b:List α}:sumF f (a++b)=sumF f a+sumF f b:=by simp [sumF,List.sum_append]
theorem QtJ {α:Type} {f:α→Int} {a:α}:sumF f [a]=f a:=by simp [sumF]
theorem QAP {α:Type} {f:α→Int}:sumF f []=0:=rfl
theorem take_one {α:Type} {l:List α} {k:Nat} {a:α} (h:l[k]?=some a):l.take (k+1)=l.take k++[a]:=by rw [List.take_add_one,h]; rfl
theorem Qx6 {α:Type} {f:α→Int} {l:List α} {k:Nat} {a:α} (h:l[k]?=some a):sumF f (l.take (k+1))=sumF f (l.take k)+f a:=by rw [take_one h,QtI,QtJ]
theorem Qx5 {α:Type} {f:α→Int}:∀ {l:List α},(∀ a∈l,0≤f a∧f a≤1000)→0≤sumF f l∧sumF f l≤1000*l.length
 | [],_=>by simp [sumF]
 | a :: l,h=>by
  have h1:=Qx5 (f:=f) (l:=l) fun b hb=>h b (List.mem_cons_of_mem _ hb)
  have h2:=h a (List.mem_cons_self ..)
  have e:sumF f (a :: l)=f a+sumF f l:=by simp [sumF]
  rw [e,List.length_cons]
  omega
section
variable (x : Qab)
def QsF (i d:Nat):Int:=match x.orders[i]? with
 | some o=>o.load.getD d 0
 | none=>0
def pk0 (i:Nat):Bool:=match x.orders[i]? with
 | some o=>decide (o.pick.place<0)
 | none=>false
def onK (l:List Qaa) (i:Nat):Bool:=l.foldl (fun b v=>if v.order=(i:Int) then !v.drop else b) (pk0 x i)
def incl (l:List Qaa) (k i d:Nat):Int:=if (hasO l (i:Int)&&onK x (l.take k) i)=true then QsF x i d else 0
def Qwl (l:List Qaa) (k d:Nat):Int:=sumN x.orders.length fun i=>incl x l k i d
end
section
variable {x : Qab} {l : List Qaa} {r : Qam}
theorem QuJ (hx:QaV x) {i:Nat} (hi:i<x.orders.length):∃ o,x.orders[i]?=some o∧o∈x.orders∧o.load=vecN (Qdc x.types) (QsF x i)∧(∀ d,0≤QsF x i d∧QsF x i d≤1000)∧pk0 x i=decide (o.pick.place<0):=by
 have e:x.orders[i]?=some x.orders[i]:=List.getElem?_eq_getElem hi
 have hm:=List.getElem_mem hi
 generalize x.orders[i]=o at e hm
 have hO:=hx.ord o hm
 refine ⟨o,e,hm,?_,fun d=>?_,by unfold pk0; rw [e]⟩
 ·have:=QFF (l:=o.load)
  rw [hO.load] at this
  rw [this]
  refine Qgy fun d hd=>?_
  unfold QsF
  rw [e]
 ·unfold QsF
  rw [e]
  simp only
  rw [List.getD_eq_getElem?_getD]
  rcases Nat.lt_or_ge d o.load.length with h|h
  ·rw [List.getElem?_eq_getElem h]
   exact hO.loads d h _ (List.getElem?_eq_getElem h)
  ·rw [List.getElem?_eq_none h]; simp
theorem Qwn (hx:QaV x) (i d:Nat):0≤QsF x i d∧QsF x i d≤1000:=by
 rcases Nat.lt_or_ge i x.orders.length with h|h
 ·obtain ⟨o,_,_,_,h,_⟩:=QuJ hx h
  exact h d
 ·unfold QsF
  rw [List.getElem?_eq_none h]; simp
theorem QsU (hx:QaV x):1≤Qdc x.types∧Qdc x.types≤3:=by
 have h1:=hx.types1
 cases ht:x.types with
 | nil=>rw [ht] at h1; simp at h1
 | cons t ts =>
  have:=(hx.typ t (by rw [ht]; simp)).dims1
  rw [ht] at this
  exact this
structure Qnf (x:Qab) (l:List Qaa):Prop where
 ne:l.length≠0
 inn:l.any (fun v=>!inO x v)=false
 off:l.any (offV x)=false
 nodup:l.Nodup
 pair:∀ v∈l,Qwy x l v=true
 apart:x.apart.any (Qmp l)=false
 before:x.before.any (badB l)=false
theorem QAD (h:seqS x l=0):Qnf x l:=by
 unfold seqS at h
 by_cases h0:l.length=0
 ·rw [if_pos h0] at h; cases h
 rw [if_neg h0] at h
 by_cases h1:l.any (fun v=>!inO x v)=true
 ·rw [if_pos h1] at h; cases h
 rw [if_neg h1] at h
 by_cases h2:l.any (offV x)=true
 ·rw [if_pos h2] at h; cases h
 rw [if_neg h2] at h
 by_cases h3:¬ l.Nodup
 ·rw [if_pos h3] at h; cases h
 rw [if_neg h3] at h
 by_cases h4:l.any (fun v=>!Qwy x l v)=true
 ·rw [if_pos h4] at h; cases h
 rw [if_neg h4] at h
 by_cases h5:x.apart.any (Qmp l)=true
 ·rw [if_pos h5] at h; cases h
 rw [if_neg h5] at h
 by_cases h6:x.before.any (badB l)=true
 ·rw [if_pos h6] at h; cases h
 refine ⟨h0,by simpa using h1,by simpa using h2,Classical.not_not.1 h3,fun v hv=>?_,by simpa using h5,by simpa using h6⟩
 have:=List.any_eq_false.1 (by simpa using h4:l.any (fun v=>!Qwy x l v)=false) v hv
 simpa using this
theorem QsC {b:Bool} {i:Nat}:∀ {m:List Qaa},(∀ v∈m,v.order≠(i:Int))→m.foldl (fun b v=>if v.order=(i:Int) then !v.drop else b) b=b
 | [],_=>rfl
 | v :: m,h=>by
  rw [List.foldl_cons,if_neg (h v (List.mem_cons_self ..))]
  exact QsC fun w hw=>h w (List.mem_cons_of_mem _ hw)
theorem Qwc {c:Bool} {i:Nat}:∀ {m:List Qaa} {b:Bool},(∀ v∈m,v.order=(i:Int)→v.drop=c)→(b=(!c)∨∃ v∈m,v.order=(i:Int))→m.foldl (fun b v=>if v.order=(i:Int) then !v.drop else b) b=!c
 | [],b,_,h=>by
  rcases h with h|⟨v,hv,_⟩
  ·exact h
  ·cases hv
 | v :: m,b,h,h'=>by
  rw [List.foldl_cons]
  by_cases hv:v.order=(i:Int)
  ·rw [if_pos hv]
   exact Qwc (fun w hw=>h w (List.mem_cons_of_mem _ hw)) (.inl (by rw [h v (List.mem_cons_self ..) hv]))
  ·rw [if_neg hv]
   refine Qwc (fun w hw=>h w (List.mem_cons_of_mem _ hw)) ?_
   rcases h' with h'|⟨w,hw,he⟩
   ·exact .inl h'
   ·rcases List.mem_cons.1 hw with rfl|hw
    ·exact absurd he hv
    ·exact .inr ⟨w,hw,he⟩
theorem QuG {j k:Nat} (h:l.Nodup) {v:Qaa} (hj:l[j]?=some v) (hk:l[k]?=some v):j=k:=by
 refine Classical.byContradiction fun hne=>?_
 have hj':=(List.getElem?_eq_some_iff.1 hj).1
 have hk':=(List.getElem?_eq_some_iff.1 hk).1
 refine (QxK.2 ?_) h
 rcases Nat.lt_or_gt_of_ne hne with hlt|hlt
 ·exact ⟨k,hk',j,hlt,by rw [hj,hk]⟩
 ·exact ⟨j,hj',k,hlt,by rw [hj,hk]⟩
theorem QGH (hx:QaV x) (h:Qnf x l) {k:Nat} {v:Qaa} (hk:l[k]?=some v) {i:Nat} (hi:v.order=(i:Int)):onK x (l.take k) i=v.drop:=by
 have hv:=List.mem_of_getElem? hk
 have hkl:=(List.getElem?_eq_some_iff.1 hk).1
 have hin:=Qni h.inn hv
 obtain ⟨o,e,hm,_,_,hp⟩:=QuJ hx (show i<x.orders.length by omega)
 have hO:=hx.ord o hm
 -- each visit of the order is one of the order's visits
 have vis:∀ w∈l,w.order=(i:Int)→w∈visO x (i:Int)∧rowB l (visO x (i:Int))=true:=fun w hw he=>by
  have:=h.pair w hw
  unfold Qwy at this
  rw [he,Bool.and_eq_true,Qrg] at this
  exact this
 have hvo:visO x (i:Int)=(if 0≤o.pick.place then [Qaa.mk i false] else [])++(if 0≤o.drop.place then [Qaa.mk i true] else []):=by
  unfold visO
  rw [Int.toNat_natCast,e]
 have same:∀ w∈l.take k,w.order=(i:Int)→w≠v:=fun w hw _ he=>by
  obtain ⟨j,hj,hje⟩:=(QtL (by omega)).1 hw
  rw [he] at hje
  have:=QuG h.nodup hje hk
  omega
 have drop_or:∀ w:Qaa,w.order=(i:Int)→w=Qaa.mk i w.drop:=fun w hw=>by cases w; simp at hw; subst hw; rfl
 obtain ⟨v1,v2⟩:=vis v hv hi
 unfold onK
 by_cases hpk:0≤o.pick.place
 ·have hp':pk0 x i=false:=by rw [hp]; simp; omega
  rw [if_pos hpk] at hvo
  by_cases hdr:0≤o.drop.place
  ·rw [if_pos hdr] at hvo
   rw [hvo] at v2
   simp only [List.cons_append,List.nil_append,rowB,Bool.and_eq_true,Qqs,Qoi] at v2
   obtain ⟨p,hpp⟩:∃ p:Nat,ixI (isV (Qaa.mk i false)) l=p:=⟨(ixI (isV (Qaa.mk i false)) l).toNat,by omega⟩
   obtain ⟨q,hqq⟩:∃ q:Nat,ixI (isV (Qaa.mk i true)) l=q:=⟨(ixI (isV (Qaa.mk i true)) l).toNat,by omega⟩
   obtain ⟨p1,p2⟩:=Qvu hpp
   obtain ⟨q1,q2⟩:=Qvu hqq
   have hpq:p<q:=by omega
   cases hd:v.drop with
   | false =>
    have hve:=drop_or v hi
    rw [hd] at hve
    have hkp:k=p:=QuG h.nodup (hve ▸ hk) p1
    rw [QsC fun w hw he=>?_,hp']
    have hwe:=drop_or w he
    cases hwd:w.drop with
    | false=>rw [hwd] at hwe; exact same w hw he (hwe.trans hve.symm)
    | true =>
     rw [hwd] at hwe
     obtain ⟨j,hj,hje⟩:=(QtL (by omega)).1 hw
     have:=QuG h.nodup (hwe ▸ hje) q1
     omega
   | true =>
    have hve:=drop_or v hi
    rw [hd] at hve
    have hkq:k=q:=QuG h.nodup (hve ▸ hk) q1
    refine Qwc (c:=false) (fun w hw he=>?_) (.inr ⟨Qaa.mk i false,(QtL (by omega)).2 ⟨p,by omega,p1⟩,rfl⟩)
    have hwe:=drop_or w he
    cases hwd:w.drop with
    | false=>rfl
    | true=>rw [hwd] at hwe; exact absurd (hwe.trans hve.symm) (same w hw he)
  ·rw [if_neg hdr,List.append_nil] at hvo
   have only:∀ w∈l,w.order=(i:Int)→w=Qaa.mk i false:=fun w hw he=>by
    have:=(vis w hw he).1
    rw [hvo] at this
    exact List.mem_singleton.1 this
   rw [QsC fun w hw he=>same w hw he ((only w (List.mem_of_mem_take hw) he).trans (only v hv hi).symm),hp',only v hv hi]
 ·have hp':pk0 x i=true:=by rw [hp]; simp; omega
  rw [if_neg hpk,List.nil_append] at hvo
  have only:∀ w∈l,w.order=(i:Int)→w=Qaa.mk i true:=fun w hw he=>by
   have:=(vis w hw he).1
   rw [hvo] at this
   split at this
   ·exact List.mem_singleton.1 this
   ·cases this
  rw [QsC fun w hw he=>same w hw he ((only w (List.mem_of_mem_take hw) he).trans (only v hv hi).symm),hp',only v hv hi]
theorem QuI {k i:Nat} {v:Qaa} (hk:l[k]?=some v):onK x (l.take (k+1)) i=if v.order=(i:Int) then !v.drop else onK x (l.take k) i:=by
 unfold onK
 rw [take_one hk,List.foldl_append]
 rfl
theorem QzR (hx:QaV x) (h:Qnf x l) {k:Nat} {v:Qaa} (hk:l[k]?=some v) {i:Nat} (hi:v.order=(i:Int)) (d:Nat) :
  Qwl x l (k+1) d=if v.drop=true then Qwl x l k d-QsF x i d else Qwl x l k d+QsF x i d:=by
 have hin:=Qni h.inn (List.mem_of_getElem? hk)
 unfold Qwl
 rw [QtK (f:=fun j=>incl x l k j d) (g:=fun j=>incl x l (k+1) j d) (o:=i) x.orders.length (by omega) (fun j hj=>by
  show incl x l (k+1) j d=incl x l k j d
  have e1:onK x (l.take (k+1)) j=onK x (l.take k) j:=by rw [QuI hk,if_neg (by omega)]
  unfold incl
  rw [e1])]
 have ha:hasO l (i:Int)=true:=Qhy.2 ⟨v,List.mem_of_getElem? hk,hi⟩
 simp only [incl,ha,Bool.true_and]
 rw [QuI hk,if_pos hi,QGH hx h hk hi]
 cases v.drop
 ·simp
 ·simp
  omega
end
end Go.Proofs.YtfjiafgldchinaaGreatDoor
namespace Go.Proofs.YtfjiafgldchinaaGreatDoor
set_option linter.unusedSimpArgs false
set_option linter.unusedVariables false
set_option linter.unusedSectionVars false
section
variable {x : Qab} {l : List Qaa} {r : Qam}
theorem QuD {i:Int}:∀ {n:Nat},i∈memN l n→∃ k:Nat,i=k∧k<n∧hasO l (k:Int)=true
 | 0,h=>by cases h
 | n+1,h=>by
  unfold memN at h
  rcases List.mem_append.1 h with h|h
  ·obtain ⟨k,h1,h2,h3⟩:=QuD h
   exact ⟨k,h1,by omega,h3⟩
  ·split at h
   ·exact ⟨n,List.mem_singleton.1 h,by omega,‹_›⟩
   ·cases h
theorem QF6 (h:Qnf x l) {i:Int} (hi:hasO l i=true):0≤i∧i<x.orders.length:=by
 obtain ⟨v,hv,rfl⟩:=Qhy.1 hi
 exact Qni h.inn hv
theorem QEV {α β:Type} {a:β} {y z:Option α}:br (neI (a,(0:Int)).2 0) y z=z:=rfl
def stO (x:Qab) (d:Nat) (i:Int):Int:=if pk0 x i.toNat=true then QsF x i.toNat d else 0
theorem QFz (hx:QaV x) (d:Nat) (i:Int):0≤stO x d i∧stO x d i≤1000:=by
 have:=Qwn hx i.toNat d
 unfold stO
 split <;> omega
def Qmg (x:Qab) (l:List Qaa) (n:Nat):List (List Int):=(List.range n).map fun k=>vecN (Qdc x.types) (Qwl x l k)
theorem Qvy {n:Nat}:(Qmg x l n).length=n:=by simp [Qmg]
theorem Qyw {n:Nat}:Qmg x l (n+1)=Qmg x l n++[vecN (Qdc x.types) (Qwl x l n)]:=by simp [Qmg,List.range_succ]
def ldN (x:Qab) (l:List Qaa) (n:Nat):Nat→List (List Int)
 | 0=>[]
 | i+1=>ldN x l n i++(if (onK x (l.take n) i&&hasO l (i:Int))=true then [vecN (Qdc x.types) (QsF x i)] else [])
theorem QzM {n:Nat}:∀ i,(ldN x l n i).length≤i
 | 0=>Nat.le_refl 0
 | i+1=>by have:=QzM (n:=n) i; unfold ldN; split <;> simp <;> omega
theorem QzN {n:Nat} {a:List Int}:∀ {i},a∈ldN x l n i→∃ j,a=vecN (Qdc x.types) (QsF x j)
 | 0,h=>by cases h
 | i+1,h=>by
  unfold ldN at h
  rcases List.mem_append.1 h with h|h
  ·exact QzN h
  ·split at h
   ·exact ⟨i,List.mem_singleton.1 h⟩
   ·cases h
theorem QCN {n d:Nat} (hd:d<Qdc x.types):∀ i,sumF (fun a:List Int=>a.getD d 0) (ldN x l n i)=sumN i fun j=>incl x l n j d
 | 0=>rfl
 | i+1=>by
  show sumF (fun a:List Int=>a.getD d 0) (ldN x l n i++(if (onK x (l.take n) i&&hasO l (i:Int))=true then [vecN (Qdc x.types) (QsF x i)] else []))=sumN i _+(if (hasO l (i:Int)&&onK x (l.take n) i)=true then QsF x i d else 0)
  rw [QtI,QCN hd i,Bool.and_comm]
  split
  ·rw [QtJ,List.getD_eq_getElem?_getD,QfG hd]; rfl
  ·rw [QAP]
theorem QEn {D:Nat} (hD:D≤3) {m:List (List Int)} (hm:m.length≤1000) (hl:∀ a∈m,a.length=D) (hb:∀ a∈m,∀ d,0≤a.getD d 0∧a.getD d 0≤1000):Qfs m (D:Int)=some (vecN D fun d=>sumF (fun a=>a.getD d 0) m,0):=by
 have even:Qg0 m (D:Int)=some true:=by
  unfold Qg0
  rw [QaW (by simp; omega),QbW (Qcv (B:=fun s=>Qcp m (D:Int) s) (l:=m) (by omega) (fun a=>neI (lenI a) (D:Int)) (y:=(.inr false:Unit⊕Bool)) (N:=.inl ()) (fun i a h=>by
   show Qcp m (D:Int) i=_
   unfold Qcp
   rw [Qbz h,incL h (by omega),brs]) (by
   show Qcp m (D:Int) m.length=_
   unfold Qcp
   rw [Qa4]))]
  rw [if_neg]
  ·rfl
  ·rw [List.any_eq_true]
   rintro ⟨a,ha,h⟩
   rw [Qyy,lenI,hl a ha] at h
   exact h rfl
 unfold Qfs
 rw [even,Qaj,QcK]
 have this:QaK (fun q:List Int×Int=>Qch m (D:Int) q.1 q.2) ([],0)=some (vecN D fun d=>sumF (fun a=>a.getD d 0) m):=by
  have:=Qep D (fun k=>(vecN k (fun d=>sumF (fun a=>a.getD d 0) m),(k:Int))) (B:=fun q:List Int×Int=>Qch m (D:Int) q.1 q.2) (e:=vecN D fun d=>sumF (fun a=>a.getD d 0) m) (by omega) (fun k hk=>by
   show Qch m (D:Int) (vecN k (fun d=>sumF (fun a=>a.getD d 0) m)) (k:Int)=some (Sum.inl (vecN (k+1) (fun d=>sumF (fun a=>a.getD d 0) m),((k+1:Nat):Int)))
   unfold Qch
   rw [Qbj (by simp; omega)]
   have inner:QaK (fun q:Int×Int=>Qci m (D:Int) (vecN k (fun d=>sumF (fun a=>a.getD d 0) m)) (k:Int) q.1 q.2) (0,0)=some (sumF (fun a=>a.getD k 0) m):=by
    have:=Qep m.length (fun j=>(sumF (fun a:List Int=>a.getD k 0) (m.take j),(j:Int))) (B:=fun q:Int×Int=>Qci m (D:Int) (vecN k (fun d=>sumF (fun a=>a.getD d 0) m)) (k:Int) q.1 q.2) (e:=sumF (fun a=>a.getD k 0) m) (by omega) (fun j hj=>by
     have e:m[j]?=some m[j]:=List.getElem?_eq_getElem hj
     have hmj:=List.getElem_mem hj
     generalize m[j]=a at e hmj
     have ha:=hl a hmj
     have hab:=hb a hmj k
     have e2:a[k]?=some (a.getD k 0):=by rw [List.getD_eq_getElem?_getD,List.getElem?_eq_getElem (show k<a.length by omega)]; rfl
     have sb:=Qx5 (f:=fun a:List Int=>a.getD k 0) (l:=m.take j) fun c hc=>hb c (List.mem_of_mem_take hc) k
     have hlt:(m.take j).length≤1000:=by rw [List.length_take]; omega
     show Qci m (D:Int) (vecN k (fun d=>sumF (fun a=>a.getD d 0) m)) (k:Int) (sumF (fun a:List Int=>a.getD k 0) (m.take j)) (j:Int)=some (Sum.inl (sumF (fun a:List Int=>a.getD k 0) (m.take (j+1)),((j+1:Nat):Int)))
     unfold Qci
     rw [Qbz e,QaR e2,Qaj,incL e (by omega),addI (by omega) (by omega),Qx6 e]
     rfl) (by
     show Qci m (D:Int) (vecN k (fun d=>sumF (fun a=>a.getD d 0) m)) (k:Int) (sumF (fun a:List Int=>a.getD k 0) (m.take m.length)) (m.length:Int)=_
     unfold Qci
     rw [Qa4,List.take_length])
    exact this
   have ev:vecN (k+1) (fun d=>sumF (fun a:List Int=>a.getD d 0) m)=vecN k (fun d=>sumF (fun a:List Int=>a.getD d 0) m)++[sumF (fun a:List Int=>a.getD k 0) m]:=by simp [vecN,List.range_succ]
   rw [QbW inner,QcL (by unfold okN; simp [QdV]; omega),addI (by omega) (by omega),ev]
   rfl) (by
   show Qch m (D:Int) (vecN D (fun d=>sumF (fun a=>a.getD d 0) m)) (D:Int)=_
   unfold Qch
   rw [QaW (by simp)])
  exact this
 rw [QbW this]
def Qsq (cap a:List Int):Bool:=(List.range a.length).any fun i=>gtI (a.getD i 0) (cap.getD i 0)
theorem Qvn {a cap:List Int} (ha:a.length=cap.length) (hl:a.length≤1048576):QhB a cap=some (!Qsq cap a)∧QeP a cap=some (!Qsq cap a):=by
 have g:∀ i,i<a.length→a[i]?=some (a.getD i 0)∧cap[i]?=some (cap.getD i 0):=fun i hi=>by
  rw [List.getD_eq_getElem?_getD,List.getD_eq_getElem?_getD,List.getElem?_eq_getElem hi,List.getElem?_eq_getElem (show i<cap.length by omega)]
  exact ⟨rfl,rfl⟩
 have hb:Qsq cap a=true↔∃ k,k<a.length∧gtI (a.getD k 0) (cap.getD k 0)=true:=by
  unfold Qsq
  rw [List.any_eq_true]
  exact ⟨fun ⟨k,hk,h⟩=>⟨k,List.mem_range.1 hk,h⟩,fun ⟨k,hk,h⟩=>⟨k,List.mem_range.2 hk,h⟩⟩
 constructor
 ·unfold QhB
  rw [QaW (by simp [lenI,ha]),QbW (Qty (B:=fun s=>Qev a cap s) hl (fun k=>gtI (a.getD k 0) (cap.getD k 0)) (y:=(.inr false:Unit⊕Bool)) (N:=.inl ()) hb (fun i hi=>by
   show Qev a cap i=_
   unfold Qev
   rw [Qbz (g i hi).1,QaR (g i hi).2,Qaj,inc hi hl,brs]) (by
   show Qev a cap a.length=_
   unfold Qev
   rw [Qa4]))]
  cases Qsq cap a <;> rfl
 ·unfold QeP
  rw [QaW (by simp [lenI,ha]),QbW (Qty (B:=fun s=>Qco a cap s) hl (fun k=>gtI (a.getD k 0) (cap.getD k 0)) (y:=(.inr false:Unit⊕Bool)) (N:=.inl ()) hb (fun i hi=>by
   show Qco a cap i=_
   unfold Qco
   rw [Qbz (g i hi).1,QaR (g i hi).2,Qaj,inc hi hl,brs]) (by
   show Qco a cap a.length=_
   unfold Qco
   rw [Qa4]))]
  cases Qsq cap a <;> rfl
def fitS (x:Qab) (r:Qam):Int:=if (Qmg x r.visits (r.visits.length+1)).any (Qsq (typS x r).cap)=true then 17 else 0
theorem QyS (h0:0≤r.type_) (h1:r.type_<x.types.length):getI x.types r.type_=some (typS x r)∧typS x r∈x.types:=by
 have e:x.types[r.type_.toNat]?=some (x.types[r.type_.toNat]'(by omega)):=List.getElem?_eq_getElem _
 have ht:typS x r=x.types[r.type_.toNat]'(by omega):=by unfold typS; rw [List.getD_eq_getElem?_getD,e]; rfl
 rw [ht]
 exact ⟨Qr0 h0 h1,List.getElem_mem _⟩
end
end Go.Proofs.YtfjiafgldchinaaGreatDoor
namespace Go.Proofs.YtfjiafgldchinaaGreatDoor
set_option linter.unusedSimpArgs false
set_option linter.unusedVariables false
set_option linter.unusedSectionVars false
theorem QD1 {m:List (Int×Int)} {k k' v z:Int}:mGet eqI (mPut eqI m k v) k' z=if k'=k then v else mGet eqI m k' z:=by
 induction m with
 | nil =>
  unfold mPut mGet mGet
  by_cases h:k'=k
  ·rw [if_pos h,show eqI k' k=true by simpa using h]; rfl
  ·rw [if_neg h,show eqI k' k=false by simpa using h]; rfl
 | cons p r ih =>
  unfold mPut
  cases hp:eqI k p.1 with
  | true =>
   have hp':k=p.1:=by simpa using hp
   simp only [cond_true]
   unfold mGet
   by_cases h:k'=k
   ·rw [if_pos h,show eqI k' k=true by simpa using h]; rfl
   ·rw [if_neg h,show eqI k' k=false by simpa using h,show eqI k' p.1=false by rw [← hp']; simpa using h]; rfl
  | false =>
   have hp':k≠p.1:=by simpa using hp
   simp only [cond_false]
   unfold mGet
   rw [ih]
   by_cases h:k'=k
   ·rw [if_pos h,show eqI k' p.1=false by rw [h]; exact hp,if_pos h]; rfl
   ·rw [if_neg h,if_neg h]
section
variable {x : Qab} {l : List Qaa} {r : Qam} {s0 : Qap}
def cntV (l:List Qaa) (o:Int):Int:=sumF (fun v:Qaa=>if v.order=o then 1 else 0) l
theorem Qzg {o:Int}:0≤cntV l o∧cntV l o≤l.length∧(0<cntV l o↔hasO l o=true):=by
 induction l with
 | nil=>simp [cntV,sumF,hasO]
 | cons v l ih =>
  have e:cntV (v :: l) o=(if v.order=o then 1 else 0)+cntV l o:=by simp [cntV,sumF]
  have e2:hasO (v :: l) o=(isO o v||hasO l o):=by simp [hasO]
  rw [e,e2,List.length_cons,Bool.or_eq_true,Qwh]
  split
  ·rename_i h
   refine ⟨by omega,by omega,fun _=>.inl h,fun _=>by omega⟩
  ·rename_i h
   refine ⟨by omega,by omega,fun h'=>.inr (ih.2.2.1 (by omega)),fun h'=>?_⟩
   rcases h' with h'|h'
   ·exact absurd h' h
   ·have:=ih.2.2.2 h'; omega
def mapK (l:List Qaa):List (Int×Int):=l.foldl (fun m v=>mPut eqI m v.order (addK .i64 (mGet eqI m v.order 0) 1)) []
theorem Qxy {v:Qaa}:mapK (l++[v])=mPut eqI (mapK l) v.order (addK .i64 (mGet eqI (mapK l) v.order 0) 1):=by simp [mapK]
theorem QD2 {l:List Qaa} (hl:l.length≤1048576) (o:Int):mGet eqI (mapK l) o 0=cntV l o:=by
 have main:∀ k,k≤l.length→mGet eqI (mapK (l.take k)) o 0=cntV (l.take k) o:=by
  intro k hk
  induction k generalizing o with
  | zero=>rfl
  | succ k ih =>
   have e:l[k]?=some l[k]:=List.getElem?_eq_getElem (by omega)
   generalize l[k]=v at e
   rw [take_one e,Qxy,QD1]
   have e2:cntV (l.take k++[v]) o=cntV (l.take k) o+(if v.order=o then 1 else 0):=by unfold cntV; rw [QtI,QtJ]
   have hb:=(Qzg (l:=l.take k) (o:=v.order)).2.1
   have hb0:=(Qzg (l:=l.take k) (o:=v.order)).1
   have hlen:(l.take k).length≤k:=by rw [List.length_take]; omega
   rw [e2,ih v.order (by omega),ih o (by omega),addI (by omega) (by omega)]
   by_cases h:o=v.order
   ·rw [if_pos h,if_pos h.symm,h]
   ·rw [if_neg h,if_neg fun h'=>h h'.symm]; omega
 have:=main l.length (Nat.le_refl _)
 rwa [List.take_length] at this
def forB (kind own:Int):Bool:=neI kind (-1)&&neI kind own
def bit1 (b:Bool):Int:=if b=true then 1 else 0
def QfH (x:Qab) (r:Qam):Nat→Int×Int
 | 0=>(0,0)
 | k+1=>match r.visits[k]? with
  | none=>QfH x r k
  | some v=>match (if 0≤v.order then x.orders[v.order.toNat]? else none) with
   | none=>QfH x r k
   | some o=>if hasO (r.visits.take k) v.order=true then QfH x r k else ((QfH x r k).1+bit1 (forB o.now r.type_),(QfH x r k).2+bit1 (forB o.last_ r.type_))
theorem QsR {b:Bool}:0≤bit1 b∧bit1 b≤1:=by cases b <;> simp [bit1]
theorem Qtk:∀ k,(0≤(QfH x r k).1∧(QfH x r k).1≤k)∧(0≤(QfH x r k).2∧(QfH x r k).2≤k)
 | 0=>by simp [QfH]
 | k+1=>by
  have ih:=Qtk k
  unfold QfH
  split
  ·omega
  ·split
   ·omega
   ·rename_i o _
    have h1:=QsR (b:=forB o.now r.type_)
    have h2:=QsR (b:=forB o.last_ r.type_)
    split
    ·omega
    ·simp only; omega
theorem QuL (hx:QaV x):∀ k,k≤r.visits.length→(QfH x r k).1≤sumN x.orders.length (fun i=>bit1 (hasO (r.visits.take k) (i:Int)))∧(QfH x r k).2≤sumN x.orders.length (fun i=>bit1 (hasO (r.visits.take k) (i:Int)))
 | 0,_=>by
  have:=(QvV (f:=fun i=>bit1 (hasO (r.visits.take 0) (i:Int))) (c:=1) (by omega) x.orders.length fun i=>QsR).1
  simp only [QfH]
  omega
 | k+1,hk=>by
  have ih:=QuL hx k (by omega)
  have e:r.visits[k]?=some r.visits[k]:=List.getElem?_eq_getElem (by omega)
  generalize r.visits[k]=v at e
  have hh:∀ i:Nat,hasO (r.visits.take (k+1)) (i:Int)=(hasO (r.visits.take k) (i:Int)||isO (i:Int) v):=fun i=>by rw [take_one e]; simp [hasO]
  have mono:sumN x.orders.length (fun i=>bit1 (hasO (r.visits.take k) (i:Int)))≤sumN x.orders.length (fun i=>bit1 (hasO (r.visits.take (k+1)) (i:Int))):=by
   generalize x.orders.length=n
   induction n with
   | zero=>exact Int.le_refl _
   | succ n ihn =>
    show sumN n (fun i=>bit1 (hasO (r.visits.take k) (i:Int)))+bit1 (hasO (r.visits.take k) (n:Int))≤sumN n (fun i=>bit1 (hasO (r.visits.take (k+1)) (i:Int)))+bit1 (hasO (r.visits.take (k+1)) (n:Int))
    have:=hh n
    have h2:bit1 (hasO (r.visits.take k) (n:Int))≤bit1 (hasO (r.visits.take (k+1)) (n:Int)):=by
     rw [this]
     cases hasO (r.visits.take k) (n:Int) <;> cases isO (n:Int) v <;> simp [bit1]
    omega
  unfold QfH
  rw [e]
  simp only
  split
  ·omega
  ·rename_i o ho
   split at ho
   ·rename_i h0
    have hlt:=(List.getElem?_eq_some_iff.1 ho).1
    have h1:=QsR (b:=forB o.now r.type_)
    have h2:=QsR (b:=forB o.last_ r.type_)
    split
    ·omega
    ·rename_i hn
     obtain ⟨i,hi⟩:∃ i:Nat,v.order=i:=⟨v.order.toNat,by omega⟩
     rw [hi] at hn hlt
     have up:=QtK (f:=fun i=>bit1 (hasO (r.visits.take k) (i:Int))) (g:=fun i=>bit1 (hasO (r.visits.take (k+1)) (i:Int))) (o:=i) x.orders.length (by omega) (fun j hj=>by
      have hjf:isO (j:Int) v=false:=by
       rw [Bool.eq_false_iff]
       intro h
       have:=Qwh.1 h
       omega
      show bit1 (hasO (r.visits.take (k+1)) (j:Int))=bit1 (hasO (r.visits.take k) (j:Int))
      rw [hh,hjf,Bool.or_false])
     rw [up]
     have e1:bit1 (hasO (r.visits.take (k+1)) (i:Int))=1:=by rw [hh,Qwh.2 hi,Bool.or_true]; rfl
     have e2:bit1 (hasO (r.visits.take k) (i:Int))=0:=by rw [Bool.eq_false_iff.2 hn]; rfl
     rw [e1,e2]
     omega
   ·cases ho
def scoS (x:Qab) (r:Qam) (s0:Qap):Qay :=
 Qay.mk (addK .i64 (addK .i64 (typS x r).fixed (mulK .i64 (typS x r).perMile s0.miles)) (mulK .i64 (typS x r).perTick (subK .i64 s0.end_ (typS x r).open_))) (QfH x r r.visits.length).1 (QfH x r r.visits.length).2 (mulK .i64 (quoK .i64 (subK .i64 s0.end_ (typS x r).open_) 64) (quoK .i64 (subK .i64 s0.end_ (typS x r).open_) 64))
theorem QDe (hx:QaV x) (hl:r.visits.length≤1048576) (ht:0≤r.type_∧r.type_<x.types.length):QkX x r s0=some (scoS x r s0):=by
 obtain ⟨t1,t2⟩:=QyS ht.1 ht.2
 have h10:=hx.orders
 unfold QkX
 rw [QaW (by simp [lenI]; omega),t1,Qaj]
 have this:QaK (fun q:List (Int×Int)×Int×Int×Int=>Qds x r s0 (typS x r) q.1 q.2.1 q.2.2.1 q.2.2.2) ([],0,0,0)=some (QfH x r r.visits.length):=by
  have:=Qep r.visits.length (fun k=>(mapK (r.visits.take k),(QfH x r k).1,(QfH x r k).2,(k:Int))) (B:=fun q:List (Int×Int)×Int×Int×Int=>Qds x r s0 (typS x r) q.1 q.2.1 q.2.2.1 q.2.2.2) (e:=QfH x r r.visits.length) (by omega) (fun k hk=>by
   have e:r.visits[k]?=some r.visits[k]:=List.getElem?_eq_getElem hk
   generalize r.visits[k]=v at e
   show Qds x r s0 (typS x r) (mapK (r.visits.take k)) (QfH x r k).1 (QfH x r k).2 (k:Int)=some (Sum.inl (mapK (r.visits.take (k+1)),(QfH x r (k+1)).1,(QfH x r (k+1)).2,((k+1:Nat):Int)))
   unfold Qds QhX QjO
   rw [Qbz e,← Qxy,← take_one e,incL e hl]
   have hlen:(r.visits.take k).length≤1048576:=by rw [List.length_take]; omega
   have hlen1:(r.visits.take (k+1)).length≤1048576:=by rw [List.length_take]; omega
   have hp:=Qtk (x:=x) (r:=r) k
   have hg:gtI (mGet eqI (mapK (r.visits.take (k+1))) v.order 0) 1=hasO (r.visits.take k) v.order:=by
    rw [QD2 hlen1,take_one e]
    have e2:cntV (r.visits.take k++[v]) v.order=cntV (r.visits.take k) v.order+1:=by unfold cntV; rw [QtI,QtJ,if_pos rfl]
    have:=(Qzg (l:=r.visits.take k) (o:=v.order)).2.2
    rw [e2,Bool.eq_iff_iff,Qwg,← this]
    omega
   rw [hg]
   show _=some (Sum.inl (mapK (r.visits.take (k+1)),(QfH x r (k+1)).1,(QfH x r (k+1)).2,(k:Int)+1))
   have hP:QfH x r (k+1)=match (if 0≤v.order then x.orders[v.order.toNat]? else none) with
    | none=>QfH x r k
    | some o=>if hasO (r.visits.take k) v.order=true then QfH x r k else ((QfH x r k).1+bit1 (forB o.now r.type_),(QfH x r k).2+bit1 (forB o.last_ r.type_)):=by
    show (match r.visits[k]? with
     | none=>QfH x r k
     | some v=>match (if 0≤v.order then x.orders[v.order.toNat]? else none) with
      | none=>QfH x r k
      | some o=>if hasO (r.visits.take k) v.order=true then QfH x r k else ((QfH x r k).1+bit1 (forB o.now r.type_),(QfH x r k).2+bit1 (forB o.last_ r.type_)))=_
    rw [e]
   rw [hP]
   by_cases hin:0≤v.order∧v.order<x.orders.length
   ·rw [QaW (by simp [lenI]; omega),if_pos hin.1]
    have eo:x.orders[v.order.toNat]?=some (x.orders[v.order.toNat]'(by omega)):=List.getElem?_eq_getElem _
    generalize x.orders[v.order.toNat]'(by omega)=o at eo
    have eg:getI x.orders v.order=some o:=by unfold getI; rw [if_pos hin.1,eo]
    rw [eo,eg]
    simp only [Qaj]
    cases hasO (r.visits.take k) v.order with
    | true=>rfl
    | false =>
     rw [Qca,if_neg (by decide),show (neI o.now (-1)&&neI o.now r.type_)=forB o.now r.type_ from rfl,show (neI o.last_ (-1)&&neI o.last_ r.type_)=forB o.last_ r.type_ from rfl,addI (by omega) (by omega),addI (by omega) (by omega)]
     generalize QfH x r k=p
     cases forB o.now r.type_ <;> cases forB o.last_ r.type_ <;> simp [bit1]
   ·rw [Qbj (by simp [lenI]; omega)]
    have:(if 0≤v.order then x.orders[v.order.toNat]? else none)=none:=by
     split
     ·exact List.getElem?_eq_none (by omega)
     ·rfl
    rw [this]) (by
   show Qds x r s0 (typS x r) (mapK (r.visits.take r.visits.length)) (QfH x r r.visits.length).1 (QfH x r r.visits.length).2 (r.visits.length:Int)=_
   unfold Qds
   rw [Qa4])
  exact this
 rw [QbW this]
 rfl
theorem QBk (hl:l.length≤1048576) {k:Nat} {v:Qaa} (e:l[k]?=some v):QfO l (k:Int)=some (!hasO (l.take k) v.order):=by
 have hk:=(List.getElem?_eq_some_iff.1 e).1
 have:=Qty (B:=fun q=>QbU l (k:Int) q) (n:=k) (by omega) (fun j=>match l[j]? with|some w=>eqI w.order v.order|none=>false) (y:=(.inr false:Unit⊕Bool)) (N:=.inl ()) (b:=hasO (l.take k) v.order) (by
  rw [Qhy]
  constructor
  ·rintro ⟨w,hw,he⟩
   obtain ⟨j,hj,hje⟩:=(QtL (by omega)).1 hw
   exact ⟨j,hj,by rw [hje]; simpa using he⟩
  ·rintro ⟨j,hj,h⟩
   rw [List.getElem?_eq_getElem (show j<l.length by omega)] at h
   exact ⟨_,(QtL (by omega)).2 ⟨j,hj,List.getElem?_eq_getElem (by omega)⟩,by simpa using h⟩) (fun j hj=>by
  have ej:l[j]?=some (l[j]'(by omega)):=List.getElem?_eq_getElem _
  show QbU l (k:Int) j=_
  unfold QbU
  rw [Qbj (by simp; omega),QaR ej,Qaj,QaR e,Qaj,incL ej hl,brs,ej]) (by
  show QbU l (k:Int) k=_
  unfold QbU
  rw [QaW (by simp)])
 unfold QfO
 rw [QbW this]
 cases hasO (l.take k) v.order <;> rfl
theorem Qvb (hx:QaV x) (hl:r.visits.length≤1048576) (ht:0≤r.type_∧r.type_<x.types.length):Qdy x r s0=some (scoS x r s0):=by
 obtain ⟨t1,t2⟩:=QyS ht.1 ht.2
 have h10:=hx.orders
 unfold Qdy
 rw [QaW (by simp [lenI]; omega),t1,Qaj]
 have this:QaK (fun q:Int×Int×Int=>QbK x r s0 (typS x r) q.1 q.2.1 q.2.2) (0,0,0)=some (QfH x r r.visits.length):=by
  have:=Qep r.visits.length (fun k=>((QfH x r k).1,(QfH x r k).2,(k:Int))) (B:=fun q:Int×Int×Int=>QbK x r s0 (typS x r) q.1 q.2.1 q.2.2) (e:=QfH x r r.visits.length) (by omega) (fun k hk=>by
   have e:r.visits[k]?=some r.visits[k]:=List.getElem?_eq_getElem hk
   generalize r.visits[k]=v at e
   show QbK x r s0 (typS x r) (QfH x r k).1 (QfH x r k).2 (k:Int)=some (Sum.inl ((QfH x r (k+1)).1,(QfH x r (k+1)).2,((k+1:Nat):Int)))
   unfold QbK QeH
   rw [Qbz e,incL e hl,QBk hl e]
   have hp:=Qtk (x:=x) (r:=r) k
   show _=some (Sum.inl ((QfH x r (k+1)).1,(QfH x r (k+1)).2,(k:Int)+1))
   have hP:QfH x r (k+1)=match (if 0≤v.order then x.orders[v.order.toNat]? else none) with
    | none=>QfH x r k
    | some o=>if hasO (r.visits.take k) v.order=true then QfH x r k else ((QfH x r k).1+bit1 (forB o.now r.type_),(QfH x r k).2+bit1 (forB o.last_ r.type_)):=by
    show (match r.visits[k]? with
     | none=>QfH x r k
     | some v=>match (if 0≤v.order then x.orders[v.order.toNat]? else none) with
      | none=>QfH x r k
      | some o=>if hasO (r.visits.take k) v.order=true then QfH x r k else ((QfH x r k).1+bit1 (forB o.now r.type_),(QfH x r k).2+bit1 (forB o.last_ r.type_)))=_
    rw [e]
   rw [hP]
   by_cases hin:0≤v.order∧v.order<x.orders.length
   ·rw [QaW (by simp [lenI]; omega),if_pos hin.1]
    have eo:x.orders[v.order.toNat]?=some (x.orders[v.order.toNat]'(by omega)):=List.getElem?_eq_getElem _
    generalize x.orders[v.order.toNat]'(by omega)=o at eo
    have eg:getI x.orders v.order=some o:=by unfold getI; rw [if_pos hin.1,eo]
    rw [eo,eg]
    simp only [Qaj]
    cases hasO (r.visits.take k) v.order with
    | true=>rfl
    | false =>
     rw [Bool.not_false,QcK,if_neg (by decide),addI (by omega) (by omega),addI (by omega) (by omega)]
     generalize QfH x r k=p
     unfold forB
     cases neI o.now (-1) <;> cases neI o.now r.type_ <;> cases neI o.last_ (-1) <;> cases neI o.last_ r.type_ <;> simp [bit1]
   ·rw [Qbj (by simp [lenI]; omega)]
    have:(if 0≤v.order then x.orders[v.order.toNat]? else none)=none:=by
     split
     ·exact List.getElem?_eq_none (by omega)
     ·rfl
    rw [this]) (by
   show QbK x r s0 (typS x r) (QfH x r r.visits.length).1 (QfH x r r.visits.length).2 (r.visits.length:Int)=_
   unfold QbK
   rw [Qa4])
  exact this
 rw [QbW this]
 rfl
end
theorem QBe (s:Qay):∃ w,QfC s=some w∧QcI s=some w:=by
 unfold QfC QcI QmX QhV
 simp only [Qaj]
 cases h1:ltI s.cost 0 with
 | true=>exact ⟨_,rfl,rfl⟩
 | false =>
  cases h2:ltI s.moved 0 with
  | true=>exact ⟨_,rfl,rfl⟩
  | false =>
   cases h3:ltI s.other 0 with
   | true=>exact ⟨_,rfl,rfl⟩
   | false =>
    cases h4:ltI s.work 0 with
    | true=>exact ⟨_,rfl,rfl⟩
    | false =>
     have e:(((((((geI s.cost 0&&leI s.cost 1073741824)&&geI s.moved 0)&&leI s.moved 15)&&geI s.other 0)&&leI s.other 15)&&geI s.work 0)&&leI s.work 65535)=!(((gtI s.cost 1073741824||geI s.moved 16)||geI s.other 16)||geI s.work 65536):=by
      simp only [QoX] at h1 h2 h3 h4
      rw [Bool.eq_iff_iff]
      simp only [Bool.and_eq_true,Qqs,QBT,Bool.not_eq_true',Bool.or_eq_false_iff,Qqt,Qys]
      omega
     rw [e]
     simp only [Qca]
     cases ((gtI s.cost 1073741824||geI s.moved 16)||geI s.other 16)||geI s.work 65536
     ·exact ⟨_,rfl,rfl⟩
     ·exact ⟨_,rfl,rfl⟩
end Go.Proofs.YtfjiafgldchinaaGreatDoor
namespace Go.Proofs.YtfjiafgldchinaaGreatDoor
set_option linter.unusedSimpArgs false
set_option linter.unusedVariables false
set_option linter.unusedSectionVars false
theorem QuH:∀ (n:Nat) (l:List Nat),l.Nodup→(∀ a∈l,a<n)→l.length≤n
 | 0,l,_,h=>by
  cases l with
  | nil=>simp
  | cons a r=>exact absurd (h a (by simp)) (by omega)
 | n+1,l,hd,h=>by
  by_cases hm:n∈l
  ·have h1:=QuH n (l.erase n) (hd.erase n) fun a ha=>by
    have h2:=(hd.mem_erase_iff).1 ha
    have:=h a h2.2
    omega
   rw [List.length_erase_of_mem hm] at h1
   omega
  ·have:=QuH n l hd fun a ha=>by
    have:=h a ha
    have:a≠n:=fun e=>hm (e ▸ ha)
    omega
   omega
section
variable {x : Qab} {l : List Qaa} {r : Qam}
theorem Qnf.short (hx:QaV x) (h:Qnf x l):l.length≤20:=by
 have h10:=hx.orders
 have hm:(l.map fun v:Qaa=>2*v.order.toNat+(if v.drop=true then 1 else 0)).Nodup:=by
  unfold List.Nodup
  rw [List.pairwise_map]
  refine h.nodup.imp_of_mem fun {a b} ha hb hne he=>hne ?_
  have h1:=Qni h.inn ha
  have h2:=Qni h.inn hb
  cases a with
  | mk ao ad =>
   cases b with
   | mk bo bd =>
    simp only at h1 h2 he
    have hd:ad=bd∧ao=bo:=by
     cases ad <;> cases bd <;> simp at he ⊢ <;> omega
    rw [hd.1,hd.2]
 have:=QuH 20 _ hm fun a ha=>by
  obtain ⟨v,hv,rfl⟩:=List.mem_map.1 ha
  have h1:=Qni h.inn hv
  split <;> omega
 simpa using this
noncomputable def QFJ (t:Qag) (skills:Int):Bool:=(QfJ t skills).getD false
noncomputable def QrR (x:Qab) (r:Qam) (v:Qaa):Bool:=match x.orders[v.order.toNat]? with
 | some o=>QFJ (typS x r) o.skills
 | none=>false
theorem QEO (hx:QaV x) (ht:0≤r.type_∧r.type_<x.types.length) {v:Qaa} (hv:0≤v.order∧v.order<x.orders.length):∃ o,getI x.orders v.order=some o∧QfJ (typS x r) o.skills=some (QrR x r v)∧QcU (typS x r) o.skills=some (QrR x r v)∧x.orders[v.order.toNat]?=some o:=by
 obtain ⟨o,g1,g2,_,g4⟩:=QxN (x:=x) hv.1 hv.2
 obtain ⟨b,b1,b2⟩:=QEN (t:=typS x r) (hx.typ _ (QyS ht.1 ht.2).2).skills (hx.ord o g2).skills
 have:QrR x r v=b:=by unfold QrR QFJ; rw [g4]; simp only; rw [b1]; rfl
 exact ⟨o,g1,by rw [this,b1],by rw [this,b2],g4⟩
def QFH:Qay:=Qay.mk 0 0 0 0
structure EvOK (x:Qab) (r:Qam) (s:Qap) (b:List Bool):Prop where
 type_:0≤r.type_∧r.type_<x.types.length
 seq:seqS x r.visits=0
 able:∀ v∈r.visits,QrR x r v=true
 fits:fitS x r=0
 poss:QtX x r=true
 rests:r.rests.length≤r.visits.length+1
 full:QA7 x.net (typS x r) (QaI x r) r.start r.rests b
 min:minB x.net (typS x r) (QaI x r) r.start r.rests b
 sheet:s=(lbB x.net (typS x r) (QaI x r) r.start b).sheet
end
end Go.Proofs.YtfjiafgldchinaaGreatDoor
namespace Go.Proofs.YtfjiafgldchinaaGreatDoor
set_option linter.unusedSimpArgs false
set_option linter.unusedVariables false
set_option linter.unusedSectionVars false
section
variable {n : Qak} {t : Qag} {stops : List Qar} {start : Int}
theorem QC1 (hT:Qqi n t stops):∀ (b:List Bool) (k:Nat) (l:QaJ),LabI k l→k+b.length≤stops.length→(runK n t stops b k l).2=0→l.ready≤(runK n t stops b k l).1.ready
 | [],k,l,hl,_,_=>Int.le_refl _
 | a :: b,k,l,hl,hk,h=>by
  simp only [runK] at h ⊢
  simp only [List.length_cons] at hk
  by_cases h0:(nxt n t stops l k a).2=0
  ·rw [if_neg (by simpa using h0)] at h ⊢
   have h1:=QC1 hT b (k+1) _ (QxL hT hl (by omega) h0) (by omega) h
   refine Int.le_trans ?_ h1
   obtain ⟨g0,g1,g2,g3⟩:=Qwr hT hl h0
   have hb:=QtT hT.net (Qyl (rest:=a) hT hl) g0
   have hS:=hT.stopK k
   have:=hS.serv0
   have hr:=hT.rest
   rw [g3]
   have hd:l.ready≤depS t l a:=by unfold depS; split <;> omega
   show l.ready≤max _ _+_
   omega
  ·rw [if_pos h0] at h; exact absurd h h0
theorem QDN (hT:Qqi n t stops) (hs:0≤start∧start≤4096) {b:List Bool} (hl:b.length=stops.length+1) (hok:okB n t stops start b) :
  t.open_≤(lbB n t stops start b).sheet.end_∧(lbB n t stops start b).sheet.end_≤t.close∧0≤(lbB n t stops start b).sheet.miles∧(lbB n t stops start b).sheet.miles≤210000:=by
 obtain ⟨b0,c,rfl⟩:∃ b0 c,b=b0++[c]:=by
  rcases List.eq_nil_or_concat b with rfl|⟨b0,c,rfl⟩
  ·simp at hl
  ·exact ⟨b0,c,by simp⟩
 have hb0:b0.length=stops.length:=by simpa using hl
 obtain ⟨o1,o2⟩:=Qp8.1 hok
 have hL:=QDR hT hs (by omega) o1
 obtain ⟨g0,g1,g2,g3⟩:=Qwr hT hL o2
 have hb:=QtT hT.net (Qyl (rest:=c) hT hL) g0
 have hge:t.open_≤(lbB n t stops start b0).ready:=by
  have:=QC1 hT b0 0 (begS t start) (Qw1 hT hs) (by omega) o1
  have h2:t.open_≤(begS t start).ready:=by show t.open_≤max t.open_ start; omega
  exact Int.le_trans h2 this
 have hn:¬ b0.length<stops.length:=by omega
 have hm0:=hL.miles0
 have hm1:=hL.miles1
 have hfew:=hT.few
 have hr:=hT.rest
 have hd:(lbB n t stops start b0).ready≤depS t (lbB n t stops start b0) c:=by unfold depS; split <;> omega
 rw [Quw hok,g3]
 rw [Qq6 hn] at hb g1 ⊢
 have g1':(goN n t.profile (Qrd t stops b0.length) (endS t).place (depS t (lbB n t stops start b0) c)).1≤t.close:=g1
 show t.open_≤(if b0.length<stops.length then _ else _:Int)∧(if b0.length<stops.length then _ else _:Int)≤t.close∧0≤(lbB n t stops start b0).sheet.miles+_∧(lbB n t stops start b0).sheet.miles+_≤210000
 rw [if_neg hn]
 omega
end
section
variable {x : Qab} {l : List Qaa} {r : Qam}
theorem EvOK.facts (hx:QaV x) {s:Qap} {b:List Bool} (h:EvOK x r s b) :
  (typS x r).open_≤s.end_∧s.end_≤(typS x r).close∧0≤s.miles∧s.miles≤210000∧Qtt s=b∧s.times.length=r.visits.length∧b.length=r.visits.length+1∧r.visits.length≤20:=by
 have h5:=of_decide_eq_true (Qp9 h.poss)
 have hT:=QEq hx h.poss
 obtain ⟨e1,e2,e3,e4⟩:=QDN hT ⟨h5.2.2.1,h5.2.2.2.1⟩ h.full.1 h.full.2.2
 obtain ⟨r1,r2⟩:=QAu hx h.poss h.full.1 h.full.2.2
 have hsl:=QiR (x:=x) (r:=r)
 have hl:=h.full.1
 rw [h.sheet]
 exact ⟨e1,e2,e3,e4,r1,by omega,by omega,h5.2.2.2.2⟩
theorem EvOK.score (hx:QaV x) {s:Qap} {b:List Bool} (h:EvOK x r s b) :
  ∃ c m o w:Int,scoS x r s=Qay.mk c m o w∧(typS x r).fixed≤c∧0≤c∧c≤1073741824∧0≤m∧m≤10∧0≤o∧o≤10∧0≤w∧w≤65535∧w=mulK .i64 (quoK .i64 (subK .i64 s.end_ (typS x r).open_) 64) (quoK .i64 (subK .i64 s.end_ (typS x r).open_) 64):=by
 obtain ⟨f1,f2,f3,f4,f5,f6,f7,f8⟩:=h.facts hx
 have hT:=hx.typ _ (QyS h.type_.1 h.type_.2).2
 have h1:=hT.fixed; have h2:=hT.perMile; have h3:=hT.perTick; have h4:=hT.opn; have h5:=hT.close
 have h10:=hx.orders
 have hp:=Qtk (x:=x) (r:=r) r.visits.length
 have hf:=QuL (r:=r) hx r.visits.length (Nat.le_refl _)
 have hs:sumN x.orders.length (fun i=>bit1 (hasO (r.visits.take r.visits.length) (i:Int)))≤x.orders.length:=by
  have:=(QvV (f:=fun i=>bit1 (hasO (r.visits.take r.visits.length) (i:Int))) (c:=1) (by omega) x.orders.length fun i=>QsR).2
  omega
 have hd:subK .i64 s.end_ (typS x r).open_=s.end_-(typS x r).open_:=subI (by omega) (by omega)
 obtain ⟨a,ha⟩:∃ a,a=s.end_-(typS x r).open_:=⟨_,rfl⟩
 have ha0:0≤a∧a≤4096:=by omega
 have m1:0≤(typS x r).perMile*s.miles∧(typS x r).perMile*s.miles≤21000000:=by
  refine ⟨Int.mul_nonneg h2.1 f3,?_⟩
  exact Int.le_trans (Int.mul_le_mul h2.2 f4 f3 (by omega)) (by omega)
 have m2:0≤(typS x r).perTick*a∧(typS x r).perTick*a≤409600:=by
  refine ⟨Int.mul_nonneg h3.1 ha0.1,?_⟩
  exact Int.le_trans (Int.mul_le_mul h3.2 ha0.2 ha0.1 (by omega)) (by omega)
 have hq:quoK .i64 a 64=a / 64:=by
  have e:a.tdiv 64=a / 64:=Int.tdiv_eq_ediv_of_nonneg ha0.1
  rw [quoI (by rw [e]; omega) (by rw [e]; omega),e]
 have hq2:0≤a / 64∧a / 64≤64:=by omega
 have m3:0≤(a / 64)*(a / 64)∧(a / 64)*(a / 64)≤4096:=⟨Int.mul_nonneg hq2.1 hq2.1,Int.le_trans (Int.mul_le_mul hq2.2 hq2.2 hq2.1 (by omega)) (by omega)⟩
 unfold scoS
 refine ⟨_,_,_,_,rfl,?_,?_,?_,by omega,by omega,by omega,by omega,?_,?_,rfl⟩
 ·rw [hd,← ha,mulI (by omega) (by omega),mulI (by omega) (by omega),addI (a:=(typS x r).fixed) (by omega) (by omega),addI (by omega) (by omega)]; omega
 ·rw [hd,← ha,mulI (by omega) (by omega),mulI (by omega) (by omega),addI (a:=(typS x r).fixed) (by omega) (by omega),addI (by omega) (by omega)]; omega
 ·rw [hd,← ha,mulI (by omega) (by omega),mulI (by omega) (by omega),addI (a:=(typS x r).fixed) (by omega) (by omega),addI (by omega) (by omega)]; omega
 ·rw [hd,← ha,hq,mulI (by omega) (by omega)]; omega
 ·rw [hd,← ha,hq,mulI (by omega) (by omega)]; omega
end
end Go.Proofs.YtfjiafgldchinaaGreatDoor
namespace Go.Proofs.YtfjiafgldchinaaGreatDoor
set_option linter.unusedSimpArgs false
set_option linter.unusedVariables false
set_option linter.unusedSectionVars false
inductive Pth (bf:List Qau):Int→Int→Prop where
 | one {p:Qau} (h:p∈bf):Pth bf p.x0 p.x1
 | more {a:Int} {p:Qau} (h:Pth bf a p.x0) (h':p∈bf):Pth bf a p.x1
section
variable {x : Qab} {l : List Qaa} {r : Qam}
theorem Qv8 (h:Qnf x l) {p:Qau} (hp:p∈x.before) (hb:hasO l p.x1=true):hasO l p.x0=true∧ixI (isO p.x0) l<ixI (isO p.x1) l:=by
 have h1:=List.any_eq_false.1 h.before p hp
 unfold badB at h1
 rw [hb,Bool.true_and] at h1
 simp only [Bool.or_eq_true,Bool.not_eq_true',not_or,Bool.not_eq_false,Bool.not_eq_true] at h1
 obtain ⟨h2,h3⟩:=h1
 refine ⟨h2,?_⟩
 unfold QA8 at h3
 have hge:0≤ixI (isO p.x1) l:=by rw [← Qqs,Qqr]; exact hb
 have hge0:0≤ixI (isO p.x0) l:=by rw [← Qqs,Qqr]; exact h2
 unfold ixI at hge hge0 ⊢
 cases e1:ixP (isO p.x1) l with
 | none=>rw [e1] at hge; simp at hge
 | some k =>
  rw [e1] at h3
  simp only at h3
  cases e0:ixP (isO p.x0) l with
  | none=>rw [e0] at hge0; simp at hge0
  | some j =>
   obtain ⟨j1,j2,_⟩:=Qok e0
   simp only
   have hjk:j<k:=Nat.lt_of_not_le fun hle=>by
    have:hasO (l.drop k) p.x0=true:=Qhy.2 ⟨l[j],List.mem_iff_getElem?.2 ⟨j-k,by rw [List.getElem?_drop,show k+(j-k)=j by omega,List.getElem?_eq_getElem j1]⟩,Qwh.1 j2⟩
    rw [this] at h3
    cases h3
   omega
theorem QFp (h:Qnf x l) {a b:Int} (hp:Pth x.before a b):hasO l b=true→hasO l a=true∧ixI (isO a) l<ixI (isO b) l:=by
 induction hp with
 | one hm=>exact Qv8 h hm
 | more _ hm ih =>
  intro hb
  obtain ⟨h1,h2⟩:=Qv8 h hm hb
  obtain ⟨h3,h4⟩:=ih h1
  exact ⟨h3,by omega⟩
theorem Qny {D:Nat} {f:Nat→Int} {i:Int} (h0:0≤i) (h1:i<D):getI (vecN D f) i=some (f i.toNat):=by
 unfold getI
 rw [if_pos h0,QfG (by omega)]
structure ChI (bf:List Qau) (m:Nat→Nat):Prop where
 lt:∀ i,m i<1024
 pth:∀ i a:Nat,(m i).testBit a=true→Pth bf (a:Int) (i:Int)
theorem Qrk (hx:QaV x):post (Qel (lenI x.orders) x.before) fun c=>∃ m,c=vecN x.orders.length (fun i=>((m i:Nat):Int))∧ChI x.before m:=by
 have h10:=hx.orders
 have hb16:=hx.before
 have sb:∀ m:Nat→Nat,(∀ i,m i<1024)→0≤sumN x.orders.length (fun i=>((m i:Nat):Int))∧sumN x.orders.length (fun i=>((m i:Nat):Int))≤10240:=fun m hm=>by
  have:=QvV (f:=fun i=>((m i:Nat):Int)) (c:=1024) (by omega) x.orders.length fun i=>by have:=hm i; omega
  omega
 unfold Qel
 have hz:mkI (maxI (lenI x.orders) 0) (maxI (lenI x.orders) 0) 8 (0:Int)=some (vecN x.orders.length fun i=>(((fun _=>0:Nat→Nat) i:Nat):Int)):=by
  have hm:maxI (lenI x.orders) 0=(x.orders.length:Int):=by rw [Qxz]; unfold lenI; omega
  rw [hm]
  unfold mkI
  rw [if_pos (by omega)]
  congr 1
  refine List.ext_getElem? fun i=>?_
  rcases Nat.lt_or_ge i x.orders.length with h|h
  ·rw [QfG h]; simp [h]
  ·rw [List.getElem?_eq_none (by simp; omega),List.getElem?_eq_none (by rw [QdV]; omega)]
 rw [hz,Qaj]
 refine QaP (R:=fun c=>∃ m,c=vecN x.orders.length (fun i=>((m i:Nat):Int))∧ChI x.before m) ?_ fun c hc=>Qaw.2 hc
 refine Qct (fun s:List Int×Bool=>∃ m,s.1=vecN x.orders.length (fun i=>((m i:Nat):Int))∧ChI x.before m) (fun s=>2*(10240-sumN x.orders.length (fun i=>s.1.getD i 0)).toNat+(if s.2=true then 1 else 0)) ⟨fun _=>0,rfl,fun _=>by omega,fun i a h=>by simp at h⟩ ?_ ?_
 ·have hz0:0≤sumN x.orders.length (fun i=>(vecN x.orders.length fun i=>(((fun _=>0:Nat→Nat) i:Nat):Int)).getD i 0):=by
   rw [Qh3 (g:=fun i=>(((fun _=>0:Nat→Nat) i:Nat):Int)) _ fun i hi=>by rw [List.getD_eq_getElem?_getD,QfG hi]; rfl]
   exact (sb (fun _=>0) fun _=>by omega).1
  refine Nat.lt_of_le_of_lt (m:=2*10240+1) ?_ (by decide)
  refine Nat.add_le_add (Nat.mul_le_mul_left 2 (Int.toNat_le.2 ?_)) (by split <;> decide)
  exact Int.sub_le_self _ hz0
 rintro ⟨_,more⟩ ⟨m,rfl,hm⟩
 have gsum:∀ m:Nat→Nat,sumN x.orders.length (fun i=>(vecN x.orders.length fun i=>((m i:Nat):Int)).getD i 0)=sumN x.orders.length (fun i=>((m i:Nat):Int)):=fun m=>Qh3 _ fun i hi=>by rw [List.getD_eq_getElem?_getD,QfG hi]; rfl
 show post (QcX x.before _ (vecN x.orders.length fun i=>((m i:Nat):Int)) more) _
 unfold QcX
 refine QaE (fun hmore=>?_) (fun hmore=>Qcg ⟨m,rfl,hm⟩)
 refine QaP (R:=fun e:List Int×Bool=>∃ m',e.1=vecN x.orders.length (fun i=>((m' i:Nat):Int))∧ChI x.before m'∧sumN x.orders.length (fun i=>((m i:Nat):Int))≤sumN x.orders.length (fun i=>((m' i:Nat):Int))∧(e.2=true→sumN x.orders.length (fun i=>((m i:Nat):Int))<sumN x.orders.length (fun i=>((m' i:Nat):Int)))) ?_ ?_
 ·refine Qct (fun s:List Int×Bool×Int=>∃ (k:Nat) (m':Nat→Nat),s.2.2=(k:Int)∧k≤x.before.length∧s.1=vecN x.orders.length (fun i=>((m' i:Nat):Int))∧ChI x.before m'∧sumN x.orders.length (fun i=>((m i:Nat):Int))≤sumN x.orders.length (fun i=>((m' i:Nat):Int))∧(s.2.1=true→sumN x.orders.length (fun i=>((m i:Nat):Int))<sumN x.orders.length (fun i=>((m' i:Nat):Int)))) (fun s=>x.before.length-s.2.2.toNat) ⟨0,m,rfl,Nat.zero_le _,rfl,hm,Int.le_refl _,fun h=>by cases h⟩ (by simp; omega) ?_
  rintro ⟨_,f,_⟩ ⟨k,m',rfl,hk,rfl,hm',hle,hf⟩
  show post (QcY x.before _ (vecN x.orders.length fun i=>((m' i:Nat):Int)) f (k:Int)) _
  unfold QcY
  rcases Nat.lt_or_ge k x.before.length with h|h
  ·have e:x.before[k]?=some x.before[k]:=List.getElem?_eq_getElem h
   have hmem:=List.getElem_mem h
   generalize x.before[k]=p at e hmem
   obtain ⟨p0,p1,p2,p3,p4⟩:=hx.befores p hmem
   obtain ⟨a,ha⟩:∃ a:Nat,p.x0=a:=⟨p.x0.toNat,by omega⟩
   obtain ⟨b,hb⟩:∃ b:Nat,p.x1=b:=⟨p.x1.toNat,by omega⟩
   have hpa:Pth x.before (a:Int) (b:Int):=ha ▸ hb ▸ Pth.one hmem
   have hpb:∀ c:Int,Pth x.before c (a:Int)→Pth x.before c (b:Int):=fun c hc=>by
    rw [← ha] at hc; rw [← hb]; exact Pth.more hc hmem
   rw [ha] at p0 p1
   rw [hb] at p2 p3
   have hma:=hm'.lt a
   have hmb:=hm'.lt b
   have h2:2 ^ a≤2 ^ 9:=Nat.pow_le_pow_right (by omega) (by omega)
   rw [Qbz e,ha,hb,QaW (by simp [lenI,QdV]; omega),Qny p2 p3,Qaj,Qny p0 p1,Qaj,QcL (by omega),incL e (by omega),Int.toNat_natCast,Int.toNat_natCast,shlN (by omega),orN (by omega) (by omega)]
   have hor1:m' b ||| m' a<1024:=Nat.or_lt_two_pow (n:=10) hmb hma
   rw [orN (by omega) (by omega)]
   have hor2:m' b ||| m' a ||| 2 ^ a<1024:=Nat.or_lt_two_pow (n:=10) hor1 (by omega)
   have hge:m' b≤m' b ||| m' a ||| 2 ^ a:=Nat.le_trans Nat.left_le_or Nat.left_le_or
   refine QaE (fun hne=>Qc4 ⟨⟨k+1,fun i=>if i=b then m' b ||| m' a ||| 2 ^ a else m' i,rfl,h,?_,⟨fun i=>?_,fun i c hc=>?_⟩,?_,fun _=>?_⟩,by simp; omega⟩) (fun _=>Qc4 ⟨⟨k+1,m',rfl,h,rfl,hm',hle,hf⟩,by simp; omega⟩)
   ·show setI (vecN x.orders.length fun i=>((m' i:Nat):Int)) (b:Int) _=_
    rw [QAT (by omega)]
    refine Qgy fun d _=>?_
    show (if d=b then _ else _:Int)=(((if d=b then _ else _:Nat):Nat):Int)
    split <;> rfl
   ·show (if i=b then _ else _)<1024
    split
    ·exact hor2
    ·exact hm'.lt i
   ·have hc':(if i=b then m' b ||| m' a ||| 2 ^ a else m' i).testBit c=true:=hc
    by_cases hi:i=b
    ·rw [if_pos hi,Nat.testBit_or,Nat.testBit_or,Nat.testBit_two_pow] at hc'
     rw [hi]
     simp only [Bool.or_eq_true,decide_eq_true_iff] at hc'
     rcases hc' with (hc'|hc')|hc'
     ·exact hm'.pth b c hc'
     ·exact hpb _ (hm'.pth a c hc')
     ·exact hc' ▸ hpa
    ·rw [if_neg hi] at hc'
     exact hm'.pth i c hc'
   all_goals
    have up:=QtK (f:=fun i=>((m' i:Nat):Int)) (g:=fun i=>(((if i=b then m' b ||| m' a ||| 2 ^ a else m' i:Nat):Nat):Int)) (o:=b) x.orders.length (by omega) (fun j hj=>by
     show (((if j=b then _ else _:Nat):Nat):Int)=_
     rw [if_neg hj])
    simp only [if_pos] at up
    rw [Qyy] at hne
    show _≤sumN x.orders.length (fun i=>(((if i=b then m' b ||| m' a ||| 2 ^ a else m' i:Nat):Nat):Int))
    rw [up]
    omega
  ·obtain rfl:k=x.before.length:=by omega
   rw [Qa4]
   exact Qcg ⟨m',rfl,hm',hle,hf⟩
 ·rintro ⟨_,f⟩ ⟨m',rfl,hm',hle,hf⟩
  refine Qc4 ⟨⟨m',rfl,hm'⟩,?_⟩
  simp only [gsum]
  have s1:=sb m hm.lt
  have s2:=sb m' hm'.lt
  rw [if_pos hmore]
  simp only at hle hf
  cases f with
  | true=>have:=hf rfl; simp; omega
  | false=>simp; omega
theorem Qy5 (hx:QaV x) (h:Qnf x l) {s:Int} (hs:QA3 l s):Qdz x s=some 0:=by
 have h10:=hx.orders
 have ha16:=hx.apart
 have hb16:=hx.before
 have hlen:=Qth (l:=l) 63
 have hmem:∀ i∈memN l 63,∃ k:Nat,i=k∧k<63∧hasO l (k:Int)=true:=fun i hi=>QuD hi
 have hs0:¬ s<0:=by obtain ⟨m,rfl,_⟩:=hs.ex; omega
 unfold Qdz
 rw [QaW (by simp; omega),QsK hs,Qaj]
 generalize memN l 63=M at *
 have hat:∀ {i:Nat} {a:Int},M[i]?=some a→0≤a∧a<x.orders.length∧hasO l a=true:=fun hh=>by
  obtain ⟨k,rfl,_,hk⟩:=hmem _ (List.mem_of_getElem? hh)
  have:=QF6 h hk
  exact ⟨this.1,this.2,hk⟩
 have l1:QaK (fun q=>QaZ x s M q) 0=some (.inl ()):=by
  have:=Qcv (B:=fun q=>QaZ x s M q) (l:=M) (by omega) (fun _=>false) (y:=(.inr 2:Unit⊕Int)) (N:=.inl ()) (fun i a hh=>by
   have hin:=hat hh
   show QaZ x s M i=_
   unfold QaZ
   rw [Qbz hh,QaW (by simp [lenI]; omega),incL hh (by omega)]
   rfl) (by
   show QaZ x s M M.length=_
   unfold QaZ
   rw [Qa4])
  simpa using this
 have l2:QaK (fun q=>QaY x s M q) 0=some (.inl ()):=by
  have:=Qcv (B:=fun q=>QaY x s M q) (l:=M) (by omega) (fun _=>false) (y:=(.inr 9:Unit⊕Int)) (N:=.inl ()) (fun i a hh=>by
   obtain ⟨q0,q1,q2⟩:=hat hh
   obtain ⟨v,hv,hvo⟩:=Qhy.1 q2
   have hoff:=List.any_eq_false.1 h.off v hv
   obtain ⟨o,g1,g2,g3,_⟩:=QxN (x:=x) (v:=v) (by omega) (by omega)
   show QaY x s M i=_
   unfold QaY
   rw [hvo] at g1
   rw [Qbz hh,g1,Qaj,QaW (by rw [← g3]; simpa using hoff),incL hh (by omega)]
   rfl) (by
   show QaY x s M M.length=_
   unfold QaY
   rw [Qa4])
  simpa using this
 have l3:QaK (fun q=>QaT x s M q) 0=some (.inl ()):=by
  have:=Qcv (B:=fun q=>QaT x s M q) (l:=x.apart) (by omega) (fun _=>false) (y:=(.inr 20:Unit⊕Int)) (N:=.inl ()) (fun i a hh=>by
   obtain ⟨p0,p1,p2,p3,p4⟩:=hx.aparts a (List.mem_of_getElem? hh)
   have hap:Qmp l a=false:=by simpa using List.any_eq_false.1 h.apart a (List.mem_of_getElem? hh)
   unfold Qmp at hap
   show QaT x s M i=_
   unfold QaT
   rw [Qbz hh,hs.Has p0 (by omega),Qaj,hs.Has p2 (by omega),Qaj,incL hh (by omega)]
   cases e1:hasO l a.x0 <;> cases e2:hasO l a.x1
   ·rfl
   ·rfl
   ·rfl
   ·rw [e1,e2] at hap; cases hap) (by
   show QaT x s M x.apart.length=_
   unfold QaT
   rw [Qa4])
  simpa using this
 have l4:QaK (fun q=>QaQ x s M q) 0=some (.inl ()):=by
  have:=Qcv (B:=fun q=>QaQ x s M q) (l:=x.before) (by omega) (fun _=>false) (y:=(.inr 21:Unit⊕Int)) (N:=.inl ()) (fun i a hh=>by
   have hm:=List.mem_of_getElem? hh
   obtain ⟨p0,p1,p2,p3,p4⟩:=hx.befores a hm
   show QaQ x s M i=_
   unfold QaQ
   rw [Qbz hh,hs.Has p2 (by omega),Qaj,hs.Has p0 (by omega),Qaj,incL hh (by omega)]
   cases e1:hasO l a.x1
   ·rfl
   ·rw [(Qv8 h hm e1).1]; rfl) (by
   show QaQ x s M x.before.length=_
   unfold QaQ
   rw [Qa4])
  simpa using this
 obtain ⟨c,hc,m,rfl,hm⟩:=Qrk hx
 have l5:QaK (fun q=>QaN M (vecN x.orders.length fun i=>((m i:Nat):Int)) q) 0=some (.inl ()):=by
  have:=Qcv (B:=fun q=>QaN M (vecN x.orders.length fun i=>((m i:Nat):Int)) q) (l:=M) (by omega) (fun _=>false) (y:=(.inr 21:Unit⊕Int)) (N:=.inl ()) (fun i a hh=>by
   obtain ⟨q0,q1,q2⟩:=hat hh
   obtain ⟨k,rfl⟩:∃ k:Nat,a=k:=⟨a.toNat,by omega⟩
   show QaN M (vecN x.orders.length fun i=>((m i:Nat):Int)) i=_
   unfold QaN
   have hlt:=hm.lt k
   have hbit:(m k).testBit k=false:=by
    rw [Bool.eq_false_iff]
    intro hb
    have:=(QFp h (hm.pth k k hb) q2).2
    omega
   have hhas:QbV ((m k:Nat):Int) (k:Int)=some false:=by
    unfold QbV
    rw [Qbj (by simp; omega),QcL (by omega),shrN (by omega)]
    have hd:=Nat.div_le_self (m k) (2 ^ k)
    rw [show (1:Int)=((1:Nat):Int) from rfl,andN (by omega) (by omega),Nat.and_one_is_mod]
    rw [Nat.testBit_eq_decide_div_mod_eq,decide_eq_false_iff_not] at hbit
    congr 1
    generalize m k / 2 ^ k=q at *
    rw [Qv9]
    omega
   rw [Qbz hh,Qny q0 q1,Qaj,Int.toNat_natCast,hhas,Qaj,incL hh (by omega)]
   rfl) (by
   show QaN M (vecN x.orders.length fun i=>((m i:Nat):Int)) M.length=_
   unfold QaN
   rw [Qa4])
  simpa using this
 rw [QbW l1,Qdm,QbW l2,Qdm,QbW l3,Qdm,QbW l4,Qdm,hc,Qaj,QbW l5,Qdm]
end
end Go.Proofs.YtfjiafgldchinaaGreatDoor
namespace Go.Proofs.YtfjiafgldchinaaGreatDoor
set_option linter.unusedSimpArgs false
set_option linter.unusedVariables false
set_option linter.unusedSectionVars false
def QBC {α S E:Type} (f:S→α→S⊕E) (N:S→E):S→List α→E
 | s,[]=>N s
 | s,a :: r=>match f s a with
  | .inl s'=>QBC f N s' r
  | .inr e=>e
theorem QBD {α S E:Type} {f:S→α→S⊕E} {N:S→E} {s s':S} {a:α} {r:List α} (h:f s a=.inl s'):QBC f N s (a :: r)=QBC f N s' r:=by rw [QBC,h]
theorem Qz0 {α S E:Type} {l:List α} (hl:l.length≤1048576) (f:S→α→S⊕E) (N:S→E) (Inv:Nat→S→Prop) {B:S×Int→Option ((S×Int)⊕E)}
  (hin:∀ (s:S) (i:Nat) (a:α),l[i]?=some a→Inv i s→B (s,(i:Int))=some (match f s a with|.inl s'=>.inl (s',(i:Int)+1)|.inr e=>.inr e)∧∀ s',f s a=.inl s'→Inv (i+1) s')
  (hend:∀ s,Inv l.length s→B (s,(l.length:Int))=some (.inr (N s))) {s0:S} (h0:Inv 0 s0):QaK B (s0,0)=some (QBC f N s0 l):=by
 have main:∀ (m:List α) (k:Nat) (s:S),l.drop k=m→k≤l.length→Inv k s→Qu7 B (m.length+1) (s,(k:Int))=some (QBC f N s m):=by
  intro m
  induction m with
  | nil =>
   intro k s hd hk hi
   have:k=l.length:=by
    have:=congrArg List.length hd
    rw [List.length_drop,List.length_nil] at this
    omega
   subst this
   simp only [List.length_nil,Qu7]
   rw [hend s hi]
   rfl
  | cons a m ih =>
   intro k s hd hk hi
   have hk':k<l.length:=Nat.lt_of_not_le fun h=>by rw [List.drop_eq_nil_of_le h] at hd; cases hd
   have hcons:=List.drop_eq_getElem_cons hk'
   rw [hd] at hcons
   injection hcons with h1 h2
   have e:l[k]?=some a:=by rw [List.getElem?_eq_getElem hk',← h1]
   obtain ⟨g1,g2⟩:=hin s k a e hi
   rw [List.length_cons,Qu7,g1]
   show _=some (match f s a with|.inl s'=>QBC f N s' m|.inr e=>e)
   cases hf:f s a with
   | inl s'=>exact ih (k+1) s' h2.symm hk' (g2 s' hf)
   | inr e=>rfl
 have:=main l 0 s0 rfl (Nat.zero_le _) h0
 exact QzY (l.length+1) (by unfold Qmy; omega) this
end Go.Proofs.YtfjiafgldchinaaGreatDoor
namespace Go.Proofs.YtfjiafgldchinaaGreatDoor
set_option linter.unusedSimpArgs false
set_option linter.unusedVariables false
set_option linter.unusedSectionVars false
def QGV:QaF:=QaF.mk 0 0 0 false
section
variable {x : Qab} {r : Qam} {s : Qap} {now : Int}
theorem EvOK.visit (hx:QaV x) {b:List Bool} (h:EvOK x r s b) {k:Nat} (hk:k<r.visits.length):∃ v o,r.visits[k]?=some v∧getI x.orders v.order=some o∧Qq7 x v=some ((QaI x r).getD k QBa)∧atS v o=(QaI x r).getD k QBa∧s.times[k]?=some (s.times.getD k QGV):=by
 have hf:=h.facts hx
 have hsl:=QiR (x:=x) (r:=r)
 have e0:(QaI x r)[k]?=some ((QaI x r).getD k QBa):=by rw [List.getD_eq_getElem?_getD,List.getElem?_eq_getElem (show k<(QaI x r).length by omega)]; rfl
 obtain ⟨v,v1,v2⟩:=QwP h.poss e0
 have hin:=Qni (QAD h.seq).inn (List.mem_of_getElem? v1)
 obtain ⟨o,g1,g2,g3,g4⟩:=QxN (x:=x) hin.1 hin.2
 refine ⟨v,o,v1,g1,v2,?_,?_⟩
 ·unfold Qq7 at v2
  rw [if_pos hin.1,g4] at v2
  simp only at v2
  split at v2
  ·exact Option.some.inj v2
  ·cases v2
 ·rw [List.getD_eq_getElem?_getD,List.getElem?_eq_getElem (show k<s.times.length by have:=hf.2.2.2.2.2.1; omega)]; rfl
end
end Go.Proofs.YtfjiafgldchinaaGreatDoor
namespace Go.Proofs.YtfjiafgldchinaaGreatDoor
set_option linter.unusedSimpArgs false
set_option linter.unusedVariables false
set_option linter.unusedSectionVars false
theorem QFj {n:Qak} (h:Qak.ok 1048576 n):NetI n:=by
 obtain ⟨⟨h1,h2⟩,⟨h3,h4⟩,_⟩:=h
 refine ⟨h1,h3,h2,fun a ha=>?_⟩
 obtain ⟨_,_,_,_,⟨h5,h6⟩,⟨h7,h8⟩,_⟩:=h4 a ha
 exact ⟨h5,h7,fun p hp=>⟨(h6 p hp).1,(h6 p hp).2.1⟩,fun p hp=>⟨(h8 p hp).1,(h8 p hp).2.1⟩⟩
end Go.Proofs.YtfjiafgldchinaaGreatDoor
namespace Go.Proofs.YtfjiafgldchinaaGreatDoor
set_option linter.unusedSimpArgs false
set_option linter.unusedVariables false
set_option linter.unusedSectionVars false
theorem QDE {x:Qab} (h:Qab.ok 1048576 x):QFI x:=by
 obtain ⟨h0,⟨h1,h2⟩,⟨h3,h4⟩,⟨h5,_⟩,⟨h6,_⟩,_⟩:=h
 refine ⟨QFj h0,h1,h3,h5,h6,fun t ht=>?_,fun o ho=>?_⟩
 ·obtain ⟨a,_,_,_,⟨b,_⟩,_⟩:=h2 t ht
  exact ⟨a,b⟩
 ·obtain ⟨a,⟨b,_⟩,_⟩:=h4 o ho
  exact ⟨a,b⟩
end Go.Proofs.YtfjiafgldchinaaGreatDoor
