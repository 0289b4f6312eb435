/- Part MR of the proof: texts Xra Xrb Xrc Xrd Xre Xrf Xrg Xrh Xri Xrj Xta Xtb Xtc Xtd Xqz Xqzd. -/
import Derived.Test.YtoedkepcaigkeaaGreatDoorMP
import Derived.Test.YtoedkepcaigkeaaGreatDoorMQ
import Derived.Test.YtoedkepcaigkeaaGreatDoorMT
namespace Go.Proofs.YtoedkepcaigkeaaGreatDoor
set_option linter.unusedSimpArgs false
set_option linter.unusedVariables false
set_option linter.unusedSectionVars false
def ixP {α:Type} (p:α→Bool):List α→Option Nat
 | []=>none
 | a :: r=>if p a=true then some 0 else (ixP p r).map (·+1)
section
variable {α : Type} {p : α → Bool}
theorem QrJ {l:List α} {k:Nat} (h:ixP p l=some k):∃ hk:k<l.length,p l[k]=true∧∀ j (hj:j<k),p (l[j]'(by omega))=false:=by
 induction l generalizing k with
 | nil=>cases h
 | cons a r ih =>
  unfold ixP at h
  split at h
  ·cases h
   exact ⟨by simp,by simpa,fun j hj=>by omega⟩
  ·rename_i ha
   rw [Option.map_eq_some_iff] at h
   obtain ⟨m,hm,rfl⟩:=h
   obtain ⟨h1,h2,h3⟩:=ih hm
   refine ⟨by simp; omega,by simpa using h2,fun j hj=>?_⟩
   cases j with
   | zero=>simpa using ha
   | succ j=>simpa using h3 j (by omega)
theorem QxL {l:List α} (h:ixP p l=none):∀ a∈l,p a=false:=by
 induction l with
 | nil=>simp
 | cons a r ih =>
  unfold ixP at h
  split at h
  ·cases h
  ·rename_i ha
   rw [Option.map_eq_none_iff] at h
   intro b hb
   rcases List.mem_cons.1 hb with rfl|hb
   ·simpa using ha
   ·exact ih h b hb
def ixI (p:α→Bool) (l:List α):Int:=match ixP p l with
 | some k=>k
 | none=>-1
theorem QH9 {l:List α}:0≤ixI p l↔∃ a∈l,p a=true:=by
 unfold ixI
 cases h:ixP p l with
 | some k =>
  obtain ⟨h1,h2,_⟩:=QrJ h
  exact ⟨fun _=>⟨_,List.getElem_mem h1,h2⟩,fun _=>Int.natCast_nonneg k⟩
 | none=>exact ⟨fun h'=>by simp at h',fun ⟨a,ha,hp⟩=>by rw [QxL h a ha] at hp; cases hp⟩
theorem QEb {l:List α}:-1≤ixI p l∧ixI p l<l.length:=by
 unfold ixI
 cases h:ixP p l with
 | some k=>have:=(QrJ h).1; simp only; omega
 | none=>simp only; omega
theorem QoL {l:List α}:geI (ixI p l) 0=l.any p:=by
 rw [Bool.eq_iff_iff,QtX,QH9,List.any_eq_true]
end
section
variable {E : Type} {B : Int → Option (Int ⊕ E)}
theorem QEx {n:Nat} (hn:n≤1048576) (p:Nat→Bool) (Y:Nat→E) {N:E}
  (hin:∀ i:Nat,i<n→B (i:Int)=some (if p i=true then .inr (Y i) else .inl ((i:Int)+1))) (hend:B (n:Int)=some (.inr N)) :
  (∃ k,k<n∧p k=true∧(∀ j,j<k→p j=false)∧QaW B 0=some (Y k))∨((∀ j,j<n→p j=false)∧QaW B 0=some N):=by
 have main:post (QaW B 0) fun e=>(∃ k,k<n∧p k=true∧(∀ j,j<k→p j=false)∧e=Y k)∨((∀ j,j<n→p j=false)∧e=N):=by
  refine QdA (fun i=>∃ k:Nat,i=(k:Int)∧k≤n∧∀ j,j<k→p j=false) (fun i=>n-i.toNat) ⟨0,rfl,Nat.zero_le _,fun j hj=>by omega⟩ (by simp; omega) ?_
  rintro _ ⟨k,rfl,hk,hf⟩
  rcases Nat.lt_or_ge k n with h|h
  ·rw [hin k h]
   split
   ·rename_i hp
    exact QcT (.inl ⟨k,h,hp,hf,rfl⟩)
   ·rename_i hp
    refine QeV ⟨⟨k+1,by simp,by omega,fun j hj=>?_⟩,by simp; omega⟩
    rcases Nat.lt_or_eq_of_le (Nat.le_of_lt_succ hj) with hj|rfl
    ·exact hf j hj
    ·simpa using hp
  ·obtain rfl:k=n:=by omega
   rw [hend]
   exact QcT (.inr ⟨hf,rfl⟩)
 obtain ⟨e,he,h⟩:=main
 rcases h with ⟨k,h1,h2,h3,rfl⟩|⟨h1,rfl⟩
 ·exact .inl ⟨k,h1,h2,h3,he⟩
 ·exact .inr ⟨h1,he⟩
theorem QwD {n:Nat} (hn:n≤1048576) (p:Nat→Bool) {y N:E} {b:Bool} (hb:b=true↔∃ k,k<n∧p k=true)
  (hin:∀ i:Nat,i<n→B (i:Int)=some (if p i=true then .inr y else .inl ((i:Int)+1))) (hend:B (n:Int)=some (.inr N)) :
  QaW B 0=some (if b=true then y else N):=by
 rcases QEx hn p (fun _=>y) hin hend with ⟨k,h1,h2,_,h4⟩|⟨h1,h4⟩
 ·rw [h4,if_pos (hb.2 ⟨k,h1,h2⟩)]
 ·rw [h4,if_neg fun h=>by obtain ⟨k,h5,h6⟩:=hb.1 h; rw [h1 k h5] at h6; cases h6]
theorem QeX {α:Type} {l:List α} (hl:l.length≤1048576) (p:α→Bool) {y N:E}
  (hin:∀ (i:Nat) a,l[i]?=some a→B (i:Int)=some (if p a=true then .inr y else .inl ((i:Int)+1))) (hend:B (l.length:Int)=some (.inr N)) :
  QaW B 0=some (if l.any p=true then y else N):=by
 refine QwD hl (fun i=>match l[i]? with|some a=>p a|none=>false) ?_ (fun i hi=>?_) hend
 ·rw [List.any_eq_true]
  constructor
  ·rintro ⟨a,ha,hp⟩
   obtain ⟨k,hk,rfl⟩:=List.getElem_of_mem ha
   exact ⟨k,hk,by rw [List.getElem?_eq_getElem hk]; exact hp⟩
  ·rintro ⟨k,hk,hp⟩
   rw [List.getElem?_eq_getElem hk] at hp
   exact ⟨_,List.getElem_mem hk,hp⟩
 ·rw [List.getElem?_eq_getElem hi]
  exact hin i _ (List.getElem?_eq_getElem hi)
theorem Qtp {α:Type} {l:List α} (hl:l.length≤1048576) (p:α→Bool) (Y:Nat→E) {N:E}
  (hin:∀ (i:Nat) a,l[i]?=some a→B (i:Int)=some (if p a=true then .inr (Y i) else .inl ((i:Int)+1))) (hend:B (l.length:Int)=some (.inr N)) :
  QaW B 0=some (match ixP p l with|some k=>Y k|none=>N):=by
 have h:=QEx (B:=B) hl (fun i=>match l[i]? with|some a=>p a|none=>false) Y (N:=N) (fun i hi=>by
  rw [List.getElem?_eq_getElem hi]; exact hin i _ (List.getElem?_eq_getElem hi)) hend
 have at_:∀ j (hj:j<l.length),(match l[j]? with|some a=>p a|none=>false)=p l[j]:=fun j hj=>by rw [List.getElem?_eq_getElem hj]
 rcases h with ⟨k,h1,h2,h3,h4⟩|⟨h1,h4⟩
 ·cases hx:ixP p l with
  | none=>rw [at_ k h1,QxL hx _ (List.getElem_mem h1)] at h2; cases h2
  | some m =>
   obtain ⟨g1,g2,g3⟩:=QrJ hx
   rcases Nat.lt_trichotomy k m with h|h|h
   ·rw [at_ k h1,g3 k h] at h2; cases h2
   ·rw [h4,h]
   ·have:=h3 m h; simp only [at_ m g1] at this; rw [g2] at this; cases this
 ·cases hx:ixP p l with
  | none=>rw [h4]
  | some m =>
   obtain ⟨g1,g2,g3⟩:=QrJ hx
   have:=h1 m g1; simp only [at_ m g1] at this; rw [g2] at this; cases this
end
theorem QHR {m:Nat} (h:m<9223372036854775808):IntKind.i64.wrap (m:Int)=m:=IntWalk.i64_in _ ⟨by omega,by omega⟩
theorem cvuN {m:Nat} (h:m<9223372036854775808):cvK .u64 (m:Int)=m:=by
 unfold cvK
 simp only [IntKind.wrap,IntKind.bits,IntKind.signed]
 simp
 omega
theorem shrN {m i:Nat} (hi:i≤64):shrK .i64 (m:Int) (i:Int)=((m / 2 ^ i:Nat):Int):=by
 unfold shrK
 rw [show min (i:Int).toNat IntKind.i64.bits=i by simp [IntKind.bits]; omega,show (2:Int) ^ i=((2 ^ i:Nat):Int) by simp,Int.fdiv_eq_ediv_of_nonneg _ (Int.natCast_nonneg _)]
 rfl
theorem shlN {i:Nat} (hi:i≤62):shlK .i64 1 (i:Int)=((2 ^ i:Nat):Int):=by
 have h2:2 ^ i≤2 ^ 62:=Nat.pow_le_pow_right (by omega) hi
 unfold shlK
 rw [show min (i:Int).toNat IntKind.i64.bits=i by simp [IntKind.bits]; omega,Int.one_mul,show (2:Int) ^ i=((2 ^ i:Nat):Int) by simp]
 exact QHR (by omega)
theorem orN {a b:Nat} (ha:a<9223372036854775808) (hb:b<9223372036854775808):orK .i64 (a:Int) (b:Int)=((a ||| b:Nat):Int):=by
 unfold orK
 have h:=Nat.or_lt_two_pow (n:=63) ha hb
 have e:(BitVec.ofInt IntKind.i64.bits (a:Int) ||| BitVec.ofInt IntKind.i64.bits (b:Int)).toNat=a ||| b:=by
  rw [BitVec.toNat_or]
  show (BitVec.ofInt 64 (a:Int)).toNat ||| (BitVec.ofInt 64 (b:Int)).toNat=_
  rw [BitVec.ofInt_natCast,BitVec.ofInt_natCast,BitVec.toNat_ofNat,BitVec.toNat_ofNat,Nat.mod_eq_of_lt (by omega),Nat.mod_eq_of_lt (by omega)]
 rw [e]
 exact QHR (by omega)
theorem andN {a b:Nat} (ha:a<9223372036854775808) (hb:b<9223372036854775808):andK .i64 (a:Int) (b:Int)=((a &&& b:Nat):Int):=by
 unfold andK
 have h:=Nat.and_le_left (n:=a) (m:=b)
 have e:(BitVec.ofInt IntKind.i64.bits (a:Int) &&& BitVec.ofInt IntKind.i64.bits (b:Int)).toNat=a &&& b:=by
  rw [BitVec.toNat_and]
  show (BitVec.ofInt 64 (a:Int)).toNat &&& (BitVec.ofInt 64 (b:Int)).toNat=_
  rw [BitVec.ofInt_natCast,BitVec.ofInt_natCast,BitVec.toNat_ofNat,BitVec.toNat_ofNat,Nat.mod_eq_of_lt (by omega),Nat.mod_eq_of_lt (by omega)]
 rw [e]
 exact QHR (by omega)
theorem QBK {a b:Nat} (ha:a<9223372036854775808) (hb:b<9223372036854775808):Qta .i64 (a:Int) (b:Int)=0↔∀ i,a.testBit i=true→b.testBit i=true:=by
 show IntKind.i64.wrap (((BitVec.ofInt 64 (a:Int) &&& ~~~BitVec.ofInt 64 (b:Int)).toNat:Nat):Int)=0↔_
 rw [BitVec.ofInt_natCast,BitVec.ofInt_natCast]
 have hle:(BitVec.ofNat 64 a &&& ~~~BitVec.ofNat 64 b).toNat<9223372036854775808:=by
  rw [BitVec.toNat_and,BitVec.toNat_ofNat,Nat.mod_eq_of_lt (by omega)]
  exact Nat.lt_of_le_of_lt Nat.and_le_left ha
 rw [QHR hle]
 have bit:∀ i,(BitVec.ofNat 64 a &&& ~~~BitVec.ofNat 64 b).toNat.testBit i=(a.testBit i&&!b.testBit i):=fun i=>by
  rw [BitVec.testBit_toNat,BitVec.getLsbD_and,BitVec.getLsbD_not,BitVec.getLsbD_ofNat,BitVec.getLsbD_ofNat]
  rcases Nat.lt_or_ge i 64 with h|h
  ·simp [h]
  ·have:a.testBit i=false:=Nat.testBit_lt_two_pow (Nat.lt_of_lt_of_le ha (Nat.le_trans (by decide) (Nat.pow_le_pow_right (n:=2) (by omega) h)))
   simp [this]
 constructor
 ·intro h i hi
  have:=bit i
  rw [show (BitVec.ofNat 64 a &&& ~~~BitVec.ofNat 64 b).toNat=0 by omega,Nat.zero_testBit,hi] at this
  simpa using this.symm
 ·intro h
  have:(BitVec.ofNat 64 a &&& ~~~BitVec.ofNat 64 b).toNat=0:=Nat.eq_of_testBit_eq fun i=>by
   rw [bit,Nat.zero_testBit]
   cases hi:a.testBit i with
   | false=>rfl
   | true=>rw [h i hi]; rfl
  omega
theorem Qyk {m i:Nat}:eqI (remK (((m / 2 ^ i:Nat):Int)) 2) 1=m.testBit i:=by
 rw [Bool.eq_iff_iff,QuM,Nat.testBit_eq_decide_div_mod_eq,decide_eq_true_iff]
 unfold remK
 generalize m / 2 ^ i=q
 rw [Int.tmod_eq_emod_of_nonneg (by omega)]
 omega
theorem QGH {m i:Nat} (h:m.testBit i=false) (j:Nat):(m+2 ^ i).testBit j=(m.testBit j||decide (i=j)):=by
 rw [Nat.add_comm]
 rcases Nat.lt_trichotomy j i with hj|rfl|hj
 ·rw [Nat.testBit_two_pow_add_gt hj,decide_eq_false (by omega),Bool.or_false]
 ·rw [Nat.testBit_two_pow_add_eq,h]; simp
 ·rw [decide_eq_false (by omega),Bool.or_false]
  have h0:m / 2 ^ i % 2=0:=by
   rw [Nat.testBit_eq_decide_div_mod_eq,decide_eq_false_iff_not] at h
   omega
  have e1:(2 ^ i+m) / 2 ^ (i+1)=m / 2 ^ (i+1):=by
   rw [Nat.pow_succ,← Nat.div_div_eq_div_mul,← Nat.div_div_eq_div_mul,Nat.add_div_left _ (Nat.two_pow_pos i)]
   omega
  rw [Nat.testBit_eq_decide_div_mod_eq,Nat.testBit_eq_decide_div_mod_eq]
  have hp:2 ^ j=2 ^ (i+1)*2 ^ (j-(i+1)):=by rw [← Nat.pow_add]; congr 1; omega
  rw [hp,← Nat.div_div_eq_div_mul,← Nat.div_div_eq_div_mul,e1]
theorem QHW {t:Qak} {skills:Int} (ht:0≤t.skills∧t.skills≤1073741823) (hs:0≤skills∧skills≤1073741823):∃ b,QnH t skills=some b∧QhK t skills=some b:=by
 obtain ⟨a,ha⟩:∃ a:Nat,skills=a:=⟨skills.toNat,by omega⟩
 obtain ⟨c,hc⟩:∃ c:Nat,t.skills=c:=⟨t.skills.toNat,by omega⟩
 subst ha
 refine ⟨eqI (Qta .i64 (a:Int) (c:Int)) 0,?_,?_⟩
 ·unfold QnH
  rw [hc]
  rw [show geI (c:Int) 0=true by simp,show geI (a:Int) 0=true by simp]
  rfl
 ·unfold QhK
  rw [Qa3 (by simp; omega)]
  have key:QaW (fun s=>QdU t (a:Int) s) 1=some (if (eqI (Qta .i64 (a:Int) (c:Int)) 0)=true then .inl () else .inr false):=by
   have bigpow:∀ k:Nat,k≤62→(0:Int)<((2 ^ k:Nat):Int)∧((2 ^ k:Nat):Int)≤4611686018427387904:=fun k hk=>by
    have h1:=Nat.two_pow_pos k
    have h2:2 ^ k≤2 ^ 62:=Nat.pow_le_pow_right (by omega) hk
    omega
   have main:post (QaW (fun s=>QdU t (a:Int) s) 1) fun e=>e=if (eqI (Qta .i64 (a:Int) (c:Int)) 0)=true then .inl () else .inr false:=by
    refine QdA (fun s=>∃ k:Nat,k≤63∧s=(if k=63 then -9223372036854775808 else ((2 ^ k:Nat):Int))∧∀ i,i<k→a.testBit i=true→c.testBit i=true) (fun s=>if s<0 then 0 else 9223372036854775808-s.toNat) ⟨0,by omega,rfl,fun i hi=>by omega⟩ (by decide) ?_
    rintro _ ⟨k,hk,rfl,hb⟩
    show post (QdU t (a:Int) _) _
    unfold QdU
    rcases Nat.lt_or_ge k 63 with hk'|hk'
    ·rw [if_neg (by omega)]
     obtain ⟨p1,p2⟩:=bigpow k (by omega)
     rw [Qa8 (by simp only [Qy5]; exact p1),QdX (by omega),hc]
     have hq:∀ z:Nat,z<9223372036854775808→quoK .i64 (z:Int) ((2 ^ k:Nat):Int)=((z / 2 ^ k:Nat):Int):=fun z hz=>by
      have e:(z:Int).tdiv ((2 ^ k:Nat):Int)=((z / 2 ^ k:Nat):Int):=by rw [Int.tdiv_eq_ediv_of_nonneg (by omega)]; rfl
      have h1:=Nat.div_le_self z (2 ^ k)
      rw [quoI,e] <;> (rw [e]; generalize z / 2 ^ k=q at h1; omega)
     rw [hq a (by omega),hq c (by omega),Qyk]
     have go:∀ h:(a.testBit k=true→c.testBit k=true),post (some (Sum.inl (mulK .i64 ((2 ^ k:Nat):Int) 2):Int⊕(Unit⊕Bool))) fun x=>(∀ s',x=.inl s'→(∃ k':Nat,k'≤63∧s'=(if k'=63 then -9223372036854775808 else ((2 ^ k':Nat):Int))∧∀ i,i<k'→a.testBit i=true→c.testBit i=true)∧(if s'<0 then 0 else 9223372036854775808-s'.toNat)<(if ((2 ^ k:Nat):Int)<0 then 0 else 9223372036854775808-((2 ^ k:Nat):Int).toNat))∧∀ e,x=.inr e→e=if (eqI (Qta .i64 (a:Int) (c:Int)) 0)=true then .inl () else .inr false:=by
      intro h
      have hm:mulK .i64 ((2 ^ k:Nat):Int) 2=if k+1=63 then -9223372036854775808 else ((2 ^ (k+1):Nat):Int):=by
       split
       ·rename_i h62
        obtain rfl:k=62:=by omega
        decide
       ·obtain ⟨q1,q2⟩:=bigpow (k+1) (by omega)
        have e:((2 ^ k:Nat):Int)*2=((2 ^ (k+1):Nat):Int):=by rw [Nat.pow_succ]; simp
        rw [mulI (by omega) (by omega),e]
      refine QeV ⟨⟨k+1,by omega,hm,fun i hi=>?_⟩,?_⟩
      ·rcases Nat.lt_or_eq_of_le (Nat.le_of_lt_succ hi) with hi|rfl
       ·exact hb i hi
       ·exact h
      ·rw [hm,if_neg (show ¬ ((2 ^ k:Nat):Int)<0 by omega)]
       split
       ·rw [if_pos (by omega)]; omega
       ·obtain ⟨q1,q2⟩:=bigpow (k+1) (by omega)
        have e:2 ^ (k+1)=2 ^ k*2:=Nat.pow_succ ..
        rw [if_neg (by omega)]
        omega
     refine QaU (fun h1=>QbT (by omega) (QaU (fun h2=>QcT ?_) (fun h2=>go fun _=>?_))) (fun h1=>go fun h=>by rw [h1] at h; cases h)
     ·rw [if_neg]
      intro h
      have h3:=(QBK (by omega) (by omega)).1 (QuM.1 h) k h1
      rw [← Qyk,QuM] at h3
      rw [QuM] at h2
      omega
     ·rw [Qzf] at h2
      rw [← Qyk,QuM]
      unfold remK at h2 ⊢
      generalize c / 2 ^ k=q at h2 ⊢
      rw [Int.tmod_eq_emod_of_nonneg (by omega)] at h2 ⊢
      omega
    ·obtain rfl:k=63:=by omega
     rw [if_pos rfl,Qa3 (by decide)]
     refine QcT ?_
     rw [if_pos]
     rw [QuM]
     refine (QBK (by omega) (by omega)).2 fun i hi=>?_
     rcases Nat.lt_or_ge i 63 with h|h
     ·exact hb i h hi
     ·rw [Nat.testBit_lt_two_pow (Nat.lt_of_lt_of_le (show a<2 ^ 63 by omega) (Nat.pow_le_pow_right (n:=2) (by omega) h))] at hi; cases hi
   exact main.eq
  rw [key,Qaj]
  split <;> simp_all
end Go.Proofs.YtoedkepcaigkeaaGreatDoor
namespace Go.Proofs.YtoedkepcaigkeaaGreatDoor
set_option linter.unusedSimpArgs false
set_option linter.unusedVariables false
set_option linter.unusedSectionVars false
theorem brs {α:Type} {b:Bool} {x y:α}:br b (some x) (some y)=some (if b=true then x else y):=by cases b <;> rfl
theorem QbP {α β:Type} {l:List α} {i:Nat} {a:α} (h:l[i]?=some a) (f:α→Option β) (z:Option β):br (ltI (i:Int) (lenI l)) (bnd (getI l i) f) z=f a:=by
 have:=(List.getElem?_eq_some_iff.1 h).1
 rw [Qa8 (by simp [lenI]; omega),QaV h,Qaj]
theorem Qbj {α β:Type} {l:List α} {y z:Option β}:br (ltI (l.length:Int) (lenI l)) y z=z:=Qa3 (by simp [lenI])
theorem incL {α:Type} {l:List α} {i:Nat} {a:α} (h:l[i]?=some a) (hl:l.length≤1048576):addK .i64 (i:Int) 1=(i:Int)+1:=inc (List.getElem?_eq_some_iff.1 h).1 hl
def inO (x:Qad) (v:Qaa):Bool:=decide (0≤v.order∧v.order<x.orders.length)
def offV (x:Qad) (v:Qaa):Bool:=match x.orders[v.order.toNat]? with
 | some o=>o.off
 | none=>false
def isO (o:Int) (v:Qaa):Bool:=eqI v.order o
def hasO (l:List Qaa) (o:Int):Bool:=l.any (isO o)
def isV (v a:Qaa):Bool:=eqI v.order a.order&&(eqB v.drop a.drop&&true)
def visO (x:Qad) (o:Int):List Qaa:=match x.orders[o.toNat]? with
 | some q=>(if 0≤q.pick.place then [Qaa.mk o false] else [])++(if 0≤q.drop.place then [Qaa.mk o true] else [])
 | none=>[]
def rowB (l:List Qaa):List Qaa→Bool
 | []=>true
 | [a]=>geI (ixI (isV a) l) 0
 | a :: b :: _=>geI (ixI (isV a) l) 0&&ltI (ixI (isV a) l) (ixI (isV b) l)
def QxY (x:Qad) (l:List Qaa) (v:Qaa):Bool:=(visO x v.order).any (isV v)&&rowB l (visO x v.order)
def QvV (l:List Qaa) (p:QaO):Bool:=hasO l p.x0&&hasO l p.x1
def QEe (l:List Qaa) (p:QaO):Bool:=match ixP (isO p.x1) l with
 | some k=>hasO (l.drop k) p.x0
 | none=>false
def badB (l:List Qaa) (p:QaO):Bool:=hasO l p.x1&&(!hasO l p.x0||QEe l p)
instance (l:List Qaa):Decidable l.Nodup:=inferInstanceAs (Decidable (List.Nodup l))
def seqS (x:Qad) (l:List Qaa):Int :=
 if l.length=0 then 2 else if l.any (fun v=>!inO x v)=true then 2 else if l.any (offV x)=true then 9 else if ¬ l.Nodup then 6 else
 if l.any (fun v=>!QxY x l v)=true then 19 else if x.apart.any (QvV l)=true then 20 else if x.before.any (badB l)=true then 21 else 0
section
variable {x : Qad} {l : List Qaa}
theorem QDE {v a:Qaa}:isV v a=true↔a=v:=by
 unfold isV
 cases v; cases a
 simp
 exact ⟨fun ⟨h1,h2⟩=>⟨h1.symm,h2.symm⟩,fun ⟨h1,h2⟩=>⟨h1.symm,h2.symm⟩⟩
theorem QCp {o:Int} {v:Qaa}:isO o v=true↔v.order=o:=by simp [isO]
theorem QrH {o:Int}:hasO l o=true↔∃ v∈l,v.order=o:=by simp [hasO,List.any_eq_true,isO]
theorem QzQ {v:Qaa}:l.any (isV v)=true↔v∈l:=by
 rw [List.any_eq_true]
 exact ⟨fun ⟨a,h,h'⟩=>QDE.1 h' ▸ h,fun h=>⟨v,h,QDE.2 rfl⟩⟩
theorem QCt {v:Qaa}:0≤ixI (isV v) l↔v∈l:=by rw [← QtX,QoL,QzQ]
theorem Qyz {v:Qaa} {k:Nat} (h:ixI (isV v) l=k):l[k]?=some v∧∀ j,j<k→l[j]?≠some v:=by
 unfold ixI at h
 cases hx:ixP (isV v) l with
 | none=>rw [hx] at h; simp only at h; omega
 | some m =>
  rw [hx] at h
  simp only at h
  obtain rfl:m=k:=by omega
  obtain ⟨h1,h2,h3⟩:=QrJ hx
  refine ⟨by rw [List.getElem?_eq_getElem h1,QDE.1 h2],fun j hj he=>?_⟩
  have:=h3 j hj
  rw [List.getElem?_eq_getElem (show j<l.length by omega)] at he
  rw [QDE.2 (Option.some.inj he)] at this
  cases this
theorem QsF (hl:l.length≤1048576) (v:Qaa):QeM l v=some (ixI (isV v) l):=by
 have:=Qtp hl (isV v) (fun k=>(.inr (k:Int):Unit⊕Int)) (N:=.inl ()) (B:=fun s=>QaZ l v s) (fun i a h=>by
  show QaZ l v i=_
  unfold QaZ
  rw [QbP h,incL h hl,brs]; rfl) (by
  show QaZ l v l.length=_
  unfold QaZ
  rw [Qbj])
 unfold QeM QbB
 rw [Qch this]
 unfold ixI
 cases ixP (isV v) l <;> rfl
theorem QFR (hl:l.length≤1048576) (v:Qaa):QbB l v=some (ixI (isV v) l):=by
 have:=QsF hl v
 unfold QeM at this
 obtain ⟨a,h,h'⟩:=Qae this
 rw [h,h']
theorem QA0 (hl:l.length≤1048576) (v:Qaa):QbI l v=some (l.any (isV v)):=by
 unfold QbI
 rw [QFR hl,Qaj,QoL]
theorem QrI (hl:l.length≤1048576) (v:Qaa):Qc1 l v=some (ixI (isV v) l):=by
 have:=Qtp hl (isV v) (fun k=>(.inr (k:Int):Unit⊕Int)) (N:=.inl ()) (B:=fun s=>QcP l v s) (fun i a h=>by
  show QcP l v i=_
  unfold QcP
  rw [QbP h,incL h hl,brs]
  rw [show (eqI a.order v.order&&(eqB a.drop v.drop&&true))=isV v a by
   rw [Bool.eq_iff_iff,QDE]; cases v; cases a; simp]) (by
  show QcP l v l.length=_
  unfold QcP
  rw [Qbj])
 unfold Qc1
 rw [Qch this]
 unfold ixI
 cases ixP (isV v) l <;> rfl
theorem QvN:¬ l.Nodup↔∃ k,k<l.length∧∃ j,j<k∧l[j]?=l[k]?:=by
 unfold List.Nodup
 rw [List.pairwise_iff_getElem]
 constructor
 ·intro h
  refine Classical.byContradiction fun hn=>h fun i j hi hj hij he=>hn ⟨j,hj,i,hij,?_⟩
  rw [List.getElem?_eq_getElem hi,List.getElem?_eq_getElem hj,he]
 ·rintro ⟨k,hk,j,hj,he⟩ h
  rw [List.getElem?_eq_getElem hk,List.getElem?_eq_getElem (show j<l.length by omega)] at he
  exact h j k (by omega) hk hj (Option.some.inj he)
theorem Qpy {v:Qaa} {k:Nat} (hk:k≤l.length):v∈l.take k↔∃ j,j<k∧l[j]?=some v:=by
 rw [List.mem_iff_getElem?]
 constructor
 ·rintro ⟨j,h⟩
  rw [List.getElem?_take] at h
  split at h
  ·exact ⟨j,‹_›,h⟩
  ·cases h
 ·rintro ⟨j,hj,h⟩
  exact ⟨j,by rw [List.getElem?_take,if_pos hj,h]⟩
theorem QGo (hl:l.length≤1048576):Qkm l=some (decide (¬ l.Nodup)):=by
 have:=QwD (B:=fun s=>QdP l s) hl (fun k=>match l[k]? with|some v=>(l.take k).any (isV v)|none=>false) (y:=(.inr true:Unit⊕Bool)) (N:=.inl ()) (b:=decide (¬ l.Nodup)) (by
  rw [decide_eq_true_iff,QvN]
  constructor
  ·rintro ⟨k,hk,j,hj,he⟩
   refine ⟨k,hk,?_⟩
   rw [List.getElem?_eq_getElem hk] at he ⊢
   exact QzQ.2 ((Qpy (by omega)).2 ⟨j,hj,he⟩)
  ·rintro ⟨k,hk,h⟩
   rw [List.getElem?_eq_getElem hk] at h
   obtain ⟨j,hj,he⟩:=(Qpy (by omega)).1 (QzQ.1 h)
   exact ⟨k,hk,j,hj,by rw [he,List.getElem?_eq_getElem hk]⟩) (fun i hi=>by
  have h:l[i]?=some l[i]:=List.getElem?_eq_getElem hi
  show QdP l i=_
  unfold QdP
  rw [QbP h,show slcI l 0 (i:Int)=some (l.take i) by unfold slcI; rw [if_pos (by omega)]; simp,Qaj,QsF (by rw [List.length_take]; omega),Qaj,incL h hl,QoL,brs]
  rw [h]) (by
  show QdP l l.length=_
  unfold QdP
  rw [Qbj])
 unfold Qkm
 rw [Qch this]
 split <;> simp_all
theorem QqH {o:Int}:(visO x o).length≤2:=by
 unfold visO
 split
 ·split <;> split <;> simp
 ·simp
theorem QvD (hx:Qe2 x) {o:Int} (h0:0≤o) (h1:o<x.orders.length):Qiu x.orders o=some (visO x o):=by
 have e:x.orders[o.toNat]?=some (x.orders[o.toNat]'(by omega)):=List.getElem?_eq_getElem _
 generalize x.orders[o.toNat]'(by omega)=q at e
 have hg:getI x.orders o=some q:=by unfold getI; rw [if_pos h0,e]
 unfold Qiu Qnw
 rw [Qaj,Qa8 (by simp [lenI]; omega),hg,Qaj]
 unfold visO
 rw [e]
 have hJ:∀ l1:List Qaa,l1.length≤1→QhQ x.orders o l1=some (l1++if 0≤q.drop.place then [Qaa.mk o true] else []):=fun l1 hl=>by
  unfold QhQ
  rw [hg,Qaj,QdX (by unfold okN; simp; omega),QDC]
  simp only [QtX]
  split <;> simp
 rw [hJ _ (by simp),hJ _ (by simp),QdX (by unfold okN; simp),brs]
 simp only [QtX]
 split <;> rfl
theorem QAU (hx:Qe2 x) {o:Int} (h0:0≤o) (h1:o<x.orders.length):QhD x o=some (visO x o):=by
 have e:x.orders[o.toNat]?=some (x.orders[o.toNat]'(by omega)):=List.getElem?_eq_getElem _
 generalize x.orders[o.toNat]'(by omega)=q at e
 have hq:=hx.ord q (List.mem_of_getElem? e)
 have hg:getI x.orders o=some q:=by unfold getI; rw [if_pos h0,e]
 have hp:neI q.pick.place (-1)=decide (0≤q.pick.place):=by
  have:=hq.pick
  rw [Bool.eq_iff_iff,QyI,decide_eq_true_iff]
  unfold QDL at this
  omega
 have hd:neI q.drop.place (-1)=decide (0≤q.drop.place):=by
  have:=hq.drop
  rw [Bool.eq_iff_iff,QyI,decide_eq_true_iff]
  unfold QDL at this
  omega
 unfold QhD
 rw [hg,Qaj]
 unfold visO
 rw [e]
 have hJ:∀ l1:List Qaa,l1.length≤1→Qet x o l1=some (l1++if 0≤q.drop.place then [Qaa.mk o true] else []):=fun l1 hl=>by
  unfold Qet
  rw [hg,Qaj,QdX (by unfold okN; simp; omega),hd,QDC]
  simp only [decide_eq_true_iff]
  split <;> simp
 rw [hJ _ (by simp),hJ _ (by simp),QdX (by unfold okN; simp),hp,brs]
 simp only [decide_eq_true_iff]
 split <;> rfl
theorem QzN {o:Int} {a b:Qaa} {r:List Qaa} (h:visO x o=a :: b :: r):r=[]∧a≠b:=by
 have h2:=QqH (x:=x) (o:=o)
 rw [h] at h2
 have hr:r=[]:=by cases r with
  | nil=>rfl
  | cons c r=>simp at h2
 refine ⟨hr,?_⟩
 subst hr
 unfold visO at h
 split at h
 ·split at h <;> split at h <;> simp at h
  obtain ⟨rfl,rfl⟩:=h
  simp
 ·cases h
theorem QEv (hl:l.length≤1048576) {r:List Qaa} (hr:r.length≤2) (v:Int):QaW (fun s=>Qbw x l v r s.1 s.2) ((-1),0)=some (if rowB l r=true then .inl () else .inr false):=by
 have out:∀ (p:Int),Qbw x l v r p r.length=some (.inr (.inl ())):=fun p=>by
  unfold Qbw
  rw [Qbj]
 have go:∀ (k:Nat) (a:Qaa) (p:Int),r[k]?=some a→Qbw x l v r p k=some (if leI (ixI (isV a) l) p=true then .inr (.inr false) else .inl (ixI (isV a) l,(k:Int)+1)):=fun k a p h=>by
  unfold Qbw
  rw [QbP h,QsF hl,Qaj,incL h (by omega),brs]
 match r,hr with
 | [],_=>exact QrN 1 (by decide) (by simp only [QvL]; rw [show Qbw x l v [] (-1) 0=_ from out (-1)]; rfl)
 | [a],_ =>
  refine QrN 2 (by decide) ?_
  have g:=go 0 a (-1) rfl
  simp only [QvL]
  rw [show Qbw x l v [a] (-1) 0=_ from g]
  have hb:=QEb (p:=isV a) (l:=l)
  by_cases h:leI (ixI (isV a) l) (-1)=true
  ·rw [if_pos h,if_neg]
   simp only [rowB,QtX]
   simp only [QyA] at h
   omega
  ·rw [if_neg h,if_pos]
   ·simp only
    rw [show Qbw x l v [a] (ixI (isV a) l) ((0:Nat)+1:Int)=_ from out _]
   ·simp only [rowB,QtX]
    simp only [QyA] at h
    omega
 | [a,b],_ =>
  refine QrN 3 (by decide) ?_
  have g:=go 0 a (-1) rfl
  have g1:=go 1 b (ixI (isV a) l) rfl
  simp only [QvL]
  rw [show Qbw x l v [a,b] (-1) 0=_ from g]
  have hb:=QEb (p:=isV a) (l:=l)
  by_cases h:leI (ixI (isV a) l) (-1)=true
  ·rw [if_pos h,if_neg]
   simp only [rowB,QtX,Bool.and_eq_true]
   simp only [QyA] at h
   omega
  ·rw [if_neg h]
   simp only
   rw [show Qbw x l v [a,b] (ixI (isV a) l) ((0:Nat)+1:Int)=_ from g1]
   simp only [QyA] at h
   by_cases h':leI (ixI (isV b) l) (ixI (isV a) l)=true
   ·rw [if_pos h',if_neg]
    simp only [rowB,QtX,Qrq,Bool.and_eq_true]
    simp only [QyA] at h'
    omega
   ·rw [if_neg h',if_pos]
    ·simp only
     rw [show Qbw x l v [a,b] (ixI (isV b) l) ((1:Nat)+1:Int)=_ from out _]
    ·simp only [rowB,QtX,Qrq,Bool.and_eq_true]
     simp only [QyA] at h'
     omega
theorem QoB (h:l.any (fun v=>!inO x v)=false) {v:Qaa} (hv:v∈l):0≤v.order∧v.order<x.orders.length:=by
 have:=List.any_eq_false.1 h v hv
 simpa [inO] using this
theorem QEq (hx:Qe2 x) (hl:l.length≤1048576) (ho:l.any (fun v=>!inO x v)=false):Qjg x l=some (!l.any (fun v=>!QxY x l v)):=by
 have:=QeX (B:=fun s=>Qdo x l s) hl (fun v=>!QxY x l v) (y:=(.inr false:Unit⊕Bool)) (N:=.inl ()) (fun i a h=>by
  obtain ⟨h0,h1⟩:=QoB ho (List.mem_of_getElem? h)
  show Qdo x l i=_
  unfold Qdo
  have hv:=QqH (x:=x) (o:=a.order)
  rw [QbP h,QvD hx h0 h1,Qaj,QA0 (by omega),Qaj,QEv hl hv,Qaj,incL h hl]
  unfold QxY
  cases (visO x a.order).any (isV a) <;> cases rowB l (visO x a.order) <;> rfl) (by
  show Qdo x l l.length=_
  unfold Qdo
  rw [Qbj])
 unfold Qjg
 rw [Qch this]
 cases l.any (fun v=>!QxY x l v) <;> rfl
theorem Qyo (hl:l.length≤1048576) {r:List Qaa} (hr:r.length≤2):Qgv l r=some (!r.any (fun a=>ltI (ixI (isV a) l) 0)):=by
 have:=QeX (B:=fun s=>Qb6 l r s) (l:=r) (by omega) (fun a=>ltI (ixI (isV a) l) 0) (y:=(.inr false:Unit⊕Bool)) (N:=.inl ()) (fun i a h=>by
  show Qb6 l r i=_
  unfold Qb6
  rw [QbP h,QrI hl,Qaj,incL h (by omega),brs]) (by
  show Qb6 l r r.length=_
  unfold Qb6
  rw [Qbj])
 unfold Qgv
 rw [Qch this]
 cases r.any (fun a=>ltI (ixI (isV a) l) 0) <;> rfl
theorem QAn {a b:Int}:ltI a b=!geI a b:=by rw [Bool.eq_iff_iff]; simp
theorem QBb (hx:Qe2 x) (hl:l.length≤1048576) (ho:l.any (fun v=>!inO x v)=false):Qef x l=some (!l.any (fun v=>!QxY x l v)):=by
 have:=QeX (B:=fun s=>Qcy x l s) hl (fun v=>!QxY x l v) (y:=(.inr false:Unit⊕Bool)) (N:=.inl ()) (fun i a h=>by
  obtain ⟨h0,h1⟩:=QoB ho (List.mem_of_getElem? h)
  show Qcy x l i=_
  unfold Qcy
  have hv:=QqH (x:=x) (o:=a.order)
  rw [QbP h,QAU hx h0 h1,Qaj,QrI (by omega),Qaj,Qyo hl hv,Qaj,incL h hl]
  rw [QAn,QoL]
  have hP:QxY x l a=((visO x a.order).any (isV a)&&rowB l (visO x a.order)):=rfl
  generalize QxY x l a=P at hP ⊢
  cases hany:(visO x a.order).any (isV a) with
  | false=>rw [hany] at hP; subst hP; rfl
  | true =>
   rw [hany,Bool.true_and] at hP
   rw [Bool.not_true,QgV]
   cases hvis:visO x a.order with
   | nil=>rw [hvis] at hP; subst hP; rfl
   | cons c r =>
    cases r with
    | nil =>
     rw [hvis] at hP
     rw [List.any_cons,List.any_nil,Bool.or_false,QAn,Bool.not_not,← show P=geI (ixI (isV c) l) 0 from hP]
     cases P <;> rfl
    | cons d r =>
     obtain ⟨rfl,hne⟩:=QzN hvis
     rw [hvis] at hP
     rw [List.any_cons,List.any_cons,List.any_nil,Bool.or_false]
     show br _ (br true (bnd (some c) fun x2=>bnd (Qc1 l x2) fun r3=>bnd (some d) fun x3=>bnd (Qc1 l x3) fun r4=>br (gtI r3 r4) _ _) _) _=_
     rw [Qgh,Qaj,QrI hl,Qaj,Qaj,QrI hl,Qaj]
     simp only [rowB] at hP
     have hc:=QEb (p:=isV c) (l:=l)
     have hd:=QEb (p:=isV d) (l:=l)
     have hcd:0≤ixI (isV c) l→ixI (isV c) l≠ixI (isV d) l:=fun h0 he=>by
      obtain ⟨k,hk⟩:∃ k:Nat,ixI (isV c) l=k:=⟨(ixI (isV c) l).toNat,by omega⟩
      have e1:=(Qyz hk).1
      have e2:=(Qyz (he.symm.trans hk)).1
      rw [e1] at e2
      exact hne (Option.some.inj e2)
     generalize ixI (isV c) l=m at *
     generalize ixI (isV d) l=n at *
     cases P with
     | true =>
      have hP':=hP.symm
      simp only [Bool.and_eq_true,QtX,Qrq] at hP'
      rw [Qa8 (by simp; omega),Qa3 (by simp; omega)]
      rfl
     | false =>
      have hP':=hP.symm
      simp only [Bool.and_eq_false_iff,QD4,Qrt] at hP'
      by_cases h1:0≤m∧0≤n
      ·have:=hcd h1.1
       rw [Qa8 (by simp; omega),Qa8 (by simp; omega)]
       rfl
      ·rw [Qa3 (by simp; omega)]
       rfl) (by
  show Qcy x l l.length=_
  unfold Qcy
  rw [Qbj])
 unfold Qef
 rw [Qch this]
 cases l.any (fun v=>!QxY x l v) <;> rfl
end
end Go.Proofs.YtoedkepcaigkeaaGreatDoor
namespace Go.Proofs.YtoedkepcaigkeaaGreatDoor
set_option linter.unusedSimpArgs false
set_option linter.unusedVariables false
set_option linter.unusedSectionVars false
section
variable {x : Qad} {l : List Qaa}
theorem QFM (hl:l.length≤1048576) (o:Int):Qbl l o=some (ixI (isO o) l):=by
 have:=Qtp hl (isO o) (fun k=>(.inr (k:Int):Unit⊕Int)) (N:=.inl ()) (B:=fun s=>QaK l o s) (fun i a h=>by
  show QaK l o i=_
  unfold QaK Qnp
  rw [QbP h,Qaj,incL h hl,brs]; rfl) (by
  show QaK l o l.length=_
  unfold QaK
  rw [Qbj])
 unfold Qbl
 rw [Qch this]
 unfold ixI
 cases ixP (isO o) l <;> rfl
theorem QA6 (hl:l.length≤1048576) (o:Int):Qbf l o=some (ixI (isO o) l):=by
 have:=Qtp hl (isO o) (fun k=>(.inr (k:Int):Unit⊕Int)) (N:=.inl ()) (B:=fun s=>QaC l o s) (fun i a h=>by
  show QaC l o i=_
  unfold QaC Qjp
  rw [QbP h,Qaj,incL h hl,brs]; rfl) (by
  show QaC l o l.length=_
  unfold QaC
  rw [Qbj])
 unfold Qbf
 rw [Qch this]
 unfold ixI
 cases ixP (isO o) l <;> rfl
theorem QAF (hl:l.length≤1048576) (o:Int):Qiw l o=some (hasO l o):=by
 unfold Qiw Qbz
 rw [QFM hl,Qaj,Qaj,QoL]
 rfl
theorem QA7 (hl:l.length≤1048576):Qa9 l x=some (l.any fun v=>!inO x v):=by
 have:=Qtp hl (fun v=>!inO x v) (fun k=>(.inr (k:Int):Unit⊕Int)) (N:=.inl ()) (B:=fun s=>QaF l x s) (fun i a h=>by
  show QaF l x i=_
  unfold QaF Qki
  rw [QbP h,Qaj,incL h hl,brs]
  rw [show (ltI a.order 0||geI a.order (lenI x.orders))=!inO x a by
   unfold inO lenI; rw [Bool.eq_iff_iff]; simp]) (by
  show QaF l x l.length=_
  unfold QaF
  rw [Qbj])
 have e:Qbh l x=some (ixI (fun v=>!inO x v) l):=by
  unfold Qbh
  rw [Qch this]
  unfold ixI
  cases ixP (fun v=>!inO x v) l <;> rfl
 unfold Qa9
 rw [e,Qaj,QoL]
theorem QAv {v:Qaa} (h0:0≤v.order) (h1:v.order<x.orders.length):∃ o,getI x.orders v.order=some o∧o∈x.orders∧offV x v=o.off∧x.orders[v.order.toNat]?=some o:=by
 have e:x.orders[v.order.toNat]?=some (x.orders[v.order.toNat]'(by omega)):=List.getElem?_eq_getElem _
 refine ⟨_,Qyu h0 h1,List.getElem_mem _,?_,e⟩
 unfold offV
 rw [e]
theorem QA8 (hl:l.length≤1048576) (ho:l.any (fun v=>!inO x v)=false):Qba l x=some (l.any (offV x)):=by
 have:=Qtp hl (offV x) (fun k=>(.inr (k:Int):Unit⊕Int)) (N:=.inl ()) (B:=fun s=>QaG l x s) (fun i a h=>by
  obtain ⟨h0,h1⟩:=QoB ho (List.mem_of_getElem? h)
  obtain ⟨o,g1,g2,g3,_⟩:=QAv h0 h1
  show QaG l x i=_
  unfold QaG Qkj
  rw [QbP h,g1,Qaj,Qaj,incL h hl,brs,g3]) (by
  show QaG l x l.length=_
  unfold QaG
  rw [Qbj])
 have e:Qbi l x=some (ixI (offV x) l):=by
  unfold Qbi
  rw [Qch this]
  unfold ixI
  cases ixP (offV x) l <;> rfl
 unfold Qba
 rw [e,Qaj,QoL]
theorem QDe (hl:l.length≤1048576) (p:QaO):Qjf l p.x0 p.x1=some (!badB l p):=by
 unfold Qjf
 rw [QA6 hl,Qaj,QAF hl,Qaj]
 unfold badB
 have hh:hasO l p.x1=geI (ixI (isO p.x1) l) 0:=QoL.symm
 rw [hh]
 unfold QEe ixI
 cases h:ixP (isO p.x1) l with
 | none=>rfl
 | some k =>
  have hk:=(QrJ h).1
  simp only
  rw [Qa3 (by simp),show slcI l (k:Int) (lenI l)=some (l.drop k) by
   unfold slcI lenI; rw [if_pos (by omega)]; congr 1; rw [List.take_of_length_le]; · rfl
   ·simp]
  rw [Qaj,QAF (by simp; omega),Qaj,show geI (k:Int) 0=true by simp]
  cases hasO l p.x0 <;> cases hasO (l.drop k) p.x0 <;> rfl
theorem Qxv {r:Qac} (hx:Qe2 x) (hl:r.visits.length≤1048576):QiM x r=some (seqS x r.visits):=by
 unfold QiM seqS
 by_cases h0:r.visits.length=0
 ·rw [Qa8 (by simp [lenI,h0]),if_pos h0]
 rw [Qa3 (by simp only [lenI,Qzf]; omega),if_neg h0,QA7 hl,Qaj]
 by_cases h1:r.visits.any (fun v=>!inO x v)=true
 ·rw [Qa8 h1,if_pos h1]
 have h1':r.visits.any (fun v=>!inO x v)=false:=by simpa using h1
 rw [Qa3 h1',if_neg h1,QA8 hl h1',Qaj]
 by_cases h2:r.visits.any (offV x)=true
 ·rw [Qa8 h2,if_pos h2]
 rw [Qa3 (by simpa using h2),if_neg h2,QGo hl,Qaj]
 by_cases h3:¬ r.visits.Nodup
 ·rw [Qa8 (decide_eq_true h3),if_pos h3]
 rw [Qa3 (decide_eq_false h3),if_neg h3,QEq hx hl h1',Qaj]
 by_cases h4:r.visits.any (fun v=>!QxY x r.visits v)=true
 ·rw [Qa3 (by rw [h4]; rfl),if_pos h4]
 rw [Qa8 (by simpa using h4),if_neg h4]
 have ha:=hx.apart
 have hb:=hx.before
 rw [Qch (QeX (B:=fun s=>QdN x r s) (l:=x.apart) (by omega) (QvV r.visits) (y:=(.inr 20:Unit⊕Int)) (N:=.inl ()) (fun i a h=>by
  show QdN x r i=_
  unfold QdN
  rw [QbP h,QAF hl,Qaj,QAF hl,Qaj,incL h (by omega)]
  unfold QvV
  cases hasO r.visits a.x0 <;> cases hasO r.visits a.x1 <;> rfl) (by
  show QdN x r x.apart.length=_
  unfold QdN
  rw [Qbj]))]
 by_cases h5:x.apart.any (QvV r.visits)=true
 ·rw [if_pos h5,if_pos h5]; rfl
 rw [if_neg h5,if_neg h5,Qf9]
 rw [Qch (QeX (B:=fun s=>Qda x r s) (l:=x.before) (by omega) (badB r.visits) (y:=(.inr 21:Unit⊕Int)) (N:=.inl ()) (fun i a h=>by
  show Qda x r i=_
  unfold Qda
  rw [QbP h,QDe hl,Qaj,incL h (by omega)]
  cases badB r.visits a <;> rfl) (by
  show Qda x r x.before.length=_
  unfold Qda
  rw [Qbj]))]
 by_cases h6:x.before.any (badB r.visits)=true
 ·rw [if_pos h6,if_pos h6]; rfl
 ·rw [if_neg h6,if_neg h6]; rfl
theorem QCi {m:Nat} (hm:m<9223372036854775808) {i:Int} (h0:0≤i) (h1:i≤62):QeI (m:Int) i=some (m.testBit i.toNat):=by
 obtain ⟨k,rfl⟩:∃ k:Nat,i=k:=⟨i.toNat,by omega⟩
 unfold QeI
 rw [Qa8 (by simp; omega),cvuN (by omega),QdX (by omega),shrN (by omega),Qyk]
 rfl
structure QDA (l:List Qaa) (s:Int):Prop where
 ex:∃ m:Nat,s=m∧m<1024∧∀ i:Nat,m.testBit i=hasO l (i:Int)
theorem QCP {r:Qac} (hx:Qe2 x) (hl:r.visits.length≤1048576) (ho:r.visits.any (fun v=>!inO x v)=false):post (Qc8 r) fun s=>s.2=0∧QDA r.visits s.1:=by
 have hx10:=hx.orders
 unfold Qc8
 refine Qk7 ?_
 refine QdA (fun s=>∃ (k m:Nat),s=((m:Int),(k:Int))∧k≤r.visits.length∧m<1024∧∀ i:Nat,m.testBit i=hasO (r.visits.take k) (i:Int)) (fun s=>r.visits.length-s.2.toNat) ⟨0,0,rfl,Nat.zero_le _,by omega,fun i=>by simp [hasO]⟩ (by simp; omega) ?_
 rintro _ ⟨k,m,rfl,hk,hm,hb⟩
 show post (Qes r (m:Int) (k:Int)) _
 unfold Qes
 rcases Nat.lt_or_ge k r.visits.length with h|h
 ·have e:r.visits[k]?=some r.visits[k]:=List.getElem?_eq_getElem h
  have hin:=QoB ho (List.getElem_mem h)
  have htk:r.visits.take (k+1)=r.visits.take k++[r.visits[k]]:=by rw [List.take_add_one,e]; rfl
  generalize r.visits[k]=v at e hin htk
  obtain ⟨n,hn⟩:∃ n:Nat,v.order=n:=⟨v.order.toNat,by omega⟩
  have hov:∀ i:Nat,hasO (r.visits.take (k+1)) (i:Int)=(hasO (r.visits.take k) (i:Int)||decide (n=i)):=fun i=>by
   rw [htk]
   unfold hasO
   rw [List.any_append,List.any_cons,List.any_nil,Bool.or_false]
   congr 1
   rw [Bool.eq_iff_iff,QCp,hn,decide_eq_true_iff]
   omega
  rw [QbP e,Qa3 (by rw [hn]; simp; omega),QCi (by omega) (by omega) (by omega),Qaj,incL e hl,hn]
  simp only [Int.toNat_natCast]
  refine QaU (fun h1=>QeV ⟨⟨k+1,m,rfl,h,hm,fun i=>?_⟩,by simp; omega⟩) (fun h1=>?_)
  ·rw [hov,← hb]
   by_cases hi:n=i
   ·subst hi; rw [h1]; rfl
   ·rw [decide_eq_false hi,Bool.or_false]
  ·rw [cvuN (by omega),QdX (by omega),shlN (by omega)]
   have h2:2 ^ n≤2 ^ 9:=Nat.pow_le_pow_right (by omega) (by omega)
   have h3:(0:Int)≤((2 ^ n:Nat):Int)∧((2 ^ n:Nat):Int)≤512:=⟨Int.natCast_nonneg _,Int.ofNat_le.2 (show 2 ^ n≤512 by omega)⟩
   rw [addI (by omega) (by omega)]
   have hbit:∀ i,(m+2 ^ n).testBit i=hasO (r.visits.take (k+1)) (i:Int):=fun i=>by rw [QGH h1,hov,hb]
   refine QeV ⟨⟨k+1,m+2 ^ n,by simp,h,?_,hbit⟩,by simp; omega⟩
   refine Nat.lt_pow_two_of_testBit (n:=10) _ fun i hi=>?_
   rw [hbit]
   rw [Bool.eq_false_iff]
   intro hh
   obtain ⟨w,hw,hwi⟩:=QrH.1 hh
   have:=QoB ho (List.mem_of_mem_take hw)
   omega
 ·obtain rfl:k=r.visits.length:=by omega
  rw [Qbj]
  refine QcT ?_
  rw [Qf9]
  exact Qav.2 ⟨rfl,⟨m,rfl,hm,fun i=>by rw [hb,List.take_length]⟩⟩
theorem QDA.has {s:Int} (h:QDA l s) {i:Int} (h0:0≤i) (h1:i≤62):QeI s i=some (hasO l i):=by
 obtain ⟨m,rfl,hm,hb⟩:=h.ex
 rw [QCi (by omega) h0 h1,hb,Int.toNat_of_nonneg h0]
theorem QBL (hx:Qe2 x) {s:Int} (h:QDA l s):QeT x s=some (!x.apart.any (QvV l)):=by
 have ha:=hx.apart
 have hx10:=hx.orders
 have:=QeX (B:=fun i=>QcQ x s i) (l:=x.apart) (by omega) (QvV l) (y:=(.inr false:Unit⊕Bool)) (N:=.inl ()) (fun i a ha'=>by
  obtain ⟨p0,p1,p2,p3,p4⟩:=hx.aparts a (List.mem_of_getElem? ha')
  show QcQ x s i=_
  unfold QcQ
  rw [QbP ha',h.has p0 (by omega),Qaj,h.has p2 (by omega),Qaj,incL ha' (by omega)]
  unfold QvV
  cases hasO l a.x0 <;> cases hasO l a.x1 <;> rfl) (by
  show QcQ x s x.apart.length=_
  unfold QcQ
  rw [Qbj])
 unfold QeT
 rw [Qch this]
 cases x.apart.any (QvV l) <;> rfl
theorem QFX {p:QaO} (hne:p.x0≠p.x1) (hb:hasO l p.x1=true):QEe l p=true↔∃ j,j<l.length∧∃ k,k<j∧(∃ v,l[j]?=some v∧v.order=p.x0)∧∃ w,l[k]?=some w∧w.order=p.x1:=by
 unfold QEe
 cases h:ixP (isO p.x1) l with
 | none =>
  obtain ⟨w,hw,he⟩:=QrH.1 hb
  have:=QxL h w hw
  rw [QCp.2 he] at this
  cases this
 | some m =>
  obtain ⟨g1,g2,g3⟩:=QrJ h
  simp only
  rw [QrH]
  constructor
  ·rintro ⟨v,hv,he⟩
   obtain ⟨q,hq,rfl⟩:=List.getElem_of_mem hv
   rw [List.length_drop] at hq
   rw [List.getElem_drop] at he
   have hmq:q≠0:=fun h0=>by subst h0; exact hne (he.symm.trans (QCp.1 (by simpa using g2)))
   exact ⟨m+q,by omega,m,by omega,⟨_,List.getElem?_eq_getElem (by omega),he⟩,⟨_,List.getElem?_eq_getElem g1,QCp.1 g2⟩⟩
  ·rintro ⟨j,hj,k,hk,⟨v,hv,he⟩,⟨w,hw,hwe⟩⟩
   have hmk:m≤k:=Nat.le_of_not_lt fun hlt=>by
    have:=g3 k hlt
    rw [List.getElem?_eq_getElem (show k<l.length by omega)] at hw
    rw [Option.some.inj hw,QCp.2 hwe] at this
    cases this
   exact ⟨v,List.mem_iff_getElem?.2 ⟨j-m,by rw [List.getElem?_drop,show m+(j-m)=j by omega,hv]⟩,he⟩
theorem QAV (hx:Qe2 x) (hl:l.length≤1048576) {s:Int} (h:QDA l s):Qee x s l=some (!x.before.any (badB l)):=by
 have hbf:=hx.before
 have hx10:=hx.orders
 have:=QeX (B:=fun i=>Qcv x s l i) (l:=x.before) (by omega) (badB l) (y:=(.inr false:Unit⊕Bool)) (N:=.inl ()) (fun i a ha'=>by
  obtain ⟨p0,p1,p2,p3,p4⟩:=hx.befores a (List.mem_of_getElem? ha')
  show Qcv x s l i=_
  unfold Qcv
  rw [QbP ha',h.has p2 (by omega),Qaj,h.has p0 (by omega),Qaj,incL ha' (by omega)]
  have hP:badB l a=(hasO l a.x1&&(!hasO l a.x0||QEe l a)):=rfl
  generalize badB l a=P at hP ⊢
  cases hb:hasO l a.x1 with
  | false=>rw [hb] at hP; subst hP; rfl
  | true =>
   rw [hb] at hP
   cases hq:hasO l a.x0 with
   | false=>rw [hq] at hP; subst hP; rfl
   | true =>
    rw [hq] at hP
    obtain rfl:P=QEe l a:=hP
    have inner:QaW (fun q=>Qcw x s l (i:Int) a q) 0=some (if QEe l a=true then .inr false else .inl ()):=by
     refine QwD hl (fun j=>(List.range j).any fun k=>match l[j]?,l[k]? with|some v,some w=>decide (v.order=a.x0)&&decide (w.order=a.x1)|_,_=>false) ?_ (fun j hj=>?_) ?_
     ·rw [QFX p4 hb]
      constructor
      ·rintro ⟨j,hj,k,hk,⟨v,hv,e1⟩,⟨w,hw,e2⟩⟩
       refine ⟨j,hj,List.any_eq_true.2 ⟨k,List.mem_range.2 hk,?_⟩⟩
       rw [hv,hw]; simp [e1,e2]
      ·rintro ⟨j,hj,hh⟩
       obtain ⟨k,hk,hm⟩:=List.any_eq_true.1 hh
       rw [List.mem_range] at hk
       rw [List.getElem?_eq_getElem hj,List.getElem?_eq_getElem (show k<l.length by omega)] at hm
       simp only [Bool.and_eq_true,decide_eq_true_iff] at hm
       exact ⟨j,hj,k,hk,⟨_,List.getElem?_eq_getElem hj,hm.1⟩,⟨_,List.getElem?_eq_getElem (show k<l.length by omega),hm.2⟩⟩
     ·have ej:l[j]?=some l[j]:=List.getElem?_eq_getElem hj
      show Qcw x s l (i:Int) a j=_
      unfold Qcw
      rw [Qa8 (by simp [lenI]; omega),inc hj hl]
      have in2:=QwD (B:=fun q=>Qcx x s l (i:Int) a (j:Int) q) (n:=j) (by omega) (fun k=>match l[j]?,l[k]? with|some v,some w=>decide (v.order=a.x0)&&decide (w.order=a.x1)|_,_=>false) (y:=(.inr false:Unit⊕Bool)) (N:=.inl ())
       (b:=(List.range j).any fun k=>match l[j]?,l[k]? with|some v,some w=>decide (v.order=a.x0)&&decide (w.order=a.x1)|_,_=>false) (by
        rw [List.any_eq_true]
        exact ⟨fun ⟨k,hk,hm⟩=>⟨k,List.mem_range.1 hk,hm⟩,fun ⟨k,hk,hm⟩=>⟨k,List.mem_range.2 hk,hm⟩⟩) (fun k hk=>by
       have ek:l[k]?=some (l[k]'(by omega)):=List.getElem?_eq_getElem _
       show Qcx x s l (i:Int) a (j:Int) k=_
       unfold Qcx
       rw [Qa8 (by simp; omega),QaV ej,Qaj,QaV ek,Qaj,inc (n:=l.length) (by omega) hl,ej,ek]
       simp only [brs,QuM,Bool.and_eq_true,decide_eq_true_iff]
       by_cases c1:(l[j]).order=a.x0
       ·rw [if_pos c1]
        by_cases c2:(l[k]'(by omega)).order=a.x1
        ·rw [if_pos c2,if_pos ⟨c1,c2⟩]
        ·rw [if_neg c2,if_neg fun h=>c2 h.2]
       ·rw [if_neg c1,if_neg fun h=>c1 h.1]) (by
       show Qcx x s l (i:Int) a (j:Int) j=_
       unfold Qcx
       rw [Qa3 (by simp)])
      rw [Qch in2]
      split <;> rfl
     ·show Qcw x s l (i:Int) a l.length=_
      unfold Qcw
      rw [Qa3 (by simp [lenI])]
    rw [Qgh,Qgh,Qch inner]
    cases QEe l a <;> rfl) (by
  show Qcv x s l x.before.length=_
  unfold Qcv
  rw [Qbj])
 unfold Qee
 rw [Qch this]
 cases x.before.any (badB l) <;> rfl
theorem Qyg {r:Qac} (hx:Qe2 x) (hl:r.visits.length≤1048576):Qg8 x r=some (seqS x r.visits):=by
 unfold Qg8 seqS
 rw [Qch (QeX (B:=fun s=>QcO x r s) hl (fun v=>!inO x v) (y:=(.inr 2:Unit⊕Int)) (N:=.inl ()) (fun i a h=>by
  show QcO x r i=_
  unfold QcO
  rw [QbP h,incL h hl]
  have hP:(!inO x a)=(ltI a.order 0||geI a.order (lenI x.orders)):=by
   unfold inO lenI; rw [Bool.eq_iff_iff]; simp
  rw [hP]
  cases ltI a.order 0 <;> cases geI a.order (lenI x.orders) <;> rfl) (by
  show QcO x r r.visits.length=_
  unfold QcO
  rw [Qbj]))]
 by_cases h1:r.visits.any (fun v=>!inO x v)=true
 ·rw [if_pos h1,QjR]
  split <;> rfl
 have h1':r.visits.any (fun v=>!inO x v)=false:=by simpa using h1
 rw [if_neg h1,if_neg h1,Qf9]
 obtain ⟨s,hs,hs0,hset⟩:=QCP hx hl h1'
 rw [hs,Qaj,hs0]
 by_cases h0:r.visits.length=0
 ·rw [Qa8 (by simp [lenI,h0]),if_pos h0]
 rw [Qa3 (by simp only [lenI,neI,orF,Qzf]; simp; intro h; exact h0 (by rw [h]; rfl)),if_neg h0]
 rw [Qch (QeX (B:=fun q=>Qck x r s q) hl (offV x) (y:=(.inr 9:Unit⊕Int)) (N:=.inl ()) (fun i a h=>by
  obtain ⟨h0,h1⟩:=QoB h1' (List.mem_of_getElem? h)
  obtain ⟨o,g1,g2,g3,_⟩:=QAv h0 h1
  show Qck x r s i=_
  unfold Qck
  rw [QbP h,g1,Qaj,incL h hl,brs,g3]) (by
  show Qck x r s r.visits.length=_
  unfold Qck
  rw [Qbj]))]
 by_cases h2:r.visits.any (offV x)=true
 ·rw [if_pos h2,if_pos h2]; rfl
 rw [if_neg h2,if_neg h2,Qf9]
 rw [Qch (QwD (B:=fun q=>Qb5 x r s q) hl (fun k=>match r.visits[k]? with|some v=>neI (ixI (isV v) r.visits) (k:Int)|none=>false) (y:=(.inr 6:Unit⊕Int)) (N:=.inl ()) (b:=decide (¬ r.visits.Nodup)) (by
  rw [decide_eq_true_iff,QvN]
  constructor
  ·rintro ⟨k,hk,j,hj,he⟩
   refine ⟨k,hk,?_⟩
   rw [List.getElem?_eq_getElem hk] at he ⊢
   simp only [QyI]
   intro h
   exact (Qyz h).2 j hj he
  ·rintro ⟨k,hk,h⟩
   rw [List.getElem?_eq_getElem hk] at h
   simp only [QyI] at h
   have h0:=QCt.2 (List.getElem_mem hk)
   obtain ⟨m,hm⟩:∃ m:Nat,ixI (isV r.visits[k]) r.visits=m:=⟨(ixI (isV r.visits[k]) r.visits).toNat,by omega⟩
   obtain ⟨g1,g2⟩:=Qyz hm
   have hmk:m<k:=by
    rcases Nat.lt_trichotomy m k with h'|h'|h'
    ·exact h'
    ·exact absurd (by rw [hm,h']) h
    ·exact absurd (List.getElem?_eq_getElem hk) (g2 k h')
   exact ⟨k,hk,m,hmk,by rw [g1,List.getElem?_eq_getElem hk]⟩) (fun i hi=>by
  have h:r.visits[i]?=some r.visits[i]:=List.getElem?_eq_getElem hi
  show Qb5 x r s i=_
  unfold Qb5
  rw [QbP h,QrI hl,Qaj,incL h hl,brs,h]) (by
  show Qb5 x r s r.visits.length=_
  unfold Qb5
  rw [Qbj]))]
 by_cases h3:¬ r.visits.Nodup
 ·rw [if_pos (decide_eq_true h3),if_pos h3]; rfl
 rw [if_neg (by rw [decide_eq_false h3]; decide),if_neg h3,Qf9,QBb hx hl h1',Qaj]
 by_cases h4:r.visits.any (fun v=>!QxY x r.visits v)=true
 ·rw [Qa3 (by rw [h4]; rfl),if_pos h4]
 rw [Qa8 (by simpa using h4),if_neg h4,QBL hx hset,Qaj]
 by_cases h5:x.apart.any (QvV r.visits)=true
 ·rw [Qa3 (by rw [h5]; rfl),if_pos h5]
 rw [Qa8 (by simpa using h5),if_neg h5,QAV hx hl hset,Qaj]
 by_cases h6:x.before.any (badB r.visits)=true
 ·rw [Qa3 (by rw [h6]; rfl),if_pos h6]
 ·rw [Qa8 (by simpa using h6),if_neg h6]
end
end Go.Proofs.YtoedkepcaigkeaaGreatDoor
namespace Go.Proofs.YtoedkepcaigkeaaGreatDoor
set_option linter.unusedSimpArgs false
set_option linter.unusedVariables false
set_option linter.unusedSectionVars false
def sumN:Nat→(Nat→Int)→Int
 | 0,_=>0
 | n+1,f=>sumN n f+f n
theorem Qy1 {f g:Nat→Int}:∀ n,(∀ i,i<n→f i=g i)→sumN n f=sumN n g
 | 0,_=>rfl
 | n+1,h=>by unfold sumN; rw [Qy1 n fun i hi=>h i (by omega),h n (by omega)]
theorem QDp {f g:Nat→Int} {o:Nat}:∀ n,o<n→(∀ i,i≠o→g i=f i)→sumN n g=sumN n f+(g o-f o)
 | 0,h,_=>by omega
 | n+1,h,hg=>by
  unfold sumN
  rcases Nat.lt_or_eq_of_le (Nat.le_of_lt_succ h) with h'|rfl
  ·rw [QDp n h' hg,hg n (by omega)]; omega
  ·rw [Qy1 _ fun i hi=>hg i (by omega)]; omega
theorem QAL {f : Nat → Int} {n : Nat} : ∀ m, n ≤ m → (∀ i, n ≤ i → f i = 0) → sumN m f = sumN n f
  | 0, h, _ => by obtain rfl : n = 0 := by omega
                  rfl
  | m + 1, h, hf => by
    rcases Nat.lt_or_eq_of_le h with h' | rfl
    · unfold sumN; rw [QAL m (by omega) hf, hf m (by omega)]
      cases n <;> simp [sumN]
    · rfl
theorem QFk {f:Nat→Int} {c:Int} (hc:0≤c):∀ n,(∀ i,0≤f i∧f i≤c)→0≤sumN n f∧sumN n f≤n*c
 | 0,_=>by simp [sumN]
 | n+1,h=>by
  have h1:=QFk hc n h
  have h2:=h n
  unfold sumN
  rw [show ((n+1:Nat):Int)*c=n*c+c by rw [Int.natCast_add,Int.add_mul]; simp]
  omega
def vecN (D:Nat) (f:Nat→Int):List Int:=(List.range D).map f
theorem Qiy {D:Nat} {f:Nat→Int}:(vecN D f).length=D:=by simp [vecN]
theorem Qmw {D:Nat} {f:Nat→Int} {k:Nat} (h:k<D):(vecN D f)[k]?=some (f k):=by simp [vecN,h]
theorem Qkq {D:Nat} {f g:Nat→Int} (h:∀ d,d<D→f d=g d):vecN D f=vecN D g:=by
 unfold vecN
 exact List.map_congr_left fun d hd=>h d (List.mem_range.1 hd)
theorem QGs {D:Nat} {f:Nat→Int} {k:Nat} {y:Int} (h:k<D):setI (vecN D f) (k:Int) y=vecN D (fun d=>if d=k then y else f d):=by
 unfold setI
 refine List.ext_getElem? fun i=>?_
 rw [List.getElem?_set]
 simp only [Int.toNat_natCast,Qiy]
 split
 ·rename_i he
  subst he
  exact ((Qmw (f:=fun d=>if d=k then y else f d) h).trans (by simp)).symm
 ·rename_i he
  rcases Nat.lt_or_ge i D with h'|h'
  ·rw [Qmw h',Qmw h',if_neg (by omega)]
  ·rw [List.getElem?_eq_none (by rw [Qiy]; omega),List.getElem?_eq_none (by rw [Qiy]; omega)]
theorem QHF {l:List Int}:l=vecN l.length (fun d=>l.getD d 0):=by
 refine List.ext_getElem? fun i=>?_
 rcases Nat.lt_or_ge i l.length with h|h
 ·rw [Qmw h,List.getElem?_eq_getElem h,List.getD_eq_getElem?_getD,List.getElem?_eq_getElem h]; rfl
 ·rw [List.getElem?_eq_none h,List.getElem?_eq_none (by rw [Qiy]; omega)]
theorem Qz1 {D:Nat} {f g h:Nat→Int} (hD:D≤3) {B:List Int×Int→Option ((List Int×Int)⊕(List Int))}
  (hin:∀ (k:Nat) (l1:List Int),k<D→l1.length=D→B (l1,(k:Int))=some (.inl (setI l1 k (h k),(k:Int)+1))) (hend:∀ l1:List Int,B (l1,(D:Int))=some (.inr l1)) :
  QaW B (List.replicate D 0,0)=some (vecN D h):=by
 have h0:(List.replicate D (0:Int),(0:Int))=(vecN D (fun d=>if d<0 then h d else 0),((0:Nat):Int)):=by
  congr 1
  refine List.ext_getElem? fun i=>?_
  rcases Nat.lt_or_ge i D with h|h
  ·rw [Qmw h]; simp [h]
  ·rw [List.getElem?_eq_none (by simp; omega),List.getElem?_eq_none (by rw [Qiy]; omega)]
 rw [h0]
 refine QeQ D (fun k=>(vecN D (fun d=>if d<k then h d else 0),(k:Int))) (by omega) (fun k hk=>?_) ?_
 ·rw [hin k _ hk Qiy,QGs hk]
  simp only [Int.natCast_add,Int.cast_ofNat_Int]
  congr 3
  refine Qkq fun d hd=>?_
  by_cases h1:d=k
  ·rw [if_pos h1,if_pos (by omega),h1]
  ·rw [if_neg h1]
   by_cases h2:d<k
   ·rw [if_pos h2,if_pos (by omega)]
   ·rw [if_neg h2,if_neg (by omega)]
 ·rw [hend]
  congr 2
  exact Qkq fun d hd=>if_pos hd
theorem QGB {D:Nat} {f g:Nat→Int} (hD:D≤3) (hf:∀ d,d<D→-4000000000≤f d∧f d≤4000000000) (hg:∀ d,d<D→-4000000000≤g d∧g d≤4000000000):QsD (vecN D f) (vecN D g)=some (vecN D (fun d=>f d+g d),0):=by
 unfold QsD Qiz
 rw [Qa3 (by simp [lenI,Qiy])]
 have hm:mkI (lenI (vecN D f)) (lenI (vecN D f)) 8 (0:Int)=some (List.replicate D 0):=by
  unfold mkI lenI
  rw [Qiy,if_pos (by omega)]
  rfl
 rw [hm,Qaj]
 rw [Qch (Qz1 (D:=D) (f:=f) (g:=g) (h:=fun d=>f d+g d) hD (B:=fun s=>Qcb (vecN D f) (vecN D g) (List.replicate D 0) s.1 s.2) (fun k l1 hk hl=>by
  have a1:=hf k hk
  have a2:=hg k hk
  show Qcb (vecN D f) (vecN D g) (List.replicate D 0) l1 k=_
  unfold Qcb Qt8
  rw [QbP (Qmw hk),QaV (Qmw hk),Qaj,Qaj,QFO (by omega),Qaj,addI (by omega) (by omega),addI (by omega) (by omega)]) (fun l1=>by
  show Qcb (vecN D f) (vecN D g) (List.replicate D 0) l1 D=_
  unfold Qcb
  rw [Qa3 (by simp [lenI,Qiy])]))]
 rfl
theorem QHS {D:Nat} {f g:Nat→Int} (hD:D≤3) (hf:∀ d,d<D→-4000000000≤f d∧f d≤4000000000) (hg:∀ d,d<D→-4000000000≤g d∧g d≤4000000000):Qt7 (vecN D f) (vecN D g)=some (vecN D (fun d=>f d-g d),0):=by
 unfold Qt7 QhV
 rw [Qa3 (by simp [lenI,Qiy])]
 have hm:mkI (lenI (vecN D f)) (lenI (vecN D f)) 8 (0:Int)=some (List.replicate D 0):=by
  unfold mkI lenI
  rw [Qiy,if_pos (by omega)]
  rfl
 rw [hm,Qaj]
 rw [Qch (Qz1 (D:=D) (f:=f) (g:=g) (h:=fun d=>f d-g d) hD (B:=fun s=>Qb1 (vecN D f) (vecN D g) (List.replicate D 0) s.1 s.2) (fun k l1 hk hl=>by
  have a1:=hf k hk
  have a2:=hg k hk
  show Qb1 (vecN D f) (vecN D g) (List.replicate D 0) l1 k=_
  unfold Qb1 QsE
  rw [QbP (Qmw hk),QaV (Qmw hk),Qaj,Qaj,QFO (by omega),Qaj,subI (by omega) (by omega),addI (by omega) (by omega)]) (fun l1=>by
  show Qb1 (vecN D f) (vecN D g) (List.replicate D 0) l1 D=_
  unfold Qb1
  rw [Qa3 (by simp [lenI,Qiy])]))]
 rfl
section
variable {x : Qad} {l : List Qaa} {r : Qac}
theorem QDA.Has {s:Int} (h:QDA l s) {i:Int} (h0:0≤i) (h1:i≤62):QwF s i=some (hasO l i):=by
 obtain ⟨m,rfl,hm,hb⟩:=h.ex
 obtain ⟨k,rfl⟩:∃ k:Nat,i=k:=⟨i.toNat,by omega⟩
 unfold QwF
 rw [Qa8 (by simp; omega),QdX (by omega),shrN (by omega)]
 have hd:=Nat.div_le_self m (2 ^ k)
 rw [show (1:Int)=((1:Nat):Int) from rfl,andN (by omega) (by omega),Nat.and_one_is_mod,← hb,Nat.testBit_eq_decide_div_mod_eq]
 congr 1
 generalize m / 2 ^ k=q
 rw [Bool.eq_iff_iff,QuM,decide_eq_true_iff]
 omega
theorem Qxb (hx:Qe2 x) (hl:r.visits.length≤1048576) (ho:r.visits.any (fun v=>!inO x v)=false):post (QcH r) fun s=>s.2=0∧QDA r.visits s.1:=by
 have hx10:=hx.orders
 unfold QcH
 refine Qk7 ?_
 refine QdA (fun s=>∃ (k m:Nat),s=((m:Int),(k:Int))∧k≤r.visits.length∧m<1024∧∀ i:Nat,m.testBit i=hasO (r.visits.take k) (i:Int)) (fun s=>r.visits.length-s.2.toNat) ⟨0,0,rfl,Nat.zero_le _,by omega,fun i=>by simp [hasO]⟩ (by simp; omega) ?_
 rintro _ ⟨k,m,rfl,hk,hm,hb⟩
 show post (QdV r (m:Int) (k:Int)) _
 unfold QdV
 rcases Nat.lt_or_ge k r.visits.length with h|h
 ·have e:r.visits[k]?=some r.visits[k]:=List.getElem?_eq_getElem h
  have hin:=QoB ho (List.getElem_mem h)
  have htk:r.visits.take (k+1)=r.visits.take k++[r.visits[k]]:=by rw [List.take_add_one,e]; rfl
  generalize r.visits[k]=v at e hin htk
  obtain ⟨n,hn⟩:∃ n:Nat,v.order=n:=⟨v.order.toNat,by omega⟩
  have hov:∀ i:Nat,hasO (r.visits.take (k+1)) (i:Int)=(hasO (r.visits.take k) (i:Int)||decide (n=i)):=fun i=>by
   rw [htk]
   unfold hasO
   rw [List.any_append,List.any_cons,List.any_nil,Bool.or_false]
   congr 1
   rw [Bool.eq_iff_iff,QCp,hn,decide_eq_true_iff]
   omega
  have h2:2 ^ n≤2 ^ 9:=Nat.pow_le_pow_right (by omega) (by omega)
  rw [QbP e,Qa3 (by rw [hn]; simp; omega),QdX (by omega),incL e hl,hn,shlN (by omega),orN (by omega) (by omega)]
  have hbit:∀ i,(m ||| 2 ^ n).testBit i=hasO (r.visits.take (k+1)) (i:Int):=fun i=>by rw [Nat.testBit_or,Nat.testBit_two_pow,hov,hb]
  refine QeV ⟨⟨k+1,m ||| 2 ^ n,by simp,h,?_,hbit⟩,by simp; omega⟩
  exact Nat.or_lt_two_pow (n:=10) hm (by omega)
 ·obtain rfl:k=r.visits.length:=by omega
  rw [Qbj]
  refine QcT ?_
  rw [Qf9]
  exact Qav.2 ⟨rfl,⟨m,rfl,hm,fun i=>by rw [hb,List.take_length]⟩⟩
def memN (l:List Qaa):Nat→List Int
 | 0=>[]
 | n+1=>memN l n++(if hasO l (n:Int)=true then [(n:Int)] else [])
theorem Qzo:∀ n,(memN l n).length≤n
 | 0=>Nat.le_refl 0
 | n+1=>by have:=Qzo n; unfold memN; split <;> simp <;> omega
theorem QBD {s:Int} (h:QDA l s):Qos s=some (memN l 63):=by
 unfold Qos
 have this:QaW (fun q:List Int×Int=>Qd0 s q.1 q.2) ([],0)=some (memN l 63):=QeQ 63 (fun k=>(memN l k,(k:Int))) (B:=fun q=>Qd0 s q.1 q.2) (by omega) (fun k hk=>by
  show Qd0 s (memN l k) (k:Int)=_
  have:=Qzo (l:=l) k
  unfold Qd0
  rw [Qa8 (by simp; omega),h.Has (by omega) (by omega),Qaj,addI (by omega) (by omega),QdX (by unfold okN; simp; omega),brs]
  show _=some (Sum.inl (memN l k++(if hasO l (k:Int)=true then [(k:Int)] else []),((k+1:Nat):Int)))
  split <;> simp) (by
  show Qd0 s (memN l 63) ((63:Nat):Int)=_
  unfold Qd0
  rw [Qa3 (by decide)])
 rw [Qch this]
end
end Go.Proofs.YtoedkepcaigkeaaGreatDoor
namespace Go.Proofs.YtoedkepcaigkeaaGreatDoor
set_option linter.unusedSimpArgs false
set_option linter.unusedVariables false
set_option linter.unusedSectionVars false
def sumF {α:Type} (f:α→Int) (l:List α):Int:=(l.map f).sum
theorem QwP {α:Type} {f:α→Int} {a b:List α}:sumF f (a++b)=sumF f a+sumF f b:=by simp [sumF,List.sum_append]
theorem Qu2 {α:Type} {f:α→Int} {a:α}:sumF f [a]=f a:=by simp [sumF]
theorem QDo {α:Type} {f:α→Int}:sumF f []=0:=rfl
theorem Qpz {α:Type} {l:List α} {k:Nat} {a:α} (h:l[k]?=some a):l.take (k+1)=l.take k++[a]:=by rw [List.take_add_one,h]; rfl
theorem QAK {α:Type} {f:α→Int} {l:List α} {k:Nat} {a:α} (h:l[k]?=some a):sumF f (l.take (k+1))=sumF f (l.take k)+f a:=by rw [Qpz h,QwP,Qu2]
theorem QDn {α:Type} {f:α→Int}:∀ {l:List α},(∀ a∈l,0≤f a∧f a≤1000)→0≤sumF f l∧sumF f l≤1000*l.length
 | [],_=>by simp [sumF]
 | a :: l,h=>by
  have h1:=QDn (f:=f) (l:=l) fun b hb=>h b (List.mem_cons_of_mem _ hb)
  have h2:=h a (List.mem_cons_self ..)
  have e:sumF f (a :: l)=f a+sumF f l:=by simp [sumF]
  rw [e,List.length_cons]
  omega
section
variable (x : Qad)
def Qwc (i d:Nat):Int:=match x.orders[i]? with
 | some o=>o.load.getD d 0
 | none=>0
def pk0 (i:Nat):Bool:=match x.orders[i]? with
 | some o=>decide (o.pick.place<0)
 | none=>false
def onK (l:List Qaa) (i:Nat):Bool:=l.foldl (fun b v=>if v.order=(i:Int) then !v.drop else b) (pk0 x i)
def incl (l:List Qaa) (k i d:Nat):Int:=if (hasO l (i:Int)&&onK x (l.take k) i)=true then Qwc x i d else 0
def Qwb (l:List Qaa) (k d:Nat):Int:=sumN x.orders.length fun i=>incl x l k i d
end
section
variable {x : Qad} {l : List Qaa} {r : Qac}
theorem QCN (hx:Qe2 x) {i:Nat} (hi:i<x.orders.length):∃ o,x.orders[i]?=some o∧o∈x.orders∧o.load=vecN (QeO x.types) (Qwc x i)∧(∀ d,0≤Qwc x i d∧Qwc x i d≤1000)∧pk0 x i=decide (o.pick.place<0):=by
 have e:x.orders[i]?=some x.orders[i]:=List.getElem?_eq_getElem hi
 have hm:=List.getElem_mem hi
 generalize x.orders[i]=o at e hm
 have hO:=hx.ord o hm
 refine ⟨o,e,hm,?_,fun d=>?_,by unfold pk0; rw [e]⟩
 ·have:=QHF (l:=o.load)
  rw [hO.load] at this
  rw [this]
  refine Qkq fun d hd=>?_
  unfold Qwc
  rw [e]
 ·unfold Qwc
  rw [e]
  simp only
  rw [List.getD_eq_getElem?_getD]
  rcases Nat.lt_or_ge d o.load.length with h|h
  ·rw [List.getElem?_eq_getElem h]
   exact hO.loads d h _ (List.getElem?_eq_getElem h)
  ·rw [List.getElem?_eq_none h]; simp
theorem Qzn (hx:Qe2 x) (i d:Nat):0≤Qwc x i d∧Qwc x i d≤1000:=by
 rcases Nat.lt_or_ge i x.orders.length with h|h
 ·obtain ⟨o,_,_,_,h,_⟩:=QCN hx h
  exact h d
 ·unfold Qwc
  rw [List.getElem?_eq_none h]; simp
theorem QF2 (hx:Qe2 x) (k d:Nat):0≤Qwb x l k d∧Qwb x l k d≤10000:=by
 have h:=QFk (f:=fun i=>incl x l k i d) (c:=1000) (by omega) x.orders.length fun i=>by
  have:=Qzn hx i d
  unfold incl
  split <;> omega
 have:=hx.orders
 unfold Qwb
 omega
theorem Qz3 (hx:Qe2 x):1≤QeO x.types∧QeO x.types≤3:=by
 have h1:=hx.types1
 cases ht:x.types with
 | nil=>rw [ht] at h1; simp at h1
 | cons t ts =>
  have:=(hx.typ t (by rw [ht]; simp)).dims1
  rw [ht] at this
  exact this
structure Qu7 (x:Qad) (l:List Qaa):Prop where
 ne:l.length≠0
 inn:l.any (fun v=>!inO x v)=false
 off:l.any (offV x)=false
 nodup:l.Nodup
 pair:∀ v∈l,QxY x l v=true
 apart:x.apart.any (QvV l)=false
 before:x.before.any (badB l)=false
theorem Qxs (h:seqS x l=0):Qu7 x l:=by
 unfold seqS at h
 by_cases h0:l.length=0
 ·rw [if_pos h0] at h; cases h
 rw [if_neg h0] at h
 by_cases h1:l.any (fun v=>!inO x v)=true
 ·rw [if_pos h1] at h; cases h
 rw [if_neg h1] at h
 by_cases h2:l.any (offV x)=true
 ·rw [if_pos h2] at h; cases h
 rw [if_neg h2] at h
 by_cases h3:¬ l.Nodup
 ·rw [if_pos h3] at h; cases h
 rw [if_neg h3] at h
 by_cases h4:l.any (fun v=>!QxY x l v)=true
 ·rw [if_pos h4] at h; cases h
 rw [if_neg h4] at h
 by_cases h5:x.apart.any (QvV l)=true
 ·rw [if_pos h5] at h; cases h
 rw [if_neg h5] at h
 by_cases h6:x.before.any (badB l)=true
 ·rw [if_pos h6] at h; cases h
 refine ⟨h0,by simpa using h1,by simpa using h2,Classical.not_not.1 h3,fun v hv=>?_,by simpa using h5,by simpa using h6⟩
 have:=List.any_eq_false.1 (by simpa using h4:l.any (fun v=>!QxY x l v)=false) v hv
 simpa using this
theorem QvH {b:Bool} {i:Nat}:∀ {m:List Qaa},(∀ v∈m,v.order≠(i:Int))→m.foldl (fun b v=>if v.order=(i:Int) then !v.drop else b) b=b
 | [],_=>rfl
 | v :: m,h=>by
  rw [List.foldl_cons,if_neg (h v (List.mem_cons_self ..))]
  exact QvH fun w hw=>h w (List.mem_cons_of_mem _ hw)
theorem Qzh {c:Bool} {i:Nat}:∀ {m:List Qaa} {b:Bool},(∀ v∈m,v.order=(i:Int)→v.drop=c)→(b=(!c)∨∃ v∈m,v.order=(i:Int))→m.foldl (fun b v=>if v.order=(i:Int) then !v.drop else b) b=!c
 | [],b,_,h=>by
  rcases h with h|⟨v,hv,_⟩
  ·exact h
  ·cases hv
 | v :: m,b,h,h'=>by
  rw [List.foldl_cons]
  by_cases hv:v.order=(i:Int)
  ·rw [if_pos hv]
   exact Qzh (fun w hw=>h w (List.mem_cons_of_mem _ hw)) (.inl (by rw [h v (List.mem_cons_self ..) hv]))
  ·rw [if_neg hv]
   refine Qzh (fun w hw=>h w (List.mem_cons_of_mem _ hw)) ?_
   rcases h' with h'|⟨w,hw,he⟩
   ·exact .inl h'
   ·rcases List.mem_cons.1 hw with rfl|hw
    ·exact absurd he hv
    ·exact .inr ⟨w,hw,he⟩
theorem QxT {j k:Nat} (h:l.Nodup) {v:Qaa} (hj:l[j]?=some v) (hk:l[k]?=some v):j=k:=by
 refine Classical.byContradiction fun hne=>?_
 have hj':=(List.getElem?_eq_some_iff.1 hj).1
 have hk':=(List.getElem?_eq_some_iff.1 hk).1
 refine (QvN.2 ?_) h
 rcases Nat.lt_or_gt_of_ne hne with hlt|hlt
 ·exact ⟨k,hk',j,hlt,by rw [hj,hk]⟩
 ·exact ⟨j,hj',k,hlt,by rw [hj,hk]⟩
theorem QIL (hx:Qe2 x) (h:Qu7 x l) {k:Nat} {v:Qaa} (hk:l[k]?=some v) {i:Nat} (hi:v.order=(i:Int)):onK x (l.take k) i=v.drop:=by
 have hv:=List.mem_of_getElem? hk
 have hkl:=(List.getElem?_eq_some_iff.1 hk).1
 have hin:=QoB h.inn hv
 obtain ⟨o,e,hm,_,_,hp⟩:=QCN hx (show i<x.orders.length by omega)
 have hO:=hx.ord o hm
 -- each visit of the order is one of the order's visits
 have vis:∀ w∈l,w.order=(i:Int)→w∈visO x (i:Int)∧rowB l (visO x (i:Int))=true:=fun w hw he=>by
  have:=h.pair w hw
  unfold QxY at this
  rw [he,Bool.and_eq_true,QzQ] at this
  exact this
 have hvo:visO x (i:Int)=(if 0≤o.pick.place then [Qaa.mk i false] else [])++(if 0≤o.drop.place then [Qaa.mk i true] else []):=by
  unfold visO
  rw [Int.toNat_natCast,e]
 have same:∀ w∈l.take k,w.order=(i:Int)→w≠v:=fun w hw _ he=>by
  obtain ⟨j,hj,hje⟩:=(Qpy (by omega)).1 hw
  rw [he] at hje
  have:=QxT h.nodup hje hk
  omega
 have drop_or:∀ w:Qaa,w.order=(i:Int)→w=Qaa.mk i w.drop:=fun w hw=>by cases w; simp at hw; subst hw; rfl
 obtain ⟨v1,v2⟩:=vis v hv hi
 unfold onK
 by_cases hpk:0≤o.pick.place
 ·have hp':pk0 x i=false:=by rw [hp]; simp; omega
  rw [if_pos hpk] at hvo
  by_cases hdr:0≤o.drop.place
  ·rw [if_pos hdr] at hvo
   rw [hvo] at v2
   simp only [List.cons_append,List.nil_append,rowB,Bool.and_eq_true,QtX,Qrq] at v2
   obtain ⟨p,hpp⟩:∃ p:Nat,ixI (isV (Qaa.mk i false)) l=p:=⟨(ixI (isV (Qaa.mk i false)) l).toNat,by omega⟩
   obtain ⟨q,hqq⟩:∃ q:Nat,ixI (isV (Qaa.mk i true)) l=q:=⟨(ixI (isV (Qaa.mk i true)) l).toNat,by omega⟩
   obtain ⟨p1,p2⟩:=Qyz hpp
   obtain ⟨q1,q2⟩:=Qyz hqq
   have hpq:p<q:=by omega
   cases hd:v.drop with
   | false =>
    have hve:=drop_or v hi
    rw [hd] at hve
    have hkp:k=p:=QxT h.nodup (hve ▸ hk) p1
    rw [QvH fun w hw he=>?_,hp']
    have hwe:=drop_or w he
    cases hwd:w.drop with
    | false=>rw [hwd] at hwe; exact same w hw he (hwe.trans hve.symm)
    | true =>
     rw [hwd] at hwe
     obtain ⟨j,hj,hje⟩:=(Qpy (by omega)).1 hw
     have:=QxT h.nodup (hwe ▸ hje) q1
     omega
   | true =>
    have hve:=drop_or v hi
    rw [hd] at hve
    have hkq:k=q:=QxT h.nodup (hve ▸ hk) q1
    refine Qzh (c:=false) (fun w hw he=>?_) (.inr ⟨Qaa.mk i false,(Qpy (by omega)).2 ⟨p,by omega,p1⟩,rfl⟩)
    have hwe:=drop_or w he
    cases hwd:w.drop with
    | false=>rfl
    | true=>rw [hwd] at hwe; exact absurd (hwe.trans hve.symm) (same w hw he)
  ·rw [if_neg hdr,List.append_nil] at hvo
   have only:∀ w∈l,w.order=(i:Int)→w=Qaa.mk i false:=fun w hw he=>by
    have:=(vis w hw he).1
    rw [hvo] at this
    exact List.mem_singleton.1 this
   rw [QvH fun w hw he=>same w hw he ((only w (List.mem_of_mem_take hw) he).trans (only v hv hi).symm),hp',only v hv hi]
 ·have hp':pk0 x i=true:=by rw [hp]; simp; omega
  rw [if_neg hpk,List.nil_append] at hvo
  have only:∀ w∈l,w.order=(i:Int)→w=Qaa.mk i true:=fun w hw he=>by
   have:=(vis w hw he).1
   rw [hvo] at this
   split at this
   ·exact List.mem_singleton.1 this
   ·cases this
  rw [QvH fun w hw he=>same w hw he ((only w (List.mem_of_mem_take hw) he).trans (only v hv hi).symm),hp',only v hv hi]
theorem QxV {k i:Nat} {v:Qaa} (hk:l[k]?=some v):onK x (l.take (k+1)) i=if v.order=(i:Int) then !v.drop else onK x (l.take k) i:=by
 unfold onK
 rw [Qpz hk,List.foldl_append]
 rfl
theorem QCz (hx:Qe2 x) (h:Qu7 x l) {k:Nat} {v:Qaa} (hk:l[k]?=some v) {i:Nat} (hi:v.order=(i:Int)) (d:Nat) :
  Qwb x l (k+1) d=if v.drop=true then Qwb x l k d-Qwc x i d else Qwb x l k d+Qwc x i d:=by
 have hin:=QoB h.inn (List.mem_of_getElem? hk)
 unfold Qwb
 rw [QDp (f:=fun j=>incl x l k j d) (g:=fun j=>incl x l (k+1) j d) (o:=i) x.orders.length (by omega) (fun j hj=>by
  show incl x l (k+1) j d=incl x l k j d
  have e1:onK x (l.take (k+1)) j=onK x (l.take k) j:=by rw [QxV hk,if_neg (by omega)]
  unfold incl
  rw [e1])]
 have ha:hasO l (i:Int)=true:=QrH.2 ⟨v,List.mem_of_getElem? hk,hi⟩
 simp only [incl,ha,Bool.true_and]
 rw [QxV hk,if_pos hi,QIL hx h hk hi]
 cases v.drop
 ·simp
 ·simp
  omega
end
end Go.Proofs.YtoedkepcaigkeaaGreatDoor
namespace Go.Proofs.YtoedkepcaigkeaaGreatDoor
set_option linter.unusedSimpArgs false
set_option linter.unusedVariables false
set_option linter.unusedSectionVars false
section
variable {x : Qad} {l : List Qaa} {r : Qac}
theorem QB4 (hx:Qe2 x):QrF x.types=some (QeO x.types:Int)∧QhM x=some (QeO x.types:Int):=by
 have h1:=hx.types1
 unfold QrF QhM
 cases ht:x.types with
 | nil=>rw [ht] at h1; simp at h1
 | cons t ts =>
  constructor
  ·rw [Qa3 (by simp [lenI]; omega)]; rfl
  ·rw [Qa3 (by simp [lenI]; omega)]; rfl
theorem QCH {i:Int}:∀ {n:Nat},i∈memN l n→∃ k:Nat,i=k∧k<n∧hasO l (k:Int)=true
 | 0,h=>by cases h
 | n+1,h=>by
  unfold memN at h
  rcases List.mem_append.1 h with h|h
  ·obtain ⟨k,h1,h2,h3⟩:=QCH h
   exact ⟨k,h1,by omega,h3⟩
  ·split at h
   ·exact ⟨n,List.mem_singleton.1 h,by omega,‹_›⟩
   ·cases h
theorem QHa (h:Qu7 x l) {i:Int} (hi:hasO l i=true):0≤i∧i<x.orders.length:=by
 obtain ⟨v,hv,rfl⟩:=QrH.1 hi
 exact QoB h.inn hv
theorem QBT {α β:Type} {a:β} {y z:Option α}:br (neI (a,(0:Int)).2 0) y z=z:=rfl
def stO (x:Qad) (d:Nat) (i:Int):Int:=if pk0 x i.toNat=true then Qwc x i.toNat d else 0
theorem QIp (hx:Qe2 x) (d:Nat) (i:Int):0≤stO x d i∧stO x d i≤1000:=by
 have:=Qzn hx i.toNat d
 unfold stO
 split <;> omega
theorem QFl (d:Nat):∀ n,sumF (stO x d) (memN l n)=sumN n fun i=>if (hasO l (i:Int)&&pk0 x i)=true then Qwc x i d else 0
 | 0=>rfl
 | n+1=>by
  show sumF (stO x d) (memN l n++(if hasO l (n:Int)=true then [(n:Int)] else []))=sumN n _+(if (hasO l (n:Int)&&pk0 x n)=true then Qwc x n d else 0)
  rw [QwP,QFl d n]
  by_cases hh:hasO l (n:Int)=true
  ·rw [if_pos hh,Qu2,hh,Bool.true_and]; rfl
  ·rw [if_neg hh,QDo,if_neg (by simp [hh])]
theorem QEA (hx:Qe2 x) (h:Qu7 x l) {s:Int} (hs:QDA l s):QpC x s (QeO x.types:Int)=some (vecN (QeO x.types) (Qwb x l 0)):=by
 obtain ⟨hd1,hd3⟩:=Qz3 hx
 have hx10:=hx.orders
 have hm:=Qzo (l:=l) 63
 unfold QpC
 have hz:mkI (QeO x.types:Int) (QeO x.types:Int) 8 (0:Int)=some (vecN (QeO x.types) fun d=>0):=by
  unfold mkI
  rw [if_pos (by omega)]
  congr 1
  refine List.ext_getElem? fun i=>?_
  rcases Nat.lt_or_ge i (QeO x.types) with h|h
  ·rw [Qmw h]; simp [h]
  ·rw [List.getElem?_eq_none (by simp; omega),List.getElem?_eq_none (by rw [Qiy]; omega)]
 rw [hz,Qaj,QBD hs,Qaj]
 have hmem:∀ i∈memN l 63,∃ k:Nat,i=k∧k<63∧hasO l (k:Int)=true:=fun i hi=>QCH hi
 have hsum:∀ d,sumF (stO x d) (memN l 63)=sumN 63 fun i=>if (hasO l (i:Int)&&pk0 x i)=true then Qwc x i d else 0:=fun d=>QFl d 63
 generalize memN l 63=M at *
 have this:QaW (fun q:List Int×Int=>QeE x (vecN (QeO x.types) fun d=>0) M q.1 q.2) (vecN (QeO x.types) (fun d=>0),0)=some (vecN (QeO x.types) fun d=>sumF (stO x d) M):=by
  have:=QeQ M.length (fun k=>(vecN (QeO x.types) (fun d=>sumF (stO x d) (M.take k)),(k:Int))) (B:=fun q:List Int×Int=>QeE x (vecN (QeO x.types) fun d=>0) M q.1 q.2) (e:=vecN (QeO x.types) fun d=>sumF (stO x d) M) (by omega) (fun k hk=>by
   have e:M[k]?=some M[k]:=List.getElem?_eq_getElem hk
   obtain ⟨i,hi,_,hh⟩:=hmem _ (List.getElem_mem hk)
   rw [hi] at e
   have hil:=QHa h hh
   obtain ⟨o,eo,hmo,ho,hb,hp⟩:=QCN hx (show i<x.orders.length by omega)
   show QeE x (vecN (QeO x.types) fun d=>0) M (vecN (QeO x.types) (fun d=>sumF (stO x d) (M.take k))) (k:Int)=some (Sum.inl (vecN (QeO x.types) (fun d=>sumF (stO x d) (M.take (k+1))),((k+1:Nat):Int)))
   unfold QeE
   rw [QbP e,QaV eo,Qaj,incL e (by omega),ho]
   have step:∀ d,sumF (stO x d) (M.take (k+1))=sumF (stO x d) (M.take k)+stO x d (i:Int):=fun d=>QAK e
   have sb:∀ d,0≤sumF (stO x d) (M.take k)∧sumF (stO x d) (M.take k)≤1000*(M.take k).length:=fun d=>QDn fun a _=>QIp hx d a
   have hlt:(M.take k).length≤63:=by rw [List.length_take]; omega
   have hst:∀ d,stO x d (i:Int)=if o.pick.place<0 then Qwc x i d else 0:=fun d=>by
    unfold stO
    rw [Int.toNat_natCast,hp]
    simp
   by_cases hpl:o.pick.place<0
   ·rw [Qa8 (by simpa using hpl),QGB hd3 (fun d _=>by have:=sb d; omega) (fun d _=>by have:=hb d; omega),Qaj]
    congr 3
    exact Qkq fun d _=>by rw [step,hst,if_pos hpl]
   ·rw [Qa3 (by simp; omega)]
    congr 3
    exact Qkq fun d _=>by rw [step,hst,if_neg hpl]; omega) (by
   show QeE x (vecN (QeO x.types) fun d=>0) M (vecN (QeO x.types) (fun d=>sumF (stO x d) (M.take M.length))) (M.length:Int)=_
   unfold QeE
   rw [Qbj,List.take_length])
  exact this
 rw [Qch this]
 congr 1
 refine Qkq fun d _=>?_
 rw [hsum,QAL (n:=x.orders.length) 63 (by omega) fun i hi=>by
  rw [if_neg]
  intro hh
  rw [Bool.and_eq_true] at hh
  have:=QHa h hh.1
  omega]
 unfold Qwb incl
 rfl
def Qid (x:Qad) (l:List Qaa) (n:Nat):List (List Int):=(List.range n).map fun k=>vecN (QeO x.types) (Qwb x l k)
theorem Qwd {n:Nat}:(Qid x l n).length=n:=by simp [Qid]
theorem Qxk {n:Nat}:Qid x l (n+1)=Qid x l n++[vecN (QeO x.types) (Qwb x l n)]:=by simp [Qid,List.range_succ]
theorem QFt (hx:Qe2 x) (hl:r.visits.length≤1048576) (h:Qu7 x r.visits) (h0:seqS x r.visits=0):QpB x r=some (Qid x r.visits (r.visits.length+1),0):=by
 obtain ⟨hd1,hd3⟩:=Qz3 hx
 have hx10:=hx.orders
 unfold QpB
 rw [Qxv hx hl,Qaj,h0,Qa3 (by decide)]
 obtain ⟨s,hs,hs0,hset⟩:=Qxb hx hl h.inn
 rw [hs,Qaj,hs0,Qa3 (by decide),(QB4 hx).1,Qaj,QEA hx h hset,Qaj]
 have this:QaW (fun q:List (List Int)×List Int×Int=>QeD x r q.1 q.2.1 q.2.2) ([vecN (QeO x.types) (Qwb x r.visits 0)],vecN (QeO x.types) (Qwb x r.visits 0),0)=some (.inl (Qid x r.visits (r.visits.length+1))):=by
  have:=QeQ r.visits.length (fun k=>(Qid x r.visits (k+1),vecN (QeO x.types) (Qwb x r.visits k),(k:Int))) (B:=fun q:List (List Int)×List Int×Int=>QeD x r q.1 q.2.1 q.2.2) (e:=.inl (Qid x r.visits (r.visits.length+1))) (by omega) (fun k hk=>by
   have e:r.visits[k]?=some r.visits[k]:=List.getElem?_eq_getElem hk
   have hin:=QoB h.inn (List.getElem_mem hk)
   generalize r.visits[k]=v at e hin
   obtain ⟨i,hi⟩:∃ i:Nat,v.order=i:=⟨v.order.toNat,by omega⟩
   obtain ⟨o,eo,hmo,ho,hb,hp⟩:=QCN hx (show i<x.orders.length by omega)
   have hst:=QCz hx h e hi
   have hk0:=fun d=>QF2 (l:=r.visits) hx k d
   show QeD x r (Qid x r.visits (k+1)) (vecN (QeO x.types) (Qwb x r.visits k)) (k:Int)=some (Sum.inl (Qid x r.visits (k+1+1),vecN (QeO x.types) (Qwb x r.visits (k+1)),((k+1:Nat):Int)))
   unfold QeD
   have ok:okN (Qid x r.visits (k+1)++[vecN (QeO x.types) (Qwb x r.visits (k+1))]).length 24:=by unfold okN; simp [Qwd]; omega
   rw [QbP e,hi,QaV eo,Qaj,Qaj,incL e hl,ho,Qxk (n:=k+1)]
   cases hd:v.drop with
   | true =>
    rw [Qgh,QHS hd3 (fun d _=>by have:=hk0 d; omega) (fun d _=>by have:=hb d; omega),Qaj,QBT]
    have ev:vecN (QeO x.types) (fun d=>Qwb x r.visits k d-Qwc x i d)=vecN (QeO x.types) (Qwb x r.visits (k+1)):=Qkq fun d _=>by rw [hst,if_pos hd]
    simp only [ev]
    rw [QdX ok]
    rfl
   | false =>
    rw [QgV,QGB hd3 (fun d _=>by have:=hk0 d; omega) (fun d _=>by have:=hb d; omega),Qaj,QBT]
    have ev:vecN (QeO x.types) (fun d=>Qwb x r.visits k d+Qwc x i d)=vecN (QeO x.types) (Qwb x r.visits (k+1)):=Qkq fun d _=>by rw [hst,if_neg (by rw [hd]; decide)]
    simp only [ev]
    rw [QdX ok]
    rfl) (by
   show QeD x r (Qid x r.visits (r.visits.length+1)) (vecN (QeO x.types) (Qwb x r.visits r.visits.length)) (r.visits.length:Int)=_
   unfold QeD
   rw [Qbj])
  exact this
 rw [Qch this]
 rfl
def ldN (x:Qad) (l:List Qaa) (n:Nat):Nat→List (List Int)
 | 0=>[]
 | i+1=>ldN x l n i++(if (onK x (l.take n) i&&hasO l (i:Int))=true then [vecN (QeO x.types) (Qwc x i)] else [])
theorem QCw {n:Nat}:∀ i,(ldN x l n i).length≤i
 | 0=>Nat.le_refl 0
 | i+1=>by have:=QCw (n:=n) i; unfold ldN; split <;> simp <;> omega
theorem QCx {n:Nat} {a:List Int}:∀ {i},a∈ldN x l n i→∃ j,a=vecN (QeO x.types) (Qwc x j)
 | 0,h=>by cases h
 | i+1,h=>by
  unfold ldN at h
  rcases List.mem_append.1 h with h|h
  ·exact QCx h
  ·split at h
   ·exact ⟨i,List.mem_singleton.1 h⟩
   ·cases h
theorem QE1 {n d:Nat} (hd:d<QeO x.types):∀ i,sumF (fun a:List Int=>a.getD d 0) (ldN x l n i)=sumN i fun j=>incl x l n j d
 | 0=>rfl
 | i+1=>by
  show sumF (fun a:List Int=>a.getD d 0) (ldN x l n i++(if (onK x (l.take n) i&&hasO l (i:Int))=true then [vecN (QeO x.types) (Qwc x i)] else []))=sumN i _+(if (hasO l (i:Int)&&onK x (l.take n) i)=true then Qwc x i d else 0)
  rw [QwP,QE1 hd i,Bool.and_comm]
  split
  ·rw [Qu2,List.getD_eq_getElem?_getD,Qmw hd]; rfl
  ·rw [QDo]
theorem QGn {D:Nat} (hD:D≤3) {m:List (List Int)} (hm:m.length≤1000) (hl:∀ a∈m,a.length=D) (hb:∀ a∈m,∀ d,0≤a.getD d 0∧a.getD d 0≤1000):QiA m (D:Int)=some (vecN D fun d=>sumF (fun a=>a.getD d 0) m,0):=by
 have even:Qi4 m (D:Int)=some true:=by
  unfold Qi4
  rw [Qa3 (by simp; omega),Qch (QeX (B:=fun s=>Qdh m (D:Int) s) (l:=m) (by omega) (fun a=>neI (lenI a) (D:Int)) (y:=(.inr false:Unit⊕Bool)) (N:=.inl ()) (fun i a h=>by
   show Qdh m (D:Int) i=_
   unfold Qdh
   rw [QbP h,incL h (by omega),brs]) (by
   show Qdh m (D:Int) m.length=_
   unfold Qdh
   rw [Qbj]))]
  rw [if_neg]
  ·rfl
  ·rw [List.any_eq_true]
   rintro ⟨a,ha,h⟩
   rw [QyI,lenI,hl a ha] at h
   exact h rfl
 unfold QiA
 rw [even,Qaj,Qgh]
 have this:QaW (fun q:List Int×Int=>Qc6 m (D:Int) q.1 q.2) ([],0)=some (vecN D fun d=>sumF (fun a=>a.getD d 0) m):=by
  have:=QeQ D (fun k=>(vecN k (fun d=>sumF (fun a=>a.getD d 0) m),(k:Int))) (B:=fun q:List Int×Int=>Qc6 m (D:Int) q.1 q.2) (e:=vecN D fun d=>sumF (fun a=>a.getD d 0) m) (by omega) (fun k hk=>by
   show Qc6 m (D:Int) (vecN k (fun d=>sumF (fun a=>a.getD d 0) m)) (k:Int)=some (Sum.inl (vecN (k+1) (fun d=>sumF (fun a=>a.getD d 0) m),((k+1:Nat):Int)))
   unfold Qc6
   rw [Qa8 (by simp; omega)]
   have inner:QaW (fun q:Int×Int=>Qc7 m (D:Int) (vecN k (fun d=>sumF (fun a=>a.getD d 0) m)) (k:Int) q.1 q.2) (0,0)=some (sumF (fun a=>a.getD k 0) m):=by
    have:=QeQ m.length (fun j=>(sumF (fun a:List Int=>a.getD k 0) (m.take j),(j:Int))) (B:=fun q:Int×Int=>Qc7 m (D:Int) (vecN k (fun d=>sumF (fun a=>a.getD d 0) m)) (k:Int) q.1 q.2) (e:=sumF (fun a=>a.getD k 0) m) (by omega) (fun j hj=>by
     have e:m[j]?=some m[j]:=List.getElem?_eq_getElem hj
     have hmj:=List.getElem_mem hj
     generalize m[j]=a at e hmj
     have ha:=hl a hmj
     have hab:=hb a hmj k
     have e2:a[k]?=some (a.getD k 0):=by rw [List.getD_eq_getElem?_getD,List.getElem?_eq_getElem (show k<a.length by omega)]; rfl
     have sb:=QDn (f:=fun a:List Int=>a.getD k 0) (l:=m.take j) fun c hc=>hb c (List.mem_of_mem_take hc) k
     have hlt:(m.take j).length≤1000:=by rw [List.length_take]; omega
     show Qc7 m (D:Int) (vecN k (fun d=>sumF (fun a=>a.getD d 0) m)) (k:Int) (sumF (fun a:List Int=>a.getD k 0) (m.take j)) (j:Int)=some (Sum.inl (sumF (fun a:List Int=>a.getD k 0) (m.take (j+1)),((j+1:Nat):Int)))
     unfold Qc7
     rw [QbP e,QaV e2,Qaj,incL e (by omega),addI (by omega) (by omega),QAK e]
     rfl) (by
     show Qc7 m (D:Int) (vecN k (fun d=>sumF (fun a=>a.getD d 0) m)) (k:Int) (sumF (fun a:List Int=>a.getD k 0) (m.take m.length)) (m.length:Int)=_
     unfold Qc7
     rw [Qbj,List.take_length])
    exact this
   have ev:vecN (k+1) (fun d=>sumF (fun a:List Int=>a.getD d 0) m)=vecN k (fun d=>sumF (fun a:List Int=>a.getD d 0) m)++[sumF (fun a:List Int=>a.getD k 0) m]:=by simp [vecN,List.range_succ]
   rw [Qch inner,QdX (by unfold okN; simp [Qiy]; omega),addI (by omega) (by omega),ev]
   rfl) (by
   show Qc6 m (D:Int) (vecN D (fun d=>sumF (fun a=>a.getD d 0) m)) (D:Int)=_
   unfold Qc6
   rw [Qa3 (by simp)])
  exact this
 rw [Qch this]
theorem QDN (hx:Qe2 x) (hl:l.length≤1048576) {n:Nat} (hn:n≤l.length):Qis x l (n:Int)=some (vecN (QeO x.types) (Qwb x l n),0):=by
 obtain ⟨hd1,hd3⟩:=Qz3 hx
 have hx10:=hx.orders
 unfold Qis
 have this:QaW (fun q:List (List Int)×Int=>Qcm x l (n:Int) q.1 q.2) ([],0)=some (ldN x l n x.orders.length):=by
  have:=QeQ x.orders.length (fun k=>(ldN x l n k,(k:Int))) (B:=fun q:List (List Int)×Int=>Qcm x l (n:Int) q.1 q.2) (e:=ldN x l n x.orders.length) (by omega) (fun i hi=>by
   obtain ⟨o,eo,hmo,ho,hb,hp⟩:=QCN hx hi
   show Qcm x l (n:Int) (ldN x l n i) (i:Int)=some (Sum.inl (ldN x l n (i+1),((i+1:Nat):Int)))
   unfold Qcm
   rw [QbP eo]
   have inner:QaW (fun q:Bool×Bool×Int=>Qcn x l (n:Int) (ldN x l n i) (i:Int) q.1 q.2.1 q.2.2) (ltI o.pick.place 0,false,0)=some (onK x (l.take n) i,hasO l (i:Int)):=by
    have:=QeQ l.length (fun k=>(onK x (l.take (min k n)) i,hasO (l.take k) (i:Int),(k:Int))) (B:=fun q:Bool×Bool×Int=>Qcn x l (n:Int) (ldN x l n i) (i:Int) q.1 q.2.1 q.2.2) (e:=(onK x (l.take n) i,hasO l (i:Int))) (by omega) (fun k hk=>by
     have e:l[k]?=some l[k]:=List.getElem?_eq_getElem hk
     generalize l[k]=v at e
     show Qcn x l (n:Int) (ldN x l n i) (i:Int) (onK x (l.take (min k n)) i) (hasO (l.take k) (i:Int)) (k:Int)=some (Sum.inl (onK x (l.take (min (k+1) n)) i,hasO (l.take (k+1)) (i:Int),((k+1:Nat):Int)))
     unfold Qcn
     have hh:hasO (l.take (k+1)) (i:Int)=(hasO (l.take k) (i:Int)||isO (i:Int) v):=by rw [Qpz e]; simp [hasO]
     rw [QbP e,incL e hl,hh]
     by_cases hv:v.order=(i:Int)
     ·rw [Qa3 (by simpa using hv),QCp.2 hv,Bool.or_true]
      by_cases hkn:k<n
      ·rw [Qa8 (by simpa using hkn),show min (k+1) n=k+1 by omega,QxV e,if_pos hv]
       rfl
      ·rw [Qa3 (by simp; omega),show min (k+1) n=min k n by omega]
       rfl
     ·have hvf:isO (i:Int) v=false:=by
       rw [Bool.eq_false_iff]
       exact fun h=>hv (QCp.1 h)
      rw [Qa8 (by simpa using hv),hvf,Bool.or_false]
      by_cases hkn:k<n
      ·rw [show min (k+1) n=k+1 by omega,QxV e,if_neg hv,show min k n=k by omega]
       rfl
      ·rw [show min (k+1) n=min k n by omega]
       rfl) (by
     show Qcn x l (n:Int) (ldN x l n i) (i:Int) (onK x (l.take (min l.length n)) i) (hasO (l.take l.length) (i:Int)) (l.length:Int)=_
     unfold Qcn
     rw [Qbj,List.take_length,show min l.length n=n by omega])
    have h0:(onK x (l.take (min 0 n)) i,hasO (l.take 0) (i:Int),((0:Nat):Int))=(ltI o.pick.place 0,false,0):=by
     rw [Nat.zero_min,List.take_zero]
     unfold onK hasO
     rw [List.foldl_nil,hp]
     congr 1
    rw [← h0]
    exact this
   rw [Qch inner]
   simp only
   rw [QaV eo,Qaj,ho,incL eo (by omega)]
   have hlen:=QCw (x:=x) (l:=l) (n:=n) i
   rw [QdX (by unfold okN; simp; omega),brs]
   show _=some (Sum.inl (ldN x l n i++(if (onK x (l.take n) i&&hasO l (i:Int))=true then [vecN (QeO x.types) (Qwc x i)] else []),((i+1:Nat):Int)))
   split <;> simp) (by
   show Qcm x l (n:Int) (ldN x l n x.orders.length) (x.orders.length:Int)=_
   unfold Qcm
   rw [Qbj])
  exact this
 rw [Qch this,(QB4 hx).2,Qaj]
 have hlen:=QCw (x:=x) (l:=l) (n:=n) x.orders.length
 rw [QGn hd3 (by omega) (fun a ha=>by obtain ⟨j,rfl⟩:=QCx ha; exact Qiy) (fun a ha d=>by
  obtain ⟨j,rfl⟩:=QCx ha
  rw [List.getD_eq_getElem?_getD]
  rcases Nat.lt_or_ge d (QeO x.types) with h|h
  ·rw [Qmw h]; exact Qzn hx j d
  ·rw [List.getElem?_eq_none (by rw [Qiy]; omega)]; simp),Qaj]
 congr 2
 exact Qkq fun d hd=>QE1 hd _
theorem QBC (hx:Qe2 x) (hl:r.visits.length≤1048576) (h0:seqS x r.visits=0):Qir x r=some (Qid x r.visits (r.visits.length+1),0):=by
 unfold Qir
 rw [Qyg hx hl,Qaj,h0,Qa3 (by decide)]
 have this:QaW (fun q:List (List Int)×Int=>Qcl x r q.1 q.2) ([],0)=some (.inl (Qid x r.visits (r.visits.length+1))):=by
  have:=QeQ (r.visits.length+1) (fun k=>(Qid x r.visits k,(k:Int))) (B:=fun q:List (List Int)×Int=>Qcl x r q.1 q.2) (e:=.inl (Qid x r.visits (r.visits.length+1))) (by omega) (fun k hk=>by
   show Qcl x r (Qid x r.visits k) (k:Int)=some (Sum.inl (Qid x r.visits (k+1),((k+1:Nat):Int)))
   unfold Qcl
   rw [Qa8 (by simp [lenI]; omega),QDN hx hl (by omega),Qaj,QBT,QdX (by unfold okN; simp [Qwd]; omega),addI (by omega) (by omega),Qxk]
   rfl) (by
   show Qcl x r (Qid x r.visits (r.visits.length+1)) ((r.visits.length+1:Nat):Int)=_
   unfold Qcl
   rw [Qa3 (by simp [lenI]; omega)])
  exact this
 rw [Qch this]
 rfl
def QBz (cap a:List Int):Bool:=(List.range a.length).any fun i=>gtI (a.getD i 0) (cap.getD i 0)
theorem QES {a cap:List Int} (ha:a.length=cap.length) (hl:a.length≤1048576):QrK a cap=some (!QBz cap a)∧Qi3 a cap=some (!QBz cap a):=by
 have g:∀ i,i<a.length→a[i]?=some (a.getD i 0)∧cap[i]?=some (cap.getD i 0):=fun i hi=>by
  rw [List.getD_eq_getElem?_getD,List.getD_eq_getElem?_getD,List.getElem?_eq_getElem hi,List.getElem?_eq_getElem (show i<cap.length by omega)]
  exact ⟨rfl,rfl⟩
 have hb:QBz cap a=true↔∃ k,k<a.length∧gtI (a.getD k 0) (cap.getD k 0)=true:=by
  unfold QBz
  rw [List.any_eq_true]
  exact ⟨fun ⟨k,hk,h⟩=>⟨k,List.mem_range.1 hk,h⟩,fun ⟨k,hk,h⟩=>⟨k,List.mem_range.2 hk,h⟩⟩
 constructor
 ·unfold QrK
  rw [Qa3 (by simp [lenI,ha]),Qch (QwD (B:=fun s=>Qgk a cap s) hl (fun k=>gtI (a.getD k 0) (cap.getD k 0)) (y:=(.inr false:Unit⊕Bool)) (N:=.inl ()) hb (fun i hi=>by
   show Qgk a cap i=_
   unfold Qgk
   rw [QbP (g i hi).1,QaV (g i hi).2,Qaj,inc hi hl,brs]) (by
   show Qgk a cap a.length=_
   unfold Qgk
   rw [Qbj]))]
  cases QBz cap a <;> rfl
 ·unfold Qi3
  rw [Qa3 (by simp [lenI,ha]),Qch (QwD (B:=fun s=>Qdg a cap s) hl (fun k=>gtI (a.getD k 0) (cap.getD k 0)) (y:=(.inr false:Unit⊕Bool)) (N:=.inl ()) hb (fun i hi=>by
   show Qdg a cap i=_
   unfold Qdg
   rw [QbP (g i hi).1,QaV (g i hi).2,Qaj,inc hi hl,brs]) (by
   show Qdg a cap a.length=_
   unfold Qdg
   rw [Qbj]))]
  cases QBz cap a <;> rfl
def fitS (x:Qad) (r:Qac):Int:=if (Qid x r.visits (r.visits.length+1)).any (QBz (typS x r).cap)=true then 17 else 0
theorem QBt (h0:0≤r.type_) (h1:r.type_<x.types.length):getI x.types r.type_=some (typS x r)∧typS x r∈x.types:=by
 have e:x.types[r.type_.toNat]?=some (x.types[r.type_.toNat]'(by omega)):=List.getElem?_eq_getElem _
 have ht:typS x r=x.types[r.type_.toNat]'(by omega):=by unfold typS; rw [List.getD_eq_getElem?_getD,e]; rfl
 rw [ht]
 exact ⟨Qyu h0 h1,List.getElem_mem _⟩
theorem QGD (hx:Qe2 x) (hl:r.visits.length≤1000000) (h0:seqS x r.visits=0) (ht:0≤r.type_∧r.type_<x.types.length):Qrv x r=some (fitS x r)∧QhL x r=some (fitS x r):=by
 have h:=Qxs h0
 obtain ⟨t1,t2⟩:=QBt ht.1 ht.2
 have hcap:=(hx.typ _ t2).cap
 have hd:=Qz3 hx
 have lens:∀ a∈Qid x r.visits (r.visits.length+1),a.length=(typS x r).cap.length:=fun a ha=>by
  obtain ⟨k,_,rfl⟩:=List.mem_map.1 ha
  rw [Qiy,hcap]
 have hlen:=Qwd (x:=x) (l:=r.visits) (n:=r.visits.length+1)
 constructor
 ·unfold Qrv
  rw [Qa3 (by simp [lenI]; omega),QFt hx (by omega) h h0,Qaj,QBT]
  have:=Qtp (B:=fun s=>QaT (Qid x r.visits (r.visits.length+1)) x r s) (l:=Qid x r.visits (r.visits.length+1)) (by omega) (QBz (typS x r).cap) (fun k=>(.inr (k:Int):Unit⊕Int)) (N:=.inl ()) (fun i a h=>by
   have hm:=lens a (List.mem_of_getElem? h)
   show QaT (Qid x r.visits (r.visits.length+1)) x r i=_
   unfold QaT Qqr
   rw [QbP h,t1,Qaj,(QES hm (by omega)).1,Qaj,Qaj,incL h (by omega),Bool.not_not,brs]) (by
   show QaT (Qid x r.visits (r.visits.length+1)) x r (Qid x r.visits (r.visits.length+1)).length=_
   unfold QaT
   rw [Qbj])
  have e:QbJ (Qid x r.visits (r.visits.length+1)) x r=some (ixI (QBz (typS x r).cap) (Qid x r.visits (r.visits.length+1))):=by
   unfold QbJ
   rw [Qch this]
   unfold ixI
   cases ixP (QBz (typS x r).cap) (Qid x r.visits (r.visits.length+1)) <;> rfl
  unfold QbX
  simp only
  rw [e,Qaj,Qaj,QoL,brs]
  rfl
 ·unfold QhL
  rw [Qa3 (by simp [lenI]; omega),QBC hx (by omega) h0,Qaj,QBT]
  rw [Qch (QeX (B:=fun s=>Qdj x r (Qid x r.visits (r.visits.length+1),0) s) (l:=Qid x r.visits (r.visits.length+1)) (by omega) (QBz (typS x r).cap) (y:=(.inr 17:Unit⊕Int)) (N:=.inl ()) (fun i a h=>by
   have hm:=lens a (List.mem_of_getElem? h)
   show Qdj x r (Qid x r.visits (r.visits.length+1),0) i=_
   unfold Qdj
   rw [QbP h,t1,Qaj,(QES hm (by omega)).2,Qaj,incL h (by omega)]
   cases QBz (typS x r).cap a <;> rfl) (by
   show Qdj x r (Qid x r.visits (r.visits.length+1),0) (Qid x r.visits (r.visits.length+1)).length=_
   unfold Qdj
   rw [Qbj]))]
  unfold fitS
  split <;> rfl
end
end Go.Proofs.YtoedkepcaigkeaaGreatDoor
namespace Go.Proofs.YtoedkepcaigkeaaGreatDoor
set_option linter.unusedSimpArgs false
set_option linter.unusedVariables false
set_option linter.unusedSectionVars false
theorem QF7 {m:List (Int×Int)} {k k' v z:Int}:mGet eqI (mPut eqI m k v) k' z=if k'=k then v else mGet eqI m k' z:=by
 induction m with
 | nil =>
  unfold mPut mGet mGet
  by_cases h:k'=k
  ·rw [if_pos h,show eqI k' k=true by simpa using h]; rfl
  ·rw [if_neg h,show eqI k' k=false by simpa using h]; rfl
 | cons p r ih =>
  unfold mPut
  cases hp:eqI k p.1 with
  | true =>
   have hp':k=p.1:=by simpa using hp
   simp only [cond_true]
   unfold mGet
   by_cases h:k'=k
   ·rw [if_pos h,show eqI k' k=true by simpa using h]; rfl
   ·rw [if_neg h,show eqI k' k=false by simpa using h,show eqI k' p.1=false by rw [← hp']; simpa using h]; rfl
  | false =>
   have hp':k≠p.1:=by simpa using hp
   simp only [cond_false]
   unfold mGet
   rw [ih]
   by_cases h:k'=k
   ·rw [if_pos h,show eqI k' p.1=false by rw [h]; exact hp,if_pos h]; rfl
   ·rw [if_neg h,if_neg h]
section
variable {x : Qad} {l : List Qaa} {r : Qac} {s0 : Qao}
def cntV (l:List Qaa) (o:Int):Int:=sumF (fun v:Qaa=>if v.order=o then 1 else 0) l
theorem QBY {o:Int}:0≤cntV l o∧cntV l o≤l.length∧(0<cntV l o↔hasO l o=true):=by
 induction l with
 | nil=>simp [cntV,sumF,hasO]
 | cons v l ih =>
  have e:cntV (v :: l) o=(if v.order=o then 1 else 0)+cntV l o:=by simp [cntV,sumF]
  have e2:hasO (v :: l) o=(isO o v||hasO l o):=by simp [hasO]
  rw [e,e2,List.length_cons,Bool.or_eq_true,QCp]
  split
  ·rename_i h
   refine ⟨by omega,by omega,fun _=>.inl h,fun _=>by omega⟩
  ·rename_i h
   refine ⟨by omega,by omega,fun h'=>.inr (ih.2.2.1 (by omega)),fun h'=>?_⟩
   rcases h' with h'|h'
   ·exact absurd h' h
   ·have:=ih.2.2.2 h'; omega
def mapK (l:List Qaa):List (Int×Int):=l.foldl (fun m v=>mPut eqI m v.order (addK .i64 (mGet eqI m v.order 0) 1)) []
theorem QAp {v:Qaa}:mapK (l++[v])=mPut eqI (mapK l) v.order (addK .i64 (mGet eqI (mapK l) v.order 0) 1):=by simp [mapK]
theorem QF8 {l:List Qaa} (hl:l.length≤1048576) (o:Int):mGet eqI (mapK l) o 0=cntV l o:=by
 have main:∀ k,k≤l.length→mGet eqI (mapK (l.take k)) o 0=cntV (l.take k) o:=by
  intro k hk
  induction k generalizing o with
  | zero=>rfl
  | succ k ih =>
   have e:l[k]?=some l[k]:=List.getElem?_eq_getElem (by omega)
   generalize l[k]=v at e
   rw [Qpz e,QAp,QF7]
   have e2:cntV (l.take k++[v]) o=cntV (l.take k) o+(if v.order=o then 1 else 0):=by unfold cntV; rw [QwP,Qu2]
   have hb:=(QBY (l:=l.take k) (o:=v.order)).2.1
   have hb0:=(QBY (l:=l.take k) (o:=v.order)).1
   have hlen:(l.take k).length≤k:=by rw [List.length_take]; omega
   rw [e2,ih v.order (by omega),ih o (by omega),addI (by omega) (by omega)]
   by_cases h:o=v.order
   ·rw [if_pos h,if_pos h.symm,h]
   ·rw [if_neg h,if_neg fun h'=>h h'.symm]; omega
 have:=main l.length (Nat.le_refl _)
 rwa [List.take_length] at this
def forB (kind own:Int):Bool:=neI kind (-1)&&neI kind own
def bit1 (b:Bool):Int:=if b=true then 1 else 0
def Qkc (x:Qad) (r:Qac):Nat→Int×Int
 | 0=>(0,0)
 | k+1=>match r.visits[k]? with
  | none=>Qkc x r k
  | some v=>match (if 0≤v.order then x.orders[v.order.toNat]? else none) with
   | none=>Qkc x r k
   | some o=>if hasO (r.visits.take k) v.order=true then Qkc x r k else ((Qkc x r k).1+bit1 (forB o.now r.type_),(Qkc x r k).2+bit1 (forB o.last_ r.type_))
theorem QEI {b:Bool}:0≤bit1 b∧bit1 b≤1:=by cases b <;> simp [bit1]
theorem Qzt:∀ k,(0≤(Qkc x r k).1∧(Qkc x r k).1≤k)∧(0≤(Qkc x r k).2∧(Qkc x r k).2≤k)
 | 0=>by simp [Qkc]
 | k+1=>by
  have ih:=Qzt k
  unfold Qkc
  split
  ·omega
  ·split
   ·omega
   ·rename_i o _
    have h1:=QEI (b:=forB o.now r.type_)
    have h2:=QEI (b:=forB o.last_ r.type_)
    split
    ·omega
    ·simp only; omega
def scoS (x:Qad) (r:Qac) (s0:Qao):QaE :=
 QaE.mk (addK .i64 (addK .i64 (typS x r).fixed (mulK .i64 (typS x r).perMile s0.miles)) (mulK .i64 (typS x r).perTick (subK .i64 s0.end_ (typS x r).open_))) (Qkc x r r.visits.length).1 (Qkc x r r.visits.length).2 (mulK .i64 (quoK .i64 (subK .i64 s0.end_ (typS x r).open_) 64) (quoK .i64 (subK .i64 s0.end_ (typS x r).open_) 64))
theorem QFw (hx:Qe2 x) (hl:r.visits.length≤1048576) (ht:0≤r.type_∧r.type_<x.types.length):Qqf x r s0=some (scoS x r s0):=by
 obtain ⟨t1,t2⟩:=QBt ht.1 ht.2
 have h10:=hx.orders
 unfold Qqf
 rw [Qa3 (by simp [lenI]; omega),t1,Qaj]
 have this:QaW (fun q:List (Int×Int)×Int×Int×Int=>QeL x r s0 (typS x r) q.1 q.2.1 q.2.2.1 q.2.2.2) ([],0,0,0)=some (Qkc x r r.visits.length):=by
  have:=QeQ r.visits.length (fun k=>(mapK (r.visits.take k),(Qkc x r k).1,(Qkc x r k).2,(k:Int))) (B:=fun q:List (Int×Int)×Int×Int×Int=>QeL x r s0 (typS x r) q.1 q.2.1 q.2.2.1 q.2.2.2) (e:=Qkc x r r.visits.length) (by omega) (fun k hk=>by
   have e:r.visits[k]?=some r.visits[k]:=List.getElem?_eq_getElem hk
   generalize r.visits[k]=v at e
   show QeL x r s0 (typS x r) (mapK (r.visits.take k)) (Qkc x r k).1 (Qkc x r k).2 (k:Int)=some (Sum.inl (mapK (r.visits.take (k+1)),(Qkc x r (k+1)).1,(Qkc x r (k+1)).2,((k+1:Nat):Int)))
   unfold QeL Qkg Qme
   rw [QbP e,← QAp,← Qpz e,incL e hl]
   have hlen:(r.visits.take k).length≤1048576:=by rw [List.length_take]; omega
   have hlen1:(r.visits.take (k+1)).length≤1048576:=by rw [List.length_take]; omega
   have hp:=Qzt (x:=x) (r:=r) k
   have hg:gtI (mGet eqI (mapK (r.visits.take (k+1))) v.order 0) 1=hasO (r.visits.take k) v.order:=by
    rw [QF8 hlen1,Qpz e]
    have e2:cntV (r.visits.take k++[v]) v.order=cntV (r.visits.take k) v.order+1:=by unfold cntV; rw [QwP,Qu2,if_pos rfl]
    have:=(QBY (l:=r.visits.take k) (o:=v.order)).2.2
    rw [e2,Bool.eq_iff_iff,Qy5,← this]
    omega
   rw [hg]
   show _=some (Sum.inl (mapK (r.visits.take (k+1)),(Qkc x r (k+1)).1,(Qkc x r (k+1)).2,(k:Int)+1))
   have hP:Qkc x r (k+1)=match (if 0≤v.order then x.orders[v.order.toNat]? else none) with
    | none=>Qkc x r k
    | some o=>if hasO (r.visits.take k) v.order=true then Qkc x r k else ((Qkc x r k).1+bit1 (forB o.now r.type_),(Qkc x r k).2+bit1 (forB o.last_ r.type_)):=by
    show (match r.visits[k]? with
     | none=>Qkc x r k
     | some v=>match (if 0≤v.order then x.orders[v.order.toNat]? else none) with
      | none=>Qkc x r k
      | some o=>if hasO (r.visits.take k) v.order=true then Qkc x r k else ((Qkc x r k).1+bit1 (forB o.now r.type_),(Qkc x r k).2+bit1 (forB o.last_ r.type_)))=_
    rw [e]
   rw [hP]
   by_cases hin:0≤v.order∧v.order<x.orders.length
   ·rw [Qa3 (by simp [lenI]; omega),if_pos hin.1]
    have eo:x.orders[v.order.toNat]?=some (x.orders[v.order.toNat]'(by omega)):=List.getElem?_eq_getElem _
    generalize x.orders[v.order.toNat]'(by omega)=o at eo
    have eg:getI x.orders v.order=some o:=by unfold getI; rw [if_pos hin.1,eo]
    rw [eo,eg]
    simp only [Qaj]
    cases hasO (r.visits.take k) v.order with
    | true=>rfl
    | false =>
     rw [QgV,if_neg (by decide),show (neI o.now (-1)&&neI o.now r.type_)=forB o.now r.type_ from rfl,show (neI o.last_ (-1)&&neI o.last_ r.type_)=forB o.last_ r.type_ from rfl,addI (by omega) (by omega),addI (by omega) (by omega)]
     generalize Qkc x r k=p
     cases forB o.now r.type_ <;> cases forB o.last_ r.type_ <;> simp [bit1]
   ·rw [Qa8 (by simp [lenI]; omega)]
    have:(if 0≤v.order then x.orders[v.order.toNat]? else none)=none:=by
     split
     ·exact List.getElem?_eq_none (by omega)
     ·rfl
    rw [this]) (by
   show QeL x r s0 (typS x r) (mapK (r.visits.take r.visits.length)) (Qkc x r r.visits.length).1 (Qkc x r r.visits.length).2 (r.visits.length:Int)=_
   unfold QeL
   rw [Qbj])
  exact this
 rw [Qch this]
 rfl
theorem QDQ (hl:l.length≤1048576) {k:Nat} {v:Qaa} (e:l[k]?=some v):QhF l (k:Int)=some (!hasO (l.take k) v.order):=by
 have hk:=(List.getElem?_eq_some_iff.1 e).1
 have:=QwD (B:=fun q=>Qcz l (k:Int) q) (n:=k) (by omega) (fun j=>match l[j]? with|some w=>eqI w.order v.order|none=>false) (y:=(.inr false:Unit⊕Bool)) (N:=.inl ()) (b:=hasO (l.take k) v.order) (by
  rw [QrH]
  constructor
  ·rintro ⟨w,hw,he⟩
   obtain ⟨j,hj,hje⟩:=(Qpy (by omega)).1 hw
   exact ⟨j,hj,by rw [hje]; simpa using he⟩
  ·rintro ⟨j,hj,h⟩
   rw [List.getElem?_eq_getElem (show j<l.length by omega)] at h
   exact ⟨_,(Qpy (by omega)).2 ⟨j,hj,List.getElem?_eq_getElem (by omega)⟩,by simpa using h⟩) (fun j hj=>by
  have ej:l[j]?=some (l[j]'(by omega)):=List.getElem?_eq_getElem _
  show Qcz l (k:Int) j=_
  unfold Qcz
  rw [Qa8 (by simp; omega),QaV ej,Qaj,QaV e,Qaj,incL ej hl,brs,ej]) (by
  show Qcz l (k:Int) k=_
  unfold Qcz
  rw [Qa3 (by simp)])
 unfold QhF
 rw [Qch this]
 cases hasO (l.take k) v.order <;> rfl
theorem QBF (hx:Qe2 x) (hl:r.visits.length≤1048576) (ht:0≤r.type_∧r.type_<x.types.length):Qha x r s0=some (scoS x r s0):=by
 obtain ⟨t1,t2⟩:=QBt ht.1 ht.2
 have h10:=hx.orders
 unfold Qha
 rw [Qa3 (by simp [lenI]; omega),t1,Qaj]
 have this:QaW (fun q:Int×Int×Int=>Qco x r s0 (typS x r) q.1 q.2.1 q.2.2) (0,0,0)=some (Qkc x r r.visits.length):=by
  have:=QeQ r.visits.length (fun k=>((Qkc x r k).1,(Qkc x r k).2,(k:Int))) (B:=fun q:Int×Int×Int=>Qco x r s0 (typS x r) q.1 q.2.1 q.2.2) (e:=Qkc x r r.visits.length) (by omega) (fun k hk=>by
   have e:r.visits[k]?=some r.visits[k]:=List.getElem?_eq_getElem hk
   generalize r.visits[k]=v at e
   show Qco x r s0 (typS x r) (Qkc x r k).1 (Qkc x r k).2 (k:Int)=some (Sum.inl ((Qkc x r (k+1)).1,(Qkc x r (k+1)).2,((k+1:Nat):Int)))
   unfold Qco Qgy
   rw [QbP e,incL e hl,QDQ hl e]
   have hp:=Qzt (x:=x) (r:=r) k
   show _=some (Sum.inl ((Qkc x r (k+1)).1,(Qkc x r (k+1)).2,(k:Int)+1))
   have hP:Qkc x r (k+1)=match (if 0≤v.order then x.orders[v.order.toNat]? else none) with
    | none=>Qkc x r k
    | some o=>if hasO (r.visits.take k) v.order=true then Qkc x r k else ((Qkc x r k).1+bit1 (forB o.now r.type_),(Qkc x r k).2+bit1 (forB o.last_ r.type_)):=by
    show (match r.visits[k]? with
     | none=>Qkc x r k
     | some v=>match (if 0≤v.order then x.orders[v.order.toNat]? else none) with
      | none=>Qkc x r k
      | some o=>if hasO (r.visits.take k) v.order=true then Qkc x r k else ((Qkc x r k).1+bit1 (forB o.now r.type_),(Qkc x r k).2+bit1 (forB o.last_ r.type_)))=_
    rw [e]
   rw [hP]
   by_cases hin:0≤v.order∧v.order<x.orders.length
   ·rw [Qa3 (by simp [lenI]; omega),if_pos hin.1]
    have eo:x.orders[v.order.toNat]?=some (x.orders[v.order.toNat]'(by omega)):=List.getElem?_eq_getElem _
    generalize x.orders[v.order.toNat]'(by omega)=o at eo
    have eg:getI x.orders v.order=some o:=by unfold getI; rw [if_pos hin.1,eo]
    rw [eo,eg]
    simp only [Qaj]
    cases hasO (r.visits.take k) v.order with
    | true=>rfl
    | false =>
     rw [Bool.not_false,Qgh,if_neg (by decide),addI (by omega) (by omega),addI (by omega) (by omega)]
     generalize Qkc x r k=p
     unfold forB
     cases neI o.now (-1) <;> cases neI o.now r.type_ <;> cases neI o.last_ (-1) <;> cases neI o.last_ r.type_ <;> simp [bit1]
   ·rw [Qa8 (by simp [lenI]; omega)]
    have:(if 0≤v.order then x.orders[v.order.toNat]? else none)=none:=by
     split
     ·exact List.getElem?_eq_none (by omega)
     ·rfl
    rw [this]) (by
   show Qco x r s0 (typS x r) (Qkc x r r.visits.length).1 (Qkc x r r.visits.length).2 (r.visits.length:Int)=_
   unfold Qco
   rw [Qbj])
  exact this
 rw [Qch this]
 rfl
end
theorem QDM (s:QaE):∃ w,Qog s=some w∧QhE s=some w:=by
 unfold Qog QhE QsH Qj9
 simp only [Qaj]
 cases h1:ltI s.cost 0 with
 | true=>exact ⟨_,rfl,rfl⟩
 | false =>
  cases h2:ltI s.moved 0 with
  | true=>exact ⟨_,rfl,rfl⟩
  | false =>
   cases h3:ltI s.other 0 with
   | true=>exact ⟨_,rfl,rfl⟩
   | false =>
    cases h4:ltI s.work 0 with
    | true=>exact ⟨_,rfl,rfl⟩
    | false =>
     have e:(((((((geI s.cost 0&&leI s.cost 1073741824)&&geI s.moved 0)&&leI s.moved 15)&&geI s.other 0)&&leI s.other 15)&&geI s.work 0)&&leI s.work 65535)=!(((gtI s.cost 1073741824||geI s.moved 16)||geI s.other 16)||geI s.work 65536):=by
      simp only [Qrt] at h1 h2 h3 h4
      rw [Bool.eq_iff_iff]
      simp only [Bool.and_eq_true,QtX,QyA,Bool.not_eq_true',Bool.or_eq_false_iff,Qvh,QD4]
      omega
     rw [e]
     simp only [QgV]
     cases ((gtI s.cost 1073741824||geI s.moved 16)||geI s.other 16)||geI s.work 65536
     ·exact ⟨_,rfl,rfl⟩
     ·exact ⟨_,rfl,rfl⟩
end Go.Proofs.YtoedkepcaigkeaaGreatDoor
namespace Go.Proofs.YtoedkepcaigkeaaGreatDoor
set_option linter.unusedSimpArgs false
set_option linter.unusedVariables false
set_option linter.unusedSectionVars false
theorem QxU:∀ (n:Nat) (l:List Nat),l.Nodup→(∀ a∈l,a<n)→l.length≤n
 | 0,l,_,h=>by
  cases l with
  | nil=>simp
  | cons a r=>exact absurd (h a (by simp)) (by omega)
 | n+1,l,hd,h=>by
  by_cases hm:n∈l
  ·have h1:=QxU n (l.erase n) (hd.erase n) fun a ha=>by
    have h2:=(hd.mem_erase_iff).1 ha
    have:=h a h2.2
    omega
   rw [List.length_erase_of_mem hm] at h1
   omega
  ·have:=QxU n l hd fun a ha=>by
    have:=h a ha
    have:a≠n:=fun e=>hm (e ▸ ha)
    omega
   omega
section
variable {x : Qad} {l : List Qaa} {r : Qac}
theorem Qu7.short (hx:Qe2 x) (h:Qu7 x l):l.length≤20:=by
 have h10:=hx.orders
 have hm:(l.map fun v:Qaa=>2*v.order.toNat+(if v.drop=true then 1 else 0)).Nodup:=by
  unfold List.Nodup
  rw [List.pairwise_map]
  refine h.nodup.imp_of_mem fun {a b} ha hb hne he=>hne ?_
  have h1:=QoB h.inn ha
  have h2:=QoB h.inn hb
  cases a with
  | mk ao ad =>
   cases b with
   | mk bo bd =>
    simp only at h1 h2 he
    have hd:ad=bd∧ao=bo:=by
     cases ad <;> cases bd <;> simp at he ⊢ <;> omega
    rw [hd.1,hd.2]
 have:=QxU 20 _ hm fun a ha=>by
  obtain ⟨v,hv,rfl⟩:=List.mem_map.1 ha
  have h1:=QoB h.inn hv
  split <;> omega
 simpa using this
noncomputable def QIx (t:Qak) (skills:Int):Bool:=(QnH t skills).getD false
noncomputable def Qu0 (x:Qad) (r:Qac) (v:Qaa):Bool:=match x.orders[v.order.toNat]? with
 | some o=>QIx (typS x r) o.skills
 | none=>false
theorem QEH (hx:Qe2 x) (ht:0≤r.type_∧r.type_<x.types.length) {v:Qaa} (hv:0≤v.order∧v.order<x.orders.length):∃ o,getI x.orders v.order=some o∧QnH (typS x r) o.skills=some (Qu0 x r v)∧QhK (typS x r) o.skills=some (Qu0 x r v)∧x.orders[v.order.toNat]?=some o:=by
 obtain ⟨o,g1,g2,_,g4⟩:=QAv (x:=x) hv.1 hv.2
 obtain ⟨b,b1,b2⟩:=QHW (t:=typS x r) (hx.typ _ (QBt ht.1 ht.2).2).skills (hx.ord o g2).skills
 have:Qu0 x r v=b:=by unfold Qu0 QIx; rw [g4]; simp only; rw [b1]; rfl
 exact ⟨o,g1,by rw [this,b1],by rw [this,b2],g4⟩
def QDz:QaE:=QaE.mk 0 0 0 0
theorem QDS (hx:Qe2 x) (hR:QgG r) (h9:¬ (9<r.visits.length∧r.visits.length≤20)) :
  ∃ A,QpL x r=some A∧QgN x r=some A∧A.1.times.length≤1048576∧(A.2≠0→A.1=Qrs) ∧
   (A.2=0→(Qvx x r=true∧r.rests.length≤r.visits.length+1)∧∃ b,QBx x.net (typS x r) (QaB x r) r.start r.rests b∧minB x.net (typS x r) (QaB x r) r.start r.rests b∧A.1=(lbB x.net (typS x r) (QaB x r) r.start b).sheet):=by
 obtain ⟨A,hA,pA⟩:=QDR hx hR h9
 obtain ⟨B,hB,pB⟩:=QyQ hx hR h9
 have hv:=hR.visits
 have hr:=hR.rests
 have key:A=B∧A.1.times.length≤1048576∧(A.2≠0→A.1=Qrs)∧(A.2=0→(Qvx x r=true∧r.rests.length≤r.visits.length+1)∧∃ b,QBx x.net (typS x r) (QaB x r) r.start r.rests b∧minB x.net (typS x r) (QaB x r) r.start r.rests b∧A.1=(lbB x.net (typS x r) (QaB x r) r.start b).sheet):=by
  rcases pA with ⟨a1,a2⟩|⟨a1,a2⟩
  ·rcases pB with ⟨_,b2⟩|⟨b1,_⟩
   ·rw [a2,b2]; exact ⟨rfl,Nat.zero_le _,fun _=>rfl,fun h=>by cases h⟩
   ·exact absurd b1 a1
  ·rcases pB with ⟨b1,_⟩|⟨_,b2⟩
   ·exact absurd a1 b1
   ·rcases a2 with ⟨a,fa,ma,ea⟩|⟨na,ea⟩
    ·rcases b2 with ⟨b,fb,mb,eb⟩|⟨nb,eb⟩
     ·have hab:=QF9 fa fb ma mb
      rw [ea,eb,hab]
      refine ⟨rfl,?_,fun h=>absurd rfl h,fun _=>⟨a1,b,fb,mb,rfl⟩⟩
      have h1:=QFY (n:=x.net) (t:=typS x r) (stops:=QaB x r) (start:=r.start) (b:=b)
      have h2:=fb.1
      rw [Qnq] at h2
      have:=(of_decide_eq_true (QqD a1.1)).2.2.2.2
      show (lbB x.net (typS x r) (QaB x r) r.start b).sheet.times.length≤_
      omega
     ·exact absurd fa (nb a)
    ·rcases b2 with ⟨b,fb,mb,eb⟩|⟨nb,eb⟩
     ·exact absurd fb (na b)
     ·rw [ea,eb]
      have hno:¬ okB x.net (typS x r) (QaB x r) r.start (r.rests++List.replicate (r.visits.length+1-r.rests.length) false):=fun hok=>by
       refine na _ ⟨?_,?_,hok⟩
       ·rw [Qnq,List.length_append,List.length_replicate]; omega
       ·rw [← Qt0]; exact QB9
      obtain ⟨n1,n2⟩:=QyS hno
      refine ⟨rfl,?_,fun _=>by rw [n2],fun h=>absurd h n1⟩
      rw [n2]; exact Nat.zero_le _
 exact ⟨A,hA,by rw [key.1]; exact hB,key.2.1,key.2.2.1,key.2.2.2⟩
structure EvOK (x:Qad) (r:Qac) (s:Qao) (b:List Bool):Prop where
 type_:0≤r.type_∧r.type_<x.types.length
 seq:seqS x r.visits=0
 able:∀ v∈r.visits,Qu0 x r v=true
 fits:fitS x r=0
 poss:Qvx x r=true
 rests:r.rests.length≤r.visits.length+1
 full:QBx x.net (typS x r) (QaB x r) r.start r.rests b
 min:minB x.net (typS x r) (QaB x r) r.start r.rests b
 sheet:s=(lbB x.net (typS x r) (QaB x r) r.start b).sheet
theorem QEQ (hx:Qe2 x) (hR:QgG r) (h9:¬ (9<r.visits.length∧r.visits.length≤20)) :
  ∃ E,Qfu x r=some E∧Qd3 x r=some E∧E.1.times.length≤1048576∧(E.2.2≠0→E.1=Qrs∧E.2.1=QDz)∧(E.2.2=0→E.2.1=scoS x r E.1∧∃ b,EvOK x r E.1 b):=by
 have hv:=hR.visits
 unfold Qfu Qd3
 by_cases ht:0≤r.type_∧r.type_<x.types.length
 ·rw [Qa3 (by simp [lenI]; omega),Qa3 (by simp [lenI]; omega),Qxv hx hv,Qaj,Qyg hx hv,Qaj]
  by_cases hs:seqS x r.visits=0
  ·have hq:=Qxs hs
   have h20:=hq.short hx
   rw [Qa3 (by simpa using hs),Qa3 (by simpa using hs)]
   have a1:Qso x r=some (if r.visits.any (fun v=>!Qu0 x r v)=true then 18 else 0):=by
    unfold Qso
    rw [Qch (QeX (B:=fun s=>QgE x r s) hv (fun v=>!Qu0 x r v) (y:=(.inr 18:Unit⊕Int)) (N:=.inl ()) (fun i a h=>by
     obtain ⟨o,g1,g2,g3,_⟩:=QEH (r:=r) hx ht (QoB hq.inn (List.mem_of_getElem? h))
     show QgE x r i=_
     unfold QgE
     rw [QbP h,(QBt ht.1 ht.2).1,Qaj,g1,Qaj,g2,Qaj,incL h hv]
     cases Qu0 x r a <;> rfl) (by
     show QgE x r r.visits.length=_
     unfold QgE
     rw [Qbj]))]
    split <;> rfl
   have a2:QaW (fun s=>QbM x r s) 0=some (if r.visits.any (fun v=>!Qu0 x r v)=true then .inr (Qrs,QDz,18) else .inl ()) :=
    QeX (B:=fun s=>QbM x r s) hv (fun v=>!Qu0 x r v) (y:=(.inr (Qrs,QDz,18):Unit⊕(Qao×QaE×Int))) (N:=.inl ()) (fun i a h=>by
     obtain ⟨o,g1,g2,g3,_⟩:=QEH (r:=r) hx ht (QoB hq.inn (List.mem_of_getElem? h))
     show QbM x r i=_
     unfold QbM
     have hlt:=(List.getElem?_eq_some_iff.1 h).1
     rw [Qa8 (by simp [lenI]; omega),(QBt ht.1 ht.2).1,Qaj,QaV h,Qaj,g1,Qaj,g3,Qaj,incL h hv]
     cases Qu0 x r a <;> rfl) (by
     show QbM x r r.visits.length=_
     unfold QbM
     rw [Qa3 (by simp [lenI])])
   rw [a1,Qaj,a2,Qaj]
   by_cases hab:r.visits.any (fun v=>!Qu0 x r v)=true
   ·rw [if_pos hab,if_pos hab,Qa8 (by decide),QjR]
    exact ⟨_,rfl,rfl,Nat.zero_le _,fun _=>⟨rfl,rfl⟩,fun h=>by cases h⟩
   ·rw [if_neg hab,if_neg hab,Qa3 (by decide),Qf9]
    obtain ⟨f1,f2⟩:=QGD (r:=r) hx (by omega) hs ht
    rw [f1,Qaj,f2,Qaj]
    by_cases hf:fitS x r=0
    ·rw [Qa3 (by simpa using hf),Qa3 (by simpa using hf)]
     obtain ⟨A,hA,hB,ht',hz,hfull⟩:=QDS hx hR h9
     rw [hA,Qaj,hB,Qaj]
     by_cases hA2:A.2=0
     ·rw [Qa3 (by simpa using hA2),Qa3 (by simpa using hA2),QFw hx hv ht,Qaj,QBF hx hv ht,Qaj]
      obtain ⟨⟨p1,p2⟩,b,fb,mb,eb⟩:=hfull hA2
      refine ⟨_,rfl,rfl,ht',fun h=>absurd rfl h,fun _=>⟨rfl,b,ht,hs,fun v hv'=>?_,hf,p1,p2,fb,mb,eb⟩⟩
      have:=List.any_eq_false.1 (by simpa using hab:r.visits.any (fun v=>!Qu0 x r v)=false) v hv'
      simpa using this
     ·rw [Qa8 (by simpa using hA2),Qa8 (by simpa using hA2)]
      exact ⟨_,rfl,rfl,Nat.zero_le _,fun _=>⟨rfl,rfl⟩,fun h=>absurd h hA2⟩
    ·rw [Qa8 (by simpa using hf),Qa8 (by simpa using hf)]
     exact ⟨_,rfl,rfl,Nat.zero_le _,fun _=>⟨rfl,rfl⟩,fun h=>absurd h hf⟩
  ·rw [Qa8 (by simpa using hs),Qa8 (by simpa using hs)]
   exact ⟨_,rfl,rfl,Nat.zero_le _,fun _=>⟨rfl,rfl⟩,fun h=>absurd h hs⟩
 ·rw [Qa8 (by simp [lenI]; omega),Qa8 (by simp [lenI]; omega)]
  exact ⟨_,rfl,rfl,Nat.zero_le _,fun _=>⟨rfl,rfl⟩,fun h=>by cases h⟩
theorem QBE (hx:Qe2 x) (hR:QgG r) (h9:¬ (9<r.visits.length∧r.visits.length≤20)):∃ w,Qec x r=some w∧QeU x r=some w:=by
 obtain ⟨E,e1,e2,e3,e4,e5⟩:=QEQ hx hR h9
 obtain ⟨w,w1,w2⟩:=QDM E.2.1
 unfold Qec QeU
 rw [e1,Qaj,e2,Qaj,w1,Qaj,w2,Qaj,brs]
 exact ⟨_,rfl,rfl⟩
end
end Go.Proofs.YtoedkepcaigkeaaGreatDoor
namespace Go.Proofs.YtoedkepcaigkeaaGreatDoor
set_option linter.unusedSimpArgs false
set_option linter.unusedVariables false
set_option linter.unusedSectionVars false
section
variable {n : Qal} {t : Qak} {stops : List Qaw} {start : Int}
theorem QFi (hT:Qnx n t stops):∀ (b:List Bool) (k:Nat) (l:Qag),LabI k l→k+b.length≤stops.length→(runK n t stops b k l).2=0→l.ready≤(runK n t stops b k l).1.ready
 | [],k,l,hl,_,_=>Int.le_refl _
 | a :: b,k,l,hl,hk,h=>by
  simp only [runK] at h ⊢
  simp only [List.length_cons] at hk
  by_cases h0:(nxt n t stops l k a).2=0
  ·rw [if_neg (by simpa using h0)] at h ⊢
   have h1:=QFi hT b (k+1) _ (QyJ hT hl (by omega) h0) (by omega) h
   refine Int.le_trans ?_ h1
   obtain ⟨g0,g1,g2,g3⟩:=QwZ hT hl h0
   have hb:=Qyy hT.net (Qzd (rest:=a) hT hl) g0
   have hS:=hT.stopK k
   have:=hS.serv0
   have hr:=hT.rest
   rw [g3]
   have hd:l.ready≤depS t l a:=by unfold depS; split <;> omega
   show l.ready≤max _ _+_
   omega
  ·rw [if_pos h0] at h; exact absurd h h0
theorem QFW (hT:Qnx n t stops) (hs:0≤start∧start≤4096) {b:List Bool} (hl:b.length=stops.length+1) (hok:okB n t stops start b) :
  t.open_≤(lbB n t stops start b).sheet.end_∧(lbB n t stops start b).sheet.end_≤t.close∧0≤(lbB n t stops start b).sheet.miles∧(lbB n t stops start b).sheet.miles≤210000:=by
 obtain ⟨b0,c,rfl⟩:∃ b0 c,b=b0++[c]:=by
  rcases List.eq_nil_or_concat b with rfl|⟨b0,c,rfl⟩
  ·simp at hl
  ·exact ⟨b0,c,by simp⟩
 have hb0:b0.length=stops.length:=by simpa using hl
 obtain ⟨o1,o2⟩:=Qsc.1 hok
 have hL:=Qv7 hT hs (by omega) o1
 obtain ⟨g0,g1,g2,g3⟩:=QwZ hT hL o2
 have hb:=Qyy hT.net (Qzd (rest:=c) hT hL) g0
 have hge:t.open_≤(lbB n t stops start b0).ready:=by
  have:=QFi hT b0 0 (begS t start) (Qyi hT hs) (by omega) o1
  have h2:t.open_≤(begS t start).ready:=by show t.open_≤max t.open_ start; omega
  exact Int.le_trans h2 this
 have hn:¬ b0.length<stops.length:=by omega
 have hm0:=hL.miles0
 have hm1:=hL.miles1
 have hfew:=hT.few
 have hr:=hT.rest
 have hd:(lbB n t stops start b0).ready≤depS t (lbB n t stops start b0) c:=by unfold depS; split <;> omega
 rw [Qv8 hok,g3]
 rw [QsL hn] at hb g1 ⊢
 have g1':(goN n t.profile (Qqw t stops b0.length) (endS t).place (depS t (lbB n t stops start b0) c)).1≤t.close:=g1
 show t.open_≤(if b0.length<stops.length then _ else _:Int)∧(if b0.length<stops.length then _ else _:Int)≤t.close∧0≤(lbB n t stops start b0).sheet.miles+_∧(lbB n t stops start b0).sheet.miles+_≤210000
 rw [if_neg hn]
 omega
end
section
variable {x : Qad} {l : List Qaa} {r : Qac}
theorem EvOK.facts (hx:Qe2 x) {s:Qao} {b:List Bool} (h:EvOK x r s b) :
  (typS x r).open_≤s.end_∧s.end_≤(typS x r).close∧0≤s.miles∧s.miles≤210000∧Qwx s=b∧s.times.length=r.visits.length∧b.length=r.visits.length+1∧r.visits.length≤20:=by
 have h5:=of_decide_eq_true (QqD h.poss)
 have hT:=QED hx h.poss
 obtain ⟨e1,e2,e3,e4⟩:=QFW hT ⟨h5.2.2.1,h5.2.2.2.1⟩ h.full.1 h.full.2.2
 obtain ⟨r1,r2⟩:=QC5 hx h.poss h.full.1 h.full.2.2
 have hsl:=Qnq (x:=x) (r:=r)
 have hl:=h.full.1
 rw [h.sheet]
 exact ⟨e1,e2,e3,e4,r1,by omega,by omega,h5.2.2.2.2⟩
end
end Go.Proofs.YtoedkepcaigkeaaGreatDoor
namespace Go.Proofs.YtoedkepcaigkeaaGreatDoor
set_option linter.unusedSimpArgs false
set_option linter.unusedVariables false
set_option linter.unusedSectionVars false
def QA5 {α S E:Type} (f:S→α→S⊕E) (N:S→E):S→List α→E
 | s,[]=>N s
 | s,a :: r=>match f s a with
  | .inl s'=>QA5 f N s' r
  | .inr e=>e
theorem QxH {α S E:Type} {f:S→α→S⊕E} {N:S→E} {s s':S} {a:α} {r:List α} (h:f s a=.inl s'):QA5 f N s (a :: r)=QA5 f N s' r:=by rw [QA5,h]
theorem QD2 {α S E:Type} {f:S→α→S⊕E} {N:S→E} {s:S} {a:α} {r:List α} {e:E} (h:f s a=.inr e):QA5 f N s (a :: r)=e:=by rw [QA5,h]
theorem QyE {α S E:Type} {l:List α} (hl:l.length≤1048576) (f:S→α→S⊕E) (N:S→E) (Inv:Nat→S→Prop) {B:S×Int→Option ((S×Int)⊕E)}
  (hin:∀ (s:S) (i:Nat) (a:α),l[i]?=some a→Inv i s→B (s,(i:Int))=some (match f s a with|.inl s'=>.inl (s',(i:Int)+1)|.inr e=>.inr e)∧∀ s',f s a=.inl s'→Inv (i+1) s')
  (hend:∀ s,Inv l.length s→B (s,(l.length:Int))=some (.inr (N s))) {s0:S} (h0:Inv 0 s0):QaW B (s0,0)=some (QA5 f N s0 l):=by
 have main:∀ (m:List α) (k:Nat) (s:S),l.drop k=m→k≤l.length→Inv k s→QvL B (m.length+1) (s,(k:Int))=some (QA5 f N s m):=by
  intro m
  induction m with
  | nil =>
   intro k s hd hk hi
   have:k=l.length:=by
    have:=congrArg List.length hd
    rw [List.length_drop,List.length_nil] at this
    omega
   subst this
   simp only [List.length_nil,QvL]
   rw [hend s hi]
   rfl
  | cons a m ih =>
   intro k s hd hk hi
   have hk':k<l.length:=Nat.lt_of_not_le fun h=>by rw [List.drop_eq_nil_of_le h] at hd; cases hd
   have hcons:=List.drop_eq_getElem_cons hk'
   rw [hd] at hcons
   injection hcons with h1 h2
   have e:l[k]?=some a:=by rw [List.getElem?_eq_getElem hk',← h1]
   obtain ⟨g1,g2⟩:=hin s k a e hi
   rw [List.length_cons,QvL,g1]
   show _=some (match f s a with|.inl s'=>QA5 f N s' m|.inr e=>e)
   cases hf:f s a with
   | inl s'=>exact ih (k+1) s' h2.symm hk' (g2 s' hf)
   | inr e=>rfl
 have:=main l 0 s0 rfl (Nat.zero_le _) h0
 exact QrN (l.length+1) (by unfold QoM; omega) this
end Go.Proofs.YtoedkepcaigkeaaGreatDoor
namespace Go.Proofs.YtoedkepcaigkeaaGreatDoor
set_option linter.unusedSimpArgs false
set_option linter.unusedVariables false
set_option linter.unusedSectionVars false
def QIW:Qaq:=Qaq.mk 0 0 0 false
def QwG (r:Qac):Prop:=¬ (9<r.visits.length∧r.visits.length≤20)
section
variable {x : Qad} {r : Qac} {s : Qao} {now : Int}
noncomputable def evX (x:Qad) (r:Qac):Qao×QaE×Int:=(Qfu x r).getD (Qrs,QDz,0)
theorem Qz6 (hx:Qe2 x) (hR:QgG r) (h9:QwG r):Qfu x r=some (evX x r)∧Qd3 x r=some (evX x r)∧(evX x r).1.times.length≤1048576∧((evX x r).2.2≠0→(evX x r).1=Qrs∧(evX x r).2.1=QDz)∧((evX x r).2.2=0→(evX x r).2.1=scoS x r (evX x r).1∧∃ b,EvOK x r (evX x r).1 b):=by
 obtain ⟨E,e1,e2,e3,e4,e5⟩:=QEQ hx hR h9
 have:evX x r=E:=by unfold evX; rw [e1]; rfl
 rw [this]
 exact ⟨e1,e2,e3,e4,e5⟩
theorem EvOK.visit (hx:Qe2 x) {b:List Bool} (h:EvOK x r s b) {k:Nat} (hk:k<r.visits.length):∃ v o,r.visits[k]?=some v∧getI x.orders v.order=some o∧Qw7 x v=some ((QaB x r).getD k QDH)∧atS v o=(QaB x r).getD k QDH∧s.times[k]?=some (s.times.getD k QIW):=by
 have hf:=h.facts hx
 have hsl:=Qnq (x:=x) (r:=r)
 have e0:(QaB x r)[k]?=some ((QaB x r).getD k QDH):=by rw [List.getD_eq_getElem?_getD,List.getElem?_eq_getElem (show k<(QaB x r).length by omega)]; rfl
 obtain ⟨v,v1,v2⟩:=QzK h.poss e0
 have hin:=QoB (Qxs h.seq).inn (List.mem_of_getElem? v1)
 obtain ⟨o,g1,g2,g3,g4⟩:=QAv (x:=x) hin.1 hin.2
 refine ⟨v,o,v1,g1,v2,?_,?_⟩
 ·unfold Qw7 at v2
  rw [if_pos hin.1,g4] at v2
  simp only at v2
  split at v2
  ·exact Option.some.inj v2
  ·cases v2
 ·rw [List.getD_eq_getElem?_getD,List.getElem?_eq_getElem (show k<s.times.length by have:=hf.2.2.2.2.2.1; omega)]; rfl
theorem Qx7 {α:Type} {l:List α} {k:Nat} (h:k≤l.length):slcI l 0 (k:Int)=some (l.take k):=by
 unfold slcI
 rw [if_pos ⟨by omega,by omega,by omega⟩]
 simp
theorem QBh {a:List Qac} (h:a.length≤1048576) (hr:∀ r∈a,r.visits.length≤1048576∧r.rests.length≤1048576):Qfo a a=some true:=by
 unfold Qfo
 rw [Qa3 (by simp)]
 have:=QeX (B:=fun q=>QbK a a q) h (fun _=>false) (y:=(.inr false:Unit⊕Bool)) (N:=.inl ()) (fun i r e=>by
  obtain ⟨h1,h2⟩:=hr r (List.mem_of_getElem? e)
  have l2:=QeX (B:=fun q=>QbL a a (i:Int) q) h1 (fun _=>false) (y:=(.inr false:Unit⊕Bool)) (N:=.inl ()) (fun k v ek=>by
   show QbL a a (i:Int) k=_
   unfold QbL
   rw [QaV e,Qaj,QbP ek,Qaj,QaV ek,Qaj,Qa8 (by simp),incL ek h1]
   rfl) (by
   show QbL a a (i:Int) r.visits.length=_
   unfold QbL
   rw [QaV e,Qaj,Qbj])
  have l3:=QeX (B:=fun q=>Qby a a (i:Int) q) h2 (fun _=>false) (y:=(.inr false:Unit⊕Bool)) (N:=.inl ()) (fun k v ek=>by
   show Qby a a (i:Int) k=_
   unfold Qby
   rw [QaV e,Qaj,QbP ek,Qaj,QaV ek,Qaj,Qa8 (by simp),incL ek h2]
   rfl) (by
   show Qby a a (i:Int) r.rests.length=_
   unfold Qby
   rw [QaV e,Qaj,Qbj])
  simp only [List.any_eq_true,Bool.false_eq_true,and_false,exists_false,if_false] at l2 l3
  show QbK a a i=_
  unfold QbK
  rw [QbP e,QaV e,Qaj,Qa3 (by simp),Qa3 (by simp),Qa3 (by simp),Qa3 (by simp),Qch l2,Qf9,Qch l3,Qf9,incL e h]
  rfl) (by
  show QbK a a a.length=_
  unfold QbK
  rw [Qbj])
 simp only [List.any_eq_true,Bool.false_eq_true,and_false,exists_false,if_false] at this
 rw [Qch this]
 rfl
end
end Go.Proofs.YtoedkepcaigkeaaGreatDoor
namespace Go.Proofs.YtoedkepcaigkeaaGreatDoor
set_option linter.unusedSimpArgs false
set_option linter.unusedVariables false
set_option linter.unusedSectionVars false
def Qh9 {α:Type} [DecidableEq α] (l first:List α):Bool:=decide (l.take first.length=first)
theorem QDl {α:Type} [DecidableEq α] {l first:List α} (hlen:first.length≤l.length):(!Qh9 l first)=true↔∃ k,k<first.length∧(match first[k]?,l[k]? with|some a,some b=>!decide (a=b)|_,_=>false)=true:=by
 unfold Qh9
 rw [Bool.not_eq_true',decide_eq_false_iff_not]
 constructor
 ·intro h
  refine Classical.byContradiction fun hn=>h (List.ext_getElem? fun i=>?_)
  rcases Nat.lt_or_ge i first.length with hi|hi
  ·rw [List.getElem?_take_of_lt hi]
   refine Classical.byContradiction fun hne=>hn ⟨i,hi,?_⟩
   rw [List.getElem?_eq_getElem hi,List.getElem?_eq_getElem (show i<l.length by omega)] at hne ⊢
   simp only [Bool.not_eq_true',decide_eq_false_iff_not]
   exact fun he=>hne (by rw [he])
  ·rw [List.getElem?_eq_none (by rw [List.length_take]; omega),List.getElem?_eq_none hi]
 ·rintro ⟨k,hk,h⟩ he
  rw [List.getElem?_eq_getElem hk,List.getElem?_eq_getElem (show k<l.length by omega)] at h
  simp only [Bool.not_eq_true',decide_eq_false_iff_not] at h
  have e1:(l.take first.length)[k]?=some (l[k]'(by omega)):=by rw [List.getElem?_take_of_lt hk,List.getElem?_eq_getElem]
  rw [he,List.getElem?_eq_getElem hk] at e1
  exact h (Option.some.inj e1)
theorem QsK {α E:Type} [DecidableEq α] {l first:List α} {q:α→α→Bool} (hq:∀ a b,q a b=true↔a=b) (hlen:first.length≤l.length) (hf:first.length≤1048576) {B:Int→Option (Int⊕E)} {y N:E}
  (hin:∀ (i:Nat) a b,first[i]?=some a→l[i]?=some b→B (i:Int)=br (q b a) (some (.inl ((i:Int)+1))) (some (.inr y))) (hend:B (first.length:Int)=some (.inr N)):QaW B 0=some (if Qh9 l first=true then N else y):=by
 rw [QwD hf _ (b:=!Qh9 l first) (QDl hlen) (fun i hi=>?_) hend]
 ·cases Qh9 l first <;> rfl
 ·have e1:first[i]?=some first[i]:=List.getElem?_eq_getElem hi
  have e2:l[i]?=some (l[i]'(by omega)):=List.getElem?_eq_getElem _
  rw [hin i _ _ e1 e2,e1,e2]
  simp only
  have:q (l[i]'(by omega)) first[i]=decide (first[i]=l[i]'(by omega)):=by
   rw [Bool.eq_iff_iff,hq,decide_eq_true_iff]
   exact ⟨fun h=>h.symm,fun h=>h.symm⟩
  rw [this]
  by_cases hh:first[i]=l[i]'(by omega)
  ·simp [hh]
  ·simp [hh]
theorem QBs {α:Type} [DecidableEq α] {a b:List α} (h:a.length=b.length):Qh9 a b=decide (a=b):=by
 unfold Qh9
 rw [List.take_of_length_le (by omega)]
theorem QsJ {α:Type} [DecidableEq α] {l first:List α} (h:l.length<first.length):Qh9 l first=false:=by
 unfold Qh9
 rw [decide_eq_false_iff_not]
 intro he
 have:=congrArg List.length he
 rw [List.length_take] at this
 omega
def qV (a b:Qaa):Bool:=eqI a.order b.order&&(eqB a.drop b.drop&&true)
theorem qV_t (a b:Qaa):qV a b=true↔a=b:=by unfold qV; cases a; cases b; simp
theorem qB_t (a b:Bool):eqB a b=true↔a=b:=QH1
section
variable {x : Qad} {r b : Qac} {s : Qao} {now : Int}
def Qny (r b:Qac):Bool:=decide (r.type_=b.type_∧r.start=b.start)&&(Qh9 r.visits b.visits&&(Qh9 r.rests b.rests&&(leI (lenI b.rests) (lenI b.visits)||(eqI (lenI r.visits) (lenI b.visits)&&eqI (lenI r.rests) (lenI b.rests)))))
theorem QAR (hv:b.visits.length≤1048576) (hr:b.rests.length≤1048576):QhG r b=some (Qny r b):=by
 unfold QhG Qny
 by_cases h1:r.type_=b.type_∧r.start=b.start
 ·by_cases h2:b.visits.length≤r.visits.length
  ·by_cases h3:b.rests.length≤r.rests.length
   ·rw [Qa3 (by simp [lenI]; omega),decide_eq_true h1,Bool.true_and]
    have l1:=QsK (B:=fun q=>QcA r b q) qV_t h2 hv (y:=(.inr false:Unit⊕Bool)) (N:=.inl ()) (fun i a c e1 e2=>by
     show QcA r b i=_
     unfold QcA
     have:=(List.getElem?_eq_some_iff.1 e1).1
     rw [Qa8 (by simp [lenI]; omega),QaV e2,Qaj,QaV e1,Qaj,incL e1 hv]
     rfl) (by
     show QcA r b b.visits.length=_
     unfold QcA
     rw [Qa3 (by simp [lenI])])
    have l2:=QsK (B:=fun q=>Qb9 r b q) qB_t h3 hr (y:=(.inr false:Unit⊕Bool)) (N:=.inl ()) (fun i a c e1 e2=>by
     show Qb9 r b i=_
     unfold Qb9
     have:=(List.getElem?_eq_some_iff.1 e1).1
     rw [Qa8 (by simp [lenI]; omega),QaV e2,Qaj,QaV e1,Qaj,incL e1 hr]) (by
     show Qb9 r b b.rests.length=_
     unfold Qb9
     rw [Qa3 (by simp [lenI])])
    rw [Qch l1]
    cases Qh9 r.visits b.visits with
    | false=>rfl
    | true =>
     rw [if_pos rfl,Qf9,Qch l2,Bool.true_and]
     cases Qh9 r.rests b.rests <;> rfl
   ·rw [Qa8 (by simp [lenI]; omega),QsJ (l:=r.rests) (by omega)]
    simp
  ·rw [Qa8 (by simp [lenI]; omega),QsJ (l:=r.visits) (by omega)]
   simp
 ·rw [Qa8 (by simp; omega),decide_eq_false h1]
  rfl
end
end Go.Proofs.YtoedkepcaigkeaaGreatDoor
namespace Go.Proofs.YtoedkepcaigkeaaGreatDoor
set_option linter.unusedSimpArgs false
set_option linter.unusedVariables false
set_option linter.unusedSectionVars false
section
variable {x : Qad} {r b : Qac} {l : List Qac} {p : Qek}
theorem QD1 {a c:List Qaa} (h:a.length=c.length) (hl:c.length≤1048576):QbW a c=some (Qh9 c a):=by
 unfold QbW
 rw [Qa3 (by simp [lenI,h])]
 rw [Qch (QsK (B:=fun q=>QaY a c q) (l:=c) (first:=a) (q:=fun x y=>qV y x) (fun x y=>by rw [qV_t]; exact ⟨fun h=>h.symm,fun h=>h.symm⟩) (by omega) (by omega) (y:=(.inr false:Unit⊕Bool)) (N:=.inl ()) (fun i u v e1 e2=>by
  show QaY a c i=_
  unfold QaY
  rw [QbP e1,QaV e2,Qaj,incL e1 (by omega)]
  rfl) (by
  show QaY a c a.length=_
  unfold QaY
  rw [Qbj]))]
 cases Qh9 c a <;> rfl
theorem QD0 {a c:List Bool} (h:a.length=c.length) (hl:c.length≤1048576):QdW a c=some (Qh9 c a):=by
 unfold QdW
 rw [Qa3 (by simp [lenI,h])]
 rw [Qch (QsK (B:=fun q=>Qbo a c q) (l:=c) (first:=a) (q:=fun x y=>eqB y x) (fun x y=>by rw [qB_t]; exact ⟨fun h=>h.symm,fun h=>h.symm⟩) (by omega) (by omega) (y:=(.inr false:Unit⊕Bool)) (N:=.inl ()) (fun i u v e1 e2=>by
  show Qbo a c i=_
  unfold Qbo
  rw [QbP e1,QaV e2,Qaj,incL e1 (by omega)]) (by
  show Qbo a c a.length=_
  unfold Qbo
  rw [Qbj]))]
 cases Qh9 c a <;> rfl
theorem Qxu {α:Type} [DecidableEq α] {l first:List α} (h:first.length≤l.length):Qh9 first (l.take first.length)=Qh9 l first:=by
 rw [QBs (by rw [List.length_take]; omega)]
 unfold Qh9
 rw [Bool.eq_iff_iff,decide_eq_true_iff,decide_eq_true_iff]
 exact ⟨fun h=>h.symm,fun h=>h.symm⟩
theorem QDk {l first:List Qaa} (hf:first.length≤1048576):Qd1 l first=some (Qh9 l first):=by
 unfold Qd1
 by_cases h:first.length≤l.length
 ·rw [Qa8 (by simp [lenI]; omega),show slcI l 0 (lenI first)=_ from Qx7 h,Qaj,QD1 (by rw [List.length_take]; omega) hf,Qaj,Qxu h]
 ·rw [Qa3 (by simp [lenI]; omega),QsJ (by omega)]
theorem QBr {l first:List Bool} (hf:first.length≤1048576):Qgi l first=some (Qh9 l first):=by
 unfold Qgi
 by_cases h:first.length≤l.length
 ·rw [Qa8 (by simp [lenI]; omega),show slcI l 0 (lenI first)=_ from Qx7 h,Qaj,QD0 (by rw [List.length_take]; omega) hf,Qaj,Qxu h]
 ·rw [Qa3 (by simp [lenI]; omega),QsJ (by omega)]
theorem QAW (hv:b.visits.length≤1048576) (hr:b.rests.length≤1048576):Qla r b=some (Qny r b):=by
 unfold Qla Qny
 rw [QDk hv,Qaj,QBr hr,Qaj]
 have hq:(!gtI (lenI b.rests) (lenI b.visits))=leI (lenI b.rests) (lenI b.visits):=by rw [Bool.eq_iff_iff]; simp
 rw [hq]
 by_cases h1:r.type_=b.type_∧r.start=b.start
 ·rw [Qa3 (by simp; exact h1),decide_eq_true h1]
  cases Qh9 r.visits b.visits <;> cases Qh9 r.rests b.rests <;> rfl
 ·rw [Qa8 (by simp; omega),decide_eq_false h1]
  rfl
def QGz (a b:Qac):Bool:=a.visits.any fun v=>b.visits.any fun w=>eqI v.order w.order
theorem QHf (ha:r.visits.length≤1048576) (hb:b.visits.length≤1048576):QpI r b=some (QGz r b):=by
 have in1:∀ v,Qlb v b=some (b.visits.any fun w=>eqI v.order w.order):=fun v=>by
  have:=Qtp hb (fun w:Qaa=>eqI v.order w.order) (fun k=>(.inr (k:Int):Unit⊕Int)) (N:=.inl ()) (B:=fun s=>QaD b.visits v s) (fun i a h=>by
   show QaD b.visits v i=_
   unfold QaD Qk6
   rw [QbP h,Qaj,incL h hb,brs]) (by
   show QaD b.visits v b.visits.length=_
   unfold QaD
   rw [Qbj])
  have e:Qbg b.visits v=some (ixI (fun w:Qaa=>eqI v.order w.order) b.visits):=by
   unfold Qbg
   rw [Qch this]
   unfold ixI
   cases ixP (fun w:Qaa=>eqI v.order w.order) b.visits <;> rfl
  unfold Qlb Qbp
  rw [e,Qaj,Qaj,QoL]
 have:=Qtp ha (fun v:Qaa=>b.visits.any fun w=>eqI v.order w.order) (fun k=>(.inr (k:Int):Unit⊕Int)) (N:=.inl ()) (B:=fun s=>QaJ r.visits b s) (fun i a h=>by
  show QaJ r.visits b i=_
  unfold QaJ
  rw [QbP h,in1,Qaj,incL h ha,brs]) (by
  show QaJ r.visits b r.visits.length=_
  unfold QaJ
  rw [Qbj])
 have e:Qbk r.visits b=some (ixI (fun v:Qaa=>b.visits.any fun w=>eqI v.order w.order) r.visits):=by
  unfold Qbk
  rw [Qch this]
  unfold ixI
  cases ixP (fun v:Qaa=>b.visits.any fun w=>eqI v.order w.order) r.visits <;> rfl
 unfold QpI Qbu
 rw [e,Qaj,Qaj,QoL]
 rfl
def cntB (l:List Qac) (b:Qac):Int:=sumF (fun r=>if Qny r b=true then 1 else 0) l
def othB (l:List Qac) (b:Qac):Bool:=l.any fun r=>!Qny r b&&QGz r b
def QFU (p:Qek) (b:Qac):Bool:=eqI (cntB p.routes b) 1&&!othB p.routes b
def QE0 (b:Qac) (n:Int) (r:Qac):Int⊕(Int⊕Int):=if Qny r b=true then .inl (n+1) else if QGz r b=true then .inr (.inr 31) else .inl n
theorem QFs (hp:p.routes.length≤1048576) (hpr:∀ r∈p.routes,r.visits.length≤1048576) (hl:l.length≤1048576) (hlb:∀ b∈l,b.visits.length≤1048576∧b.rests.length≤1048576) :
  Qnz p l=some (if l.any (fun b=>!QFU p b)=true then 31 else 0):=by
 unfold Qnz
 rw [Qch (QeX (B:=fun s=>QeG p l s) hl (fun b=>!QFU p b) (y:=(.inr 31:Unit⊕Int)) (N:=.inl ()) (fun i b hb=>by
  obtain ⟨b1,b2⟩:=hlb b (List.mem_of_getElem? hb)
  show QeG p l i=_
  unfold QeG
  rw [QbP hb]
  have inner:QaW (fun s:Int×Int=>QeH p l (i:Int) b s.1 s.2) (0,0)=some (QA5 (QE0 b) (fun n=>(.inl n:Int⊕Int)) 0 p.routes) :=
   QyE hp (QE0 b) (fun n=>.inl n) (fun i n=>0≤n∧n≤i) (fun n k r e hn=>⟨by
    show QeH p l (i:Int) b n (k:Int)=_
    have hk:=(List.getElem?_eq_some_iff.1 e).1
    unfold QeH
    rw [QbP e,QAW b1 b2,Qaj,incL e hp,addI (by omega) (by omega),QHf (hpr r (List.mem_of_getElem? e)) b1,Qaj]
    unfold QE0
    cases Qny r b <;> cases QGz r b <;> rfl,fun s' hs=>by
    unfold QE0 at hs
    split at hs
    ·cases hs; omega
    ·split at hs
     ·cases hs
     ·cases hs; omega⟩) (fun n _=>by
    show QeH p l (i:Int) b n (p.routes.length:Int)=_
    unfold QeH
    rw [Qbj]) (by omega)
  have val:∀ (rs:List Qac) (n:Int),QA5 (QE0 b) (fun n=>(.inl n:Int⊕Int)) n rs=if othB rs b=true then .inr 31 else .inl (n+cntB rs b):=by
   intro rs
   induction rs with
   | nil=>intro n; show Sum.inl n=_; rw [if_neg (by simp [othB])]; simp [cntB,sumF]
   | cons r rs ih =>
    intro n
    have e1:othB (r :: rs) b=(!Qny r b&&QGz r b||othB rs b):=by simp [othB]
    have e2:cntB (r :: rs) b=(if Qny r b=true then 1 else 0)+cntB rs b:=by simp [cntB,sumF]
    rw [e1,e2]
    cases hbg:Qny r b with
    | true =>
     rw [QxH (s':=n+1) (by unfold QE0; simp [hbg]),ih]
     simp only [Bool.not_true,Bool.false_and,Bool.false_or,if_true]
     rw [show n+1+cntB rs b=n+(1+cntB rs b) by omega]
    | false =>
     cases hm:QGz r b with
     | true=>rw [QD2 (e:=.inr 31) (by unfold QE0; simp [hbg,hm])]; simp
     | false=>rw [QxH (s':=n) (by unfold QE0; simp [hbg,hm]),ih]; simp
  rw [Qch inner,val,incL hb hl]
  have hK:QFU p b=(eqI (cntB p.routes b) 1&&!othB p.routes b):=rfl
  generalize QFU p b=K at hK ⊢
  rw [hK]
  cases othB p.routes b with
  | true=>rw [if_pos rfl,QjR]; simp
  | false =>
   rw [if_neg (by decide),Qf9,Int.zero_add,QDC]
   by_cases h1:cntB p.routes b=1
   ·simp [h1]
   ·simp [h1]) (by
  show QeG p l l.length=_
  unfold QeG
  rw [Qbj]))]
 cases l.any (fun b=>!QFU p b) <;> rfl
def begB (l:List Qac) (i:Nat):Bool:=decide (i≤62)&&l.any fun r=>hasO r.visits (i:Int)
theorem lt63 {m:Nat} {f:Nat→Bool} (hb:∀ i,m.testBit i=(decide (i≤62)&&f i)):m<9223372036854775808:=by
 refine Nat.lt_pow_two_of_testBit (n:=63) _ fun i hi=>?_
 rw [hb,decide_eq_false (by omega)]
 rfl
theorem QFz {l:List Qac} {v:Int} {r:Qac} (hr:r.visits.length≤1048576) {m:Nat} {f:Nat→Bool} (hm:∀ i,m.testBit i=(decide (i≤62)&&f i)) :
  post (QaW (fun s:Int×Int=>QgI l v r s.1 s.2) ((m:Int),0)) fun s=>∃ m':Nat,s=m'∧∀ i,m'.testBit i=(decide (i≤62)&&(f i||hasO r.visits (i:Int))):=by
 refine QdA (fun s=>∃ (k m':Nat),s=((m':Int),(k:Int))∧k≤r.visits.length∧∀ i,m'.testBit i=(decide (i≤62)&&(f i||hasO (r.visits.take k) (i:Int)))) (fun s=>r.visits.length-s.2.toNat) ⟨0,m,rfl,Nat.zero_le _,fun i=>by rw [hm]; simp [hasO]⟩ (by simp; omega) ?_
 rintro _ ⟨k,m',rfl,hk,hb⟩
 show post (QgI l v r (m':Int) (k:Int)) _
 have hm63:=lt63 hb
 unfold QgI
 rcases Nat.lt_or_ge k r.visits.length with h|h
 ·have e:r.visits[k]?=some r.visits[k]:=List.getElem?_eq_getElem h
  generalize r.visits[k]=w at e
  have hov:∀ i:Nat,hasO (r.visits.take (k+1)) (i:Int)=(hasO (r.visits.take k) (i:Int)||decide (w.order=(i:Int))):=fun i=>by
   rw [Qpz e]
   unfold hasO
   rw [List.any_append,List.any_cons,List.any_nil,Bool.or_false]
   congr 1
  rw [QbP e,incL e hr]
  refine QaU (fun hc=>?_) (fun hc=>QeV ⟨⟨k+1,m',rfl,h,fun i=>?_⟩,by simp; omega⟩)
  ·simp only [Bool.and_eq_true,QtX,QyA] at hc
   obtain ⟨o,ho⟩:∃ o:Nat,w.order=o:=⟨w.order.toNat,by omega⟩
   have hp:2 ^ o≤2 ^ 62:=Nat.pow_le_pow_right (by omega) (by omega)
   rw [ho,QdX (by omega),shlN (by omega),orN hm63 (by omega)]
   refine QeV ⟨⟨k+1,m' ||| 2 ^ o,rfl,h,fun i=>?_⟩,by simp; omega⟩
   rw [Nat.testBit_or,Nat.testBit_two_pow,hb,hov,ho]
   by_cases hi:o=i
   ·subst hi; simp; omega
   ·rw [decide_eq_false hi,decide_eq_false (show ¬ ((o:Int)=(i:Int)) by omega),Bool.or_false,Bool.or_false]
  ·rw [hb,hov]
   by_cases hi:i≤62
   ·have:¬ w.order=(i:Int):=fun he=>by
     rw [he] at hc
     simp only [Bool.and_eq_false_iff,QD4,QHc] at hc
     omega
    rw [decide_eq_false this,Bool.or_false]
   ·rw [decide_eq_false hi]; rfl
 ·obtain rfl:k=r.visits.length:=by omega
  rw [Qbj]
  exact QcT ⟨m',rfl,fun i=>by rw [hb,List.take_length]⟩
theorem QBB (hl:l.length≤1048576) (hr:∀ r∈l,r.visits.length≤1048576):post (QgH l) fun s=>∃ m:Nat,s=m∧∀ i,m.testBit i=begB l i:=by
 unfold QgH
 refine Qa5 (R:=fun s=>∃ m:Nat,s=m∧∀ i,m.testBit i=begB l i) ?_ fun s h=>Qav.2 h
 refine QdA (fun s=>∃ (k m:Nat),s=((m:Int),(k:Int))∧k≤l.length∧∀ i,m.testBit i=begB (l.take k) i) (fun s=>l.length-s.2.toNat) ⟨0,0,rfl,Nat.zero_le _,fun i=>by simp [begB]⟩ (by simp; omega) ?_
 rintro _ ⟨k,m,rfl,hk,hb⟩
 show post (QhI l (m:Int) (k:Int)) _
 unfold QhI
 rcases Nat.lt_or_ge k l.length with h|h
 ·have e:l[k]?=some l[k]:=List.getElem?_eq_getElem h
  have hm:=List.getElem_mem h
  generalize l[k]=r at e hm
  rw [QbP e,incL e hl]
  refine Qa5 (QFz (hr r hm) (f:=fun i=>(l.take k).any fun r=>hasO r.visits (i:Int)) hb) fun s ⟨m',hs,hb'⟩=>QeV ⟨⟨k+1,m',by rw [hs]; rfl,h,fun i=>?_⟩,by simp; omega⟩
  rw [hb',Qpz e]
  unfold begB
  rw [List.any_append,List.any_cons,List.any_nil,Bool.or_false]
 ·obtain rfl:k=l.length:=by omega
  rw [Qbj]
  exact QcT ⟨m,rfl,fun i=>by rw [hb,List.take_length]⟩
end
end Go.Proofs.YtoedkepcaigkeaaGreatDoor
namespace Go.Proofs.YtoedkepcaigkeaaGreatDoor
set_option linter.unusedSimpArgs false
set_option linter.unusedVariables false
set_option linter.unusedSectionVars false
theorem QHg {n:Qal} (h:Qal.ok 1048576 n):NetI n:=by
 obtain ⟨⟨h1,h2⟩,⟨h3,h4⟩,_⟩:=h
 refine ⟨h1,h3,h2,fun a ha=>?_⟩
 obtain ⟨_,_,_,_,⟨h5,h6⟩,⟨h7,h8⟩,_⟩:=h4 a ha
 exact ⟨h5,h7,fun p hp=>⟨(h6 p hp).1,(h6 p hp).2.1⟩,fun p hp=>⟨(h8 p hp).1,(h8 p hp).2.1⟩⟩
end Go.Proofs.YtoedkepcaigkeaaGreatDoor
namespace Go.Proofs.YtoedkepcaigkeaaGreatDoor
set_option linter.unusedSimpArgs false
set_option linter.unusedVariables false
set_option linter.unusedSectionVars false
theorem QxK {x:Qad} (h:Qad.ok 1048576 x):QFr x:=by
 obtain ⟨h0,⟨h1,h2⟩,⟨h3,h4⟩,⟨h5,_⟩,⟨h6,_⟩,_⟩:=h
 refine ⟨QHg h0,h1,h3,h5,h6,fun t ht=>?_,fun o ho=>?_⟩
 ·obtain ⟨a,_,_,_,⟨b,_⟩,_⟩:=h2 t ht
  exact ⟨a,b⟩
 ·obtain ⟨a,⟨b,_⟩,_⟩:=h4 o ho
  exact ⟨a,b⟩
theorem Qup {r:Qac} (h:Qac.ok 1048576 r):QgG r:=by
 obtain ⟨h0,h1,⟨h2,_⟩,⟨h3,_⟩,_⟩:=h
 exact ⟨h0,h1,h2,h3⟩
end Go.Proofs.YtoedkepcaigkeaaGreatDoor
