/- Part MR of the proof: texts Yra Yrb Yrc Yrd Yre Yrf Yrg Yrh Yri Yrj Yta Ytb Ytc Ytd Yte Ytf Yqz Yqzd Yvz. -/
import Derived.Test.YtpkkaboonnedfaaGreatDoorMP
import Derived.Test.YtpkkaboonnedfaaGreatDoorMQ
import Derived.Test.YtpkkaboonnedfaaGreatDoorMT
namespace Go.Proofs.YtpkkaboonnedfaaGreatDoor
set_option linter.unusedSimpArgs false
set_option linter.unusedVariables false
set_option linter.unusedSectionVars false
def ixP {α:Type} (p:α→Bool):List α→Option Nat
 | []=>none
 | a :: r=>if p a=true then some 0 else (ixP p r).map (·+1)
section
variable {α : Type} {p : α → Bool}
theorem QqY {l:List α} {k:Nat} (h:ixP p l=some k):∃ hk:k<l.length,p l[k]=true∧∀ j (hj:j<k),p (l[j]'(by omega))=false:=by
 induction l generalizing k with
 | nil=>cases h
 | cons a r ih =>
  unfold ixP at h
  split at h
  ·cases h
   exact ⟨by simp,by simpa,fun j hj=>by omega⟩
  ·rename_i ha
   rw [Option.map_eq_some_iff] at h
   obtain ⟨m,hm,rfl⟩:=h
   obtain ⟨h1,h2,h3⟩:=ih hm
   refine ⟨by simp; omega,by simpa using h2,fun j hj=>?_⟩
   cases j with
   | zero=>simpa using ha
   | succ j=>simpa using h3 j (by omega)
theorem QwC {l:List α} (h:ixP p l=none):∀ a∈l,p a=false:=by
 induction l with
 | nil=>simp
 | cons a r ih =>
  unfold ixP at h
  split at h
  ·cases h
  ·rename_i ha
   rw [Option.map_eq_none_iff] at h
   intro b hb
   rcases List.mem_cons.1 hb with rfl|hb
   ·simpa using ha
   ·exact ih h b hb
def ixI (p:α→Bool) (l:List α):Int:=match ixP p l with
 | some k=>k
 | none=>-1
theorem QG9 {l:List α}:0≤ixI p l↔∃ a∈l,p a=true:=by
 unfold ixI
 cases h:ixP p l with
 | some k =>
  obtain ⟨h1,h2,_⟩:=QqY h
  exact ⟨fun _=>⟨_,List.getElem_mem h1,h2⟩,fun _=>Int.natCast_nonneg k⟩
 | none=>exact ⟨fun h'=>by simp at h',fun ⟨a,ha,hp⟩=>by rw [QwC h a ha] at hp; cases hp⟩
theorem QC8 {l:List α}:-1≤ixI p l∧ixI p l<l.length:=by
 unfold ixI
 cases h:ixP p l with
 | some k=>have:=(QqY h).1; simp only; omega
 | none=>simp only; omega
theorem QpV {l:List α}:geI (ixI p l) 0=l.any p:=by
 rw [Bool.eq_iff_iff,Qs7,QG9,List.any_eq_true]
end
section
variable {E : Type} {B : Int → Option (Int ⊕ E)}
theorem QDy {n:Nat} (hn:n≤1048576) (p:Nat→Bool) (Y:Nat→E) {N:E}
  (hin:∀ i:Nat,i<n→B (i:Int)=some (if p i=true then .inr (Y i) else .inl ((i:Int)+1))) (hend:B (n:Int)=some (.inr N)) :
  (∃ k,k<n∧p k=true∧(∀ j,j<k→p j=false)∧QaT B 0=some (Y k))∨((∀ j,j<n→p j=false)∧QaT B 0=some N):=by
 have main:post (QaT B 0) fun e=>(∃ k,k<n∧p k=true∧(∀ j,j<k→p j=false)∧e=Y k)∨((∀ j,j<n→p j=false)∧e=N):=by
  refine QeM (fun i=>∃ k:Nat,i=(k:Int)∧k≤n∧∀ j,j<k→p j=false) (fun i=>n-i.toNat) ⟨0,rfl,Nat.zero_le _,fun j hj=>by omega⟩ (by simp; omega) ?_
  rintro _ ⟨k,rfl,hk,hf⟩
  rcases Nat.lt_or_ge k n with h|h
  ·rw [hin k h]
   split
   ·rename_i hp
    exact QdT (.inl ⟨k,h,hp,hf,rfl⟩)
   ·rename_i hp
    refine Qhj ⟨⟨k+1,by simp,by omega,fun j hj=>?_⟩,by simp; omega⟩
    rcases Nat.lt_or_eq_of_le (Nat.le_of_lt_succ hj) with hj|rfl
    ·exact hf j hj
    ·simpa using hp
  ·obtain rfl:k=n:=by omega
   rw [hend]
   exact QdT (.inr ⟨hf,rfl⟩)
 obtain ⟨e,he,h⟩:=main
 rcases h with ⟨k,h1,h2,h3,rfl⟩|⟨h1,rfl⟩
 ·exact .inl ⟨k,h1,h2,h3,he⟩
 ·exact .inr ⟨h1,he⟩
theorem QwV {n:Nat} (hn:n≤1048576) (p:Nat→Bool) {y N:E} {b:Bool} (hb:b=true↔∃ k,k<n∧p k=true)
  (hin:∀ i:Nat,i<n→B (i:Int)=some (if p i=true then .inr y else .inl ((i:Int)+1))) (hend:B (n:Int)=some (.inr N)) :
  QaT B 0=some (if b=true then y else N):=by
 rcases QDy hn p (fun _=>y) hin hend with ⟨k,h1,h2,_,h4⟩|⟨h1,h4⟩
 ·rw [h4,if_pos (hb.2 ⟨k,h1,h2⟩)]
 ·rw [h4,if_neg fun h=>by obtain ⟨k,h5,h6⟩:=hb.1 h; rw [h1 k h5] at h6; cases h6]
theorem QiW {α:Type} {l:List α} (hl:l.length≤1048576) (p:α→Bool) {y N:E}
  (hin:∀ (i:Nat) a,l[i]?=some a→B (i:Int)=some (if p a=true then .inr y else .inl ((i:Int)+1))) (hend:B (l.length:Int)=some (.inr N)) :
  QaT B 0=some (if l.any p=true then y else N):=by
 refine QwV hl (fun i=>match l[i]? with|some a=>p a|none=>false) ?_ (fun i hi=>?_) hend
 ·rw [List.any_eq_true]
  constructor
  ·rintro ⟨a,ha,hp⟩
   obtain ⟨k,hk,rfl⟩:=List.getElem_of_mem ha
   exact ⟨k,hk,by rw [List.getElem?_eq_getElem hk]; exact hp⟩
  ·rintro ⟨k,hk,hp⟩
   rw [List.getElem?_eq_getElem hk] at hp
   exact ⟨_,List.getElem_mem hk,hp⟩
 ·rw [List.getElem?_eq_getElem hi]
  exact hin i _ (List.getElem?_eq_getElem hi)
theorem QsF {α:Type} {l:List α} (hl:l.length≤1048576) (p:α→Bool) (Y:Nat→E) {N:E}
  (hin:∀ (i:Nat) a,l[i]?=some a→B (i:Int)=some (if p a=true then .inr (Y i) else .inl ((i:Int)+1))) (hend:B (l.length:Int)=some (.inr N)) :
  QaT B 0=some (match ixP p l with|some k=>Y k|none=>N):=by
 have h:=QDy (B:=B) hl (fun i=>match l[i]? with|some a=>p a|none=>false) Y (N:=N) (fun i hi=>by
  rw [List.getElem?_eq_getElem hi]; exact hin i _ (List.getElem?_eq_getElem hi)) hend
 have at_:∀ j (hj:j<l.length),(match l[j]? with|some a=>p a|none=>false)=p l[j]:=fun j hj=>by rw [List.getElem?_eq_getElem hj]
 rcases h with ⟨k,h1,h2,h3,h4⟩|⟨h1,h4⟩
 ·cases hx:ixP p l with
  | none=>rw [at_ k h1,QwC hx _ (List.getElem_mem h1)] at h2; cases h2
  | some m =>
   obtain ⟨g1,g2,g3⟩:=QqY hx
   rcases Nat.lt_trichotomy k m with h|h|h
   ·rw [at_ k h1,g3 k h] at h2; cases h2
   ·rw [h4,h]
   ·have:=h3 m h; simp only [at_ m g1] at this; rw [g2] at this; cases this
 ·cases hx:ixP p l with
  | none=>rw [h4]
  | some m =>
   obtain ⟨g1,g2,g3⟩:=QqY hx
   have:=h1 m g1; simp only [at_ m g1] at this; rw [g2] at this; cases this
end
theorem QGW {m:Nat} (h:m<9223372036854775808):IntKind.i64.wrap (m:Int)=m:=IntWalk.i64_in _ ⟨by omega,by omega⟩
theorem cvuN {m:Nat} (h:m<9223372036854775808):cvK .u64 (m:Int)=m:=by
 unfold cvK
 simp only [IntKind.wrap,IntKind.bits,IntKind.signed]
 simp
 omega
theorem shrN {m i:Nat} (hi:i≤64):shrK .i64 (m:Int) (i:Int)=((m / 2 ^ i:Nat):Int):=by
 unfold shrK
 rw [show min (i:Int).toNat IntKind.i64.bits=i by simp [IntKind.bits]; omega,show (2:Int) ^ i=((2 ^ i:Nat):Int) by simp,Int.fdiv_eq_ediv_of_nonneg _ (Int.natCast_nonneg _)]
 rfl
theorem shlN {i:Nat} (hi:i≤62):shlK .i64 1 (i:Int)=((2 ^ i:Nat):Int):=by
 have h2:2 ^ i≤2 ^ 62:=Nat.pow_le_pow_right (by omega) hi
 unfold shlK
 rw [show min (i:Int).toNat IntKind.i64.bits=i by simp [IntKind.bits]; omega,Int.one_mul,show (2:Int) ^ i=((2 ^ i:Nat):Int) by simp]
 exact QGW (by omega)
theorem orN {a b:Nat} (ha:a<9223372036854775808) (hb:b<9223372036854775808):orK .i64 (a:Int) (b:Int)=((a ||| b:Nat):Int):=by
 unfold orK
 have h:=Nat.or_lt_two_pow (n:=63) ha hb
 have e:(BitVec.ofInt IntKind.i64.bits (a:Int) ||| BitVec.ofInt IntKind.i64.bits (b:Int)).toNat=a ||| b:=by
  rw [BitVec.toNat_or]
  show (BitVec.ofInt 64 (a:Int)).toNat ||| (BitVec.ofInt 64 (b:Int)).toNat=_
  rw [BitVec.ofInt_natCast,BitVec.ofInt_natCast,BitVec.toNat_ofNat,BitVec.toNat_ofNat,Nat.mod_eq_of_lt (by omega),Nat.mod_eq_of_lt (by omega)]
 rw [e]
 exact QGW (by omega)
theorem andN {a b:Nat} (ha:a<9223372036854775808) (hb:b<9223372036854775808):andK .i64 (a:Int) (b:Int)=((a &&& b:Nat):Int):=by
 unfold andK
 have h:=Nat.and_le_left (n:=a) (m:=b)
 have e:(BitVec.ofInt IntKind.i64.bits (a:Int) &&& BitVec.ofInt IntKind.i64.bits (b:Int)).toNat=a &&& b:=by
  rw [BitVec.toNat_and]
  show (BitVec.ofInt 64 (a:Int)).toNat &&& (BitVec.ofInt 64 (b:Int)).toNat=_
  rw [BitVec.ofInt_natCast,BitVec.ofInt_natCast,BitVec.toNat_ofNat,BitVec.toNat_ofNat,Nat.mod_eq_of_lt (by omega),Nat.mod_eq_of_lt (by omega)]
 rw [e]
 exact QGW (by omega)
theorem QDJ {a b:Nat} (ha:a<9223372036854775808) (hb:b<9223372036854775808):Qug .i64 (a:Int) (b:Int)=0↔∀ i,a.testBit i=true→b.testBit i=true:=by
 show IntKind.i64.wrap (((BitVec.ofInt 64 (a:Int) &&& ~~~BitVec.ofInt 64 (b:Int)).toNat:Nat):Int)=0↔_
 rw [BitVec.ofInt_natCast,BitVec.ofInt_natCast]
 have hle:(BitVec.ofNat 64 a &&& ~~~BitVec.ofNat 64 b).toNat<9223372036854775808:=by
  rw [BitVec.toNat_and,BitVec.toNat_ofNat,Nat.mod_eq_of_lt (by omega)]
  exact Nat.lt_of_le_of_lt Nat.and_le_left ha
 rw [QGW hle]
 have bit:∀ i,(BitVec.ofNat 64 a &&& ~~~BitVec.ofNat 64 b).toNat.testBit i=(a.testBit i&&!b.testBit i):=fun i=>by
  rw [BitVec.testBit_toNat,BitVec.getLsbD_and,BitVec.getLsbD_not,BitVec.getLsbD_ofNat,BitVec.getLsbD_ofNat]
  rcases Nat.lt_or_ge i 64 with h|h
  ·simp [h]
  ·have:a.testBit i=false:=Nat.testBit_lt_two_pow (Nat.lt_of_lt_of_le ha (Nat.le_trans (by decide) (Nat.pow_le_pow_right (n:=2) (by omega) h)))
   simp [this]
 constructor
 ·intro h i hi
  have:=bit i
  rw [show (BitVec.ofNat 64 a &&& ~~~BitVec.ofNat 64 b).toNat=0 by omega,Nat.zero_testBit,hi] at this
  simpa using this.symm
 ·intro h
  have:(BitVec.ofNat 64 a &&& ~~~BitVec.ofNat 64 b).toNat=0:=Nat.eq_of_testBit_eq fun i=>by
   rw [bit,Nat.zero_testBit]
   cases hi:a.testBit i with
   | false=>rfl
   | true=>rw [h i hi]; rfl
  omega
theorem QyL {m i:Nat}:eqI (remK (((m / 2 ^ i:Nat):Int)) 2) 1=m.testBit i:=by
 rw [Bool.eq_iff_iff,QvW,Nat.testBit_eq_decide_div_mod_eq,decide_eq_true_iff]
 unfold remK
 generalize m / 2 ^ i=q
 rw [Int.tmod_eq_emod_of_nonneg (by omega)]
 omega
theorem QFK {m i:Nat} (h:m.testBit i=false) (j:Nat):(m+2 ^ i).testBit j=(m.testBit j||decide (i=j)):=by
 rw [Nat.add_comm]
 rcases Nat.lt_trichotomy j i with hj|rfl|hj
 ·rw [Nat.testBit_two_pow_add_gt hj,decide_eq_false (by omega),Bool.or_false]
 ·rw [Nat.testBit_two_pow_add_eq,h]; simp
 ·rw [decide_eq_false (by omega),Bool.or_false]
  have h0:m / 2 ^ i % 2=0:=by
   rw [Nat.testBit_eq_decide_div_mod_eq,decide_eq_false_iff_not] at h
   omega
  have e1:(2 ^ i+m) / 2 ^ (i+1)=m / 2 ^ (i+1):=by
   rw [Nat.pow_succ,← Nat.div_div_eq_div_mul,← Nat.div_div_eq_div_mul,Nat.add_div_left _ (Nat.two_pow_pos i)]
   omega
  rw [Nat.testBit_eq_decide_div_mod_eq,Nat.testBit_eq_decide_div_mod_eq]
  have hp:2 ^ j=2 ^ (i+1)*2 ^ (j-(i+1)):=by rw [← Nat.pow_add]; congr 1; omega
  rw [hp,← Nat.div_div_eq_div_mul,← Nat.div_div_eq_div_mul,e1]
theorem QG1 {t:Qal} {skills:Int} (ht:0≤t.skills∧t.skills≤1073741823) (hs:0≤skills∧skills≤1073741823):∃ b,Qm8 t skills=some b∧Qg9 t skills=some b:=by
 obtain ⟨a,ha⟩:∃ a:Nat,skills=a:=⟨skills.toNat,by omega⟩
 obtain ⟨c,hc⟩:∃ c:Nat,t.skills=c:=⟨t.skills.toNat,by omega⟩
 subst ha
 refine ⟨eqI (Qug .i64 (a:Int) (c:Int)) 0,?_,?_⟩
 ·unfold Qm8
  rw [hc]
  rw [show geI (c:Int) 0=true by simp,show geI (a:Int) 0=true by simp]
  rfl
 ·unfold Qg9
  rw [QaO (by simp; omega)]
  have key:QaT (fun s=>Qdy t (a:Int) s) 1=some (if (eqI (Qug .i64 (a:Int) (c:Int)) 0)=true then .inl () else .inr false):=by
   have bigpow:∀ k:Nat,k≤62→(0:Int)<((2 ^ k:Nat):Int)∧((2 ^ k:Nat):Int)≤4611686018427387904:=fun k hk=>by
    have h1:=Nat.two_pow_pos k
    have h2:2 ^ k≤2 ^ 62:=Nat.pow_le_pow_right (by omega) hk
    omega
   have main:post (QaT (fun s=>Qdy t (a:Int) s) 1) fun e=>e=if (eqI (Qug .i64 (a:Int) (c:Int)) 0)=true then .inl () else .inr false:=by
    refine QeM (fun s=>∃ k:Nat,k≤63∧s=(if k=63 then -9223372036854775808 else ((2 ^ k:Nat):Int))∧∀ i,i<k→a.testBit i=true→c.testBit i=true) (fun s=>if s<0 then 0 else 9223372036854775808-s.toNat) ⟨0,by omega,rfl,fun i hi=>by omega⟩ (by decide) ?_
    rintro _ ⟨k,hk,rfl,hb⟩
    show post (Qdy t (a:Int) _) _
    unfold Qdy
    rcases Nat.lt_or_ge k 63 with hk'|hk'
    ·rw [if_neg (by omega)]
     obtain ⟨p1,p2⟩:=bigpow k (by omega)
     rw [QaY (by simp only [QyZ]; exact p1),Qd6 (by omega),hc]
     have hq:∀ z:Nat,z<9223372036854775808→quoK .i64 (z:Int) ((2 ^ k:Nat):Int)=((z / 2 ^ k:Nat):Int):=fun z hz=>by
      have e:(z:Int).tdiv ((2 ^ k:Nat):Int)=((z / 2 ^ k:Nat):Int):=by rw [Int.tdiv_eq_ediv_of_nonneg (by omega)]; rfl
      have h1:=Nat.div_le_self z (2 ^ k)
      rw [quoI,e] <;> (rw [e]; generalize z / 2 ^ k=q at h1; omega)
     rw [hq a (by omega),hq c (by omega),QyL]
     have go:∀ h:(a.testBit k=true→c.testBit k=true),post (some (Sum.inl (mulK .i64 ((2 ^ k:Nat):Int) 2):Int⊕(Unit⊕Bool))) fun x=>(∀ s',x=.inl s'→(∃ k':Nat,k'≤63∧s'=(if k'=63 then -9223372036854775808 else ((2 ^ k':Nat):Int))∧∀ i,i<k'→a.testBit i=true→c.testBit i=true)∧(if s'<0 then 0 else 9223372036854775808-s'.toNat)<(if ((2 ^ k:Nat):Int)<0 then 0 else 9223372036854775808-((2 ^ k:Nat):Int).toNat))∧∀ e,x=.inr e→e=if (eqI (Qug .i64 (a:Int) (c:Int)) 0)=true then .inl () else .inr false:=by
      intro h
      have hm:mulK .i64 ((2 ^ k:Nat):Int) 2=if k+1=63 then -9223372036854775808 else ((2 ^ (k+1):Nat):Int):=by
       split
       ·rename_i h62
        obtain rfl:k=62:=by omega
        decide
       ·obtain ⟨q1,q2⟩:=bigpow (k+1) (by omega)
        have e:((2 ^ k:Nat):Int)*2=((2 ^ (k+1):Nat):Int):=by rw [Nat.pow_succ]; simp
        rw [mulI (by omega) (by omega),e]
      refine Qhj ⟨⟨k+1,by omega,hm,fun i hi=>?_⟩,?_⟩
      ·rcases Nat.lt_or_eq_of_le (Nat.le_of_lt_succ hi) with hi|rfl
       ·exact hb i hi
       ·exact h
      ·rw [hm,if_neg (show ¬ ((2 ^ k:Nat):Int)<0 by omega)]
       split
       ·rw [if_pos (by omega)]; omega
       ·obtain ⟨q1,q2⟩:=bigpow (k+1) (by omega)
        have e:2 ^ (k+1)=2 ^ k*2:=Nat.pow_succ ..
        rw [if_neg (by omega)]
        omega
     refine Qa0 (fun h1=>QbG (by omega) (Qa0 (fun h2=>QdT ?_) (fun h2=>go fun _=>?_))) (fun h1=>go fun h=>by rw [h1] at h; cases h)
     ·rw [if_neg]
      intro h
      have h3:=(QDJ (by omega) (by omega)).1 (QvW.1 h) k h1
      rw [← QyL,QvW] at h3
      rw [QvW] at h2
      omega
     ·rw [QCy] at h2
      rw [← QyL,QvW]
      unfold remK at h2 ⊢
      generalize c / 2 ^ k=q at h2 ⊢
      rw [Int.tmod_eq_emod_of_nonneg (by omega)] at h2 ⊢
      omega
    ·obtain rfl:k=63:=by omega
     rw [if_pos rfl,QaO (by decide)]
     refine QdT ?_
     rw [if_pos]
     rw [QvW]
     refine (QDJ (by omega) (by omega)).2 fun i hi=>?_
     rcases Nat.lt_or_ge i 63 with h|h
     ·exact hb i h hi
     ·rw [Nat.testBit_lt_two_pow (Nat.lt_of_lt_of_le (show a<2 ^ 63 by omega) (Nat.pow_le_pow_right (n:=2) (by omega) h))] at hi; cases hi
   exact main.eq
  rw [key,Qaj]
  split <;> simp_all
end Go.Proofs.YtpkkaboonnedfaaGreatDoor
namespace Go.Proofs.YtpkkaboonnedfaaGreatDoor
set_option linter.unusedSimpArgs false
set_option linter.unusedVariables false
set_option linter.unusedSectionVars false
theorem brs {α:Type} {b:Bool} {x y:α}:br b (some x) (some y)=some (if b=true then x else y):=by cases b <;> rfl
theorem Qcm {α β:Type} {l:List α} {i:Nat} {a:α} (h:l[i]?=some a) (f:α→Option β) (z:Option β):br (ltI (i:Int) (lenI l)) (bnd (getI l i) f) z=f a:=by
 have:=(List.getElem?_eq_some_iff.1 h).1
 rw [QaY (by simp [lenI]; omega),QaX h,Qaj]
theorem Qbw {α β:Type} {l:List α} {y z:Option β}:br (ltI (l.length:Int) (lenI l)) y z=z:=QaO (by simp [lenI])
theorem incL {α:Type} {l:List α} {i:Nat} {a:α} (h:l[i]?=some a) (hl:l.length≤1048576):addK .i64 (i:Int) 1=(i:Int)+1:=inc (List.getElem?_eq_some_iff.1 h).1 hl
def inO (x:Qac) (v:Qaa):Bool:=decide (0≤v.order∧v.order<x.orders.length)
def offV (x:Qac) (v:Qaa):Bool:=match x.orders[v.order.toNat]? with
 | some o=>o.off
 | none=>false
def isO (o:Int) (v:Qaa):Bool:=eqI v.order o
def hasO (l:List Qaa) (o:Int):Bool:=l.any (isO o)
def isV (v a:Qaa):Bool:=eqI v.order a.order&&(eqB v.drop a.drop&&true)
def visO (x:Qac) (o:Int):List Qaa:=match x.orders[o.toNat]? with
 | some q=>(if 0≤q.pick.place then [Qaa.mk o false] else [])++(if 0≤q.drop.place then [Qaa.mk o true] else [])
 | none=>[]
def rowB (l:List Qaa):List Qaa→Bool
 | []=>true
 | [a]=>geI (ixI (isV a) l) 0
 | a :: b :: _=>geI (ixI (isV a) l) 0&&ltI (ixI (isV a) l) (ixI (isV b) l)
def QwM (x:Qac) (l:List Qaa) (v:Qaa):Bool:=(visO x v.order).any (isV v)&&rowB l (visO x v.order)
def Qu0 (l:List Qaa) (p:QaR):Bool:=hasO l p.x0&&hasO l p.x1
def QDd (l:List Qaa) (p:QaR):Bool:=match ixP (isO p.x1) l with
 | some k=>hasO (l.drop k) p.x0
 | none=>false
def badB (l:List Qaa) (p:QaR):Bool:=hasO l p.x1&&(!hasO l p.x0||QDd l p)
instance (l:List Qaa):Decidable l.Nodup:=inferInstanceAs (Decidable (List.Nodup l))
def seqS (x:Qac) (l:List Qaa):Int :=
 if l.length=0 then 2 else if l.any (fun v=>!inO x v)=true then 2 else if l.any (offV x)=true then 9 else if ¬ l.Nodup then 6 else
 if l.any (fun v=>!QwM x l v)=true then 19 else if x.apart.any (Qu0 l)=true then 20 else if x.before.any (badB l)=true then 21 else 0
section
variable {x : Qac} {l : List Qaa}
theorem QDZ {v a:Qaa}:isV v a=true↔a=v:=by
 unfold isV
 cases v; cases a
 simp
 exact ⟨fun ⟨h1,h2⟩=>⟨h1.symm,h2.symm⟩,fun ⟨h1,h2⟩=>⟨h1.symm,h2.symm⟩⟩
theorem QzZ {o:Int} {v:Qaa}:isO o v=true↔v.order=o:=by simp [isO]
theorem Qvb {o:Int}:hasO l o=true↔∃ v∈l,v.order=o:=by simp [hasO,List.any_eq_true,isO]
theorem QCL {v:Qaa}:l.any (isV v)=true↔v∈l:=by
 rw [List.any_eq_true]
 exact ⟨fun ⟨a,h,h'⟩=>QDZ.1 h' ▸ h,fun h=>⟨v,h,QDZ.2 rfl⟩⟩
theorem QBl {v:Qaa}:0≤ixI (isV v) l↔v∈l:=by rw [← Qs7,QpV,QCL]
theorem Qxo {v:Qaa} {k:Nat} (h:ixI (isV v) l=k):l[k]?=some v∧∀ j,j<k→l[j]?≠some v:=by
 unfold ixI at h
 cases hx:ixP (isV v) l with
 | none=>rw [hx] at h; simp only at h; omega
 | some m =>
  rw [hx] at h
  simp only at h
  obtain rfl:m=k:=by omega
  obtain ⟨h1,h2,h3⟩:=QqY hx
  refine ⟨by rw [List.getElem?_eq_getElem h1,QDZ.1 h2],fun j hj he=>?_⟩
  have:=h3 j hj
  rw [List.getElem?_eq_getElem (show j<l.length by omega)] at he
  rw [QDZ.2 (Option.some.inj he)] at this
  cases this
theorem QwO (hl:l.length≤1048576) (v:Qaa):QgS l v=some (ixI (isV v) l):=by
 have:=QsF hl (isV v) (fun k=>(.inr (k:Int):Unit⊕Int)) (N:=.inl ()) (B:=fun s=>QaQ l v s) (fun i a h=>by
  show QaQ l v i=_
  unfold QaQ
  rw [Qcm h,incL h hl,brs]; rfl) (by
  show QaQ l v l.length=_
  unfold QaQ
  rw [Qbw])
 unfold QgS Qbq
 rw [Qcw this]
 unfold ixI
 cases ixP (isV v) l <;> rfl
theorem QEN (hl:l.length≤1048576) (v:Qaa):Qbq l v=some (ixI (isV v) l):=by
 have:=QwO hl v
 unfold QgS at this
 obtain ⟨a,h,h'⟩:=Qae this
 rw [h,h']
theorem QzQ (hl:l.length≤1048576) (v:Qaa):Qbx l v=some (l.any (isV v)):=by
 unfold Qbx
 rw [QEN hl,Qaj,QpV]
theorem QqQ (hl:l.length≤1048576) (v:Qaa):QcU l v=some (ixI (isV v) l):=by
 have:=QsF hl (isV v) (fun k=>(.inr (k:Int):Unit⊕Int)) (N:=.inl ()) (B:=fun s=>QcD l v s) (fun i a h=>by
  show QcD l v i=_
  unfold QcD
  rw [Qcm h,incL h hl,brs]
  rw [show (eqI a.order v.order&&(eqB a.drop v.drop&&true))=isV v a by
   rw [Bool.eq_iff_iff,QDZ]; cases v; cases a; simp]) (by
  show QcD l v l.length=_
  unfold QcD
  rw [Qbw])
 unfold QcU
 rw [Qcw this]
 unfold ixI
 cases ixP (isV v) l <;> rfl
theorem QwI:¬ l.Nodup↔∃ k,k<l.length∧∃ j,j<k∧l[j]?=l[k]?:=by
 unfold List.Nodup
 rw [List.pairwise_iff_getElem]
 constructor
 ·intro h
  refine Classical.byContradiction fun hn=>h fun i j hi hj hij he=>hn ⟨j,hj,i,hij,?_⟩
  rw [List.getElem?_eq_getElem hi,List.getElem?_eq_getElem hj,he]
 ·rintro ⟨k,hk,j,hj,he⟩ h
  rw [List.getElem?_eq_getElem hk,List.getElem?_eq_getElem (show j<l.length by omega)] at he
  exact h j k (by omega) hk hj (Option.some.inj he)
theorem Qs6 {v:Qaa} {k:Nat} (hk:k≤l.length):v∈l.take k↔∃ j,j<k∧l[j]?=some v:=by
 rw [List.mem_iff_getElem?]
 constructor
 ·rintro ⟨j,h⟩
  rw [List.getElem?_take] at h
  split at h
  ·exact ⟨j,‹_›,h⟩
  ·cases h
 ·rintro ⟨j,hj,h⟩
  exact ⟨j,by rw [List.getElem?_take,if_pos hj,h]⟩
theorem QFo (hl:l.length≤1048576):QjP l=some (decide (¬ l.Nodup)):=by
 have:=QwV (B:=fun s=>Qdu l s) hl (fun k=>match l[k]? with|some v=>(l.take k).any (isV v)|none=>false) (y:=(.inr true:Unit⊕Bool)) (N:=.inl ()) (b:=decide (¬ l.Nodup)) (by
  rw [decide_eq_true_iff,QwI]
  constructor
  ·rintro ⟨k,hk,j,hj,he⟩
   refine ⟨k,hk,?_⟩
   rw [List.getElem?_eq_getElem hk] at he ⊢
   exact QCL.2 ((Qs6 (by omega)).2 ⟨j,hj,he⟩)
  ·rintro ⟨k,hk,h⟩
   rw [List.getElem?_eq_getElem hk] at h
   obtain ⟨j,hj,he⟩:=(Qs6 (by omega)).1 (QCL.1 h)
   exact ⟨k,hk,j,hj,by rw [he,List.getElem?_eq_getElem hk]⟩) (fun i hi=>by
  have h:l[i]?=some l[i]:=List.getElem?_eq_getElem hi
  show Qdu l i=_
  unfold Qdu
  rw [Qcm h,show slcI l 0 (i:Int)=some (l.take i) by unfold slcI; rw [if_pos (by omega)]; simp,Qaj,QwO (by rw [List.length_take]; omega),Qaj,incL h hl,QpV,brs]
  rw [h]) (by
  show Qdu l l.length=_
  unfold Qdu
  rw [Qbw])
 unfold QjP
 rw [Qcw this]
 split <;> simp_all
theorem QpQ {o:Int}:(visO x o).length≤2:=by
 unfold visO
 split
 ·split <;> split <;> simp
 ·simp
theorem QyC (hx:QbW x) {o:Int} (h0:0≤o) (h1:o<x.orders.length):Qkx x.orders o=some (visO x o):=by
 have e:x.orders[o.toNat]?=some (x.orders[o.toNat]'(by omega)):=List.getElem?_eq_getElem _
 generalize x.orders[o.toNat]'(by omega)=q at e
 have hg:getI x.orders o=some q:=by unfold getI; rw [if_pos h0,e]
 unfold Qkx QmY
 rw [Qaj,QaY (by simp [lenI]; omega),hg,Qaj]
 unfold visO
 rw [e]
 have hJ:∀ l1:List Qaa,l1.length≤1→Qhe x.orders o l1=some (l1++if 0≤q.drop.place then [Qaa.mk o true] else []):=fun l1 hl=>by
  unfold Qhe
  rw [hg,Qaj,Qd6 (by unfold okN; simp; omega),QCU]
  simp only [Qs7]
  split <;> simp
 rw [hJ _ (by simp),hJ _ (by simp),Qd6 (by unfold okN; simp),brs]
 simp only [Qs7]
 split <;> rfl
theorem QzN (hx:QbW x) {o:Int} (h0:0≤o) (h1:o<x.orders.length):Qg1 x o=some (visO x o):=by
 have e:x.orders[o.toNat]?=some (x.orders[o.toNat]'(by omega)):=List.getElem?_eq_getElem _
 generalize x.orders[o.toNat]'(by omega)=q at e
 have hq:=hx.ord q (List.mem_of_getElem? e)
 have hg:getI x.orders o=some q:=by unfold getI; rw [if_pos h0,e]
 have hp:neI q.pick.place (-1)=decide (0≤q.pick.place):=by
  have:=hq.pick
  rw [Bool.eq_iff_iff,Qzf,decide_eq_true_iff]
  unfold QAy at this
  omega
 have hd:neI q.drop.place (-1)=decide (0≤q.drop.place):=by
  have:=hq.drop
  rw [Bool.eq_iff_iff,Qzf,decide_eq_true_iff]
  unfold QAy at this
  omega
 unfold Qg1
 rw [hg,Qaj]
 unfold visO
 rw [e]
 have hJ:∀ l1:List Qaa,l1.length≤1→Qd2 x o l1=some (l1++if 0≤q.drop.place then [Qaa.mk o true] else []):=fun l1 hl=>by
  unfold Qd2
  rw [hg,Qaj,Qd6 (by unfold okN; simp; omega),hd,QCU]
  simp only [decide_eq_true_iff]
  split <;> simp
 rw [hJ _ (by simp),hJ _ (by simp),Qd6 (by unfold okN; simp),hp,brs]
 simp only [decide_eq_true_iff]
 split <;> rfl
theorem Qyz {o:Int} {a b:Qaa} {r:List Qaa} (h:visO x o=a :: b :: r):r=[]∧a≠b:=by
 have h2:=QpQ (x:=x) (o:=o)
 rw [h] at h2
 have hr:r=[]:=by cases r with
  | nil=>rfl
  | cons c r=>simp at h2
 refine ⟨hr,?_⟩
 subst hr
 unfold visO at h
 split at h
 ·split at h <;> split at h <;> simp at h
  obtain ⟨rfl,rfl⟩:=h
  simp
 ·cases h
theorem QDv (hl:l.length≤1048576) {r:List Qaa} (hr:r.length≤2) (v:Int):QaT (fun s=>Qbl x l v r s.1 s.2) ((-1),0)=some (if rowB l r=true then .inl () else .inr false):=by
 have out:∀ (p:Int),Qbl x l v r p r.length=some (.inr (.inl ())):=fun p=>by
  unfold Qbl
  rw [Qbw]
 have go:∀ (k:Nat) (a:Qaa) (p:Int),r[k]?=some a→Qbl x l v r p k=some (if leI (ixI (isV a) l) p=true then .inr (.inr false) else .inl (ixI (isV a) l,(k:Int)+1)):=fun k a p h=>by
  unfold Qbl
  rw [Qcm h,QwO hl,Qaj,incL h (by omega),brs]
 match r,hr with
 | [],_=>exact QtU 1 (by decide) (by simp only [QvS]; rw [show Qbl x l v [] (-1) 0=_ from out (-1)]; rfl)
 | [a],_ =>
  refine QtU 2 (by decide) ?_
  have g:=go 0 a (-1) rfl
  simp only [QvS]
  rw [show Qbl x l v [a] (-1) 0=_ from g]
  have hb:=QC8 (p:=isV a) (l:=l)
  by_cases h:leI (ixI (isV a) l) (-1)=true
  ·rw [if_pos h,if_neg]
   simp only [rowB,Qs7]
   simp only [Qx8] at h
   omega
  ·rw [if_neg h,if_pos]
   ·simp only
    rw [show Qbl x l v [a] (ixI (isV a) l) ((0:Nat)+1:Int)=_ from out _]
   ·simp only [rowB,Qs7]
    simp only [Qx8] at h
    omega
 | [a,b],_ =>
  refine QtU 3 (by decide) ?_
  have g:=go 0 a (-1) rfl
  have g1:=go 1 b (ixI (isV a) l) rfl
  simp only [QvS]
  rw [show Qbl x l v [a,b] (-1) 0=_ from g]
  have hb:=QC8 (p:=isV a) (l:=l)
  by_cases h:leI (ixI (isV a) l) (-1)=true
  ·rw [if_pos h,if_neg]
   simp only [rowB,Qs7,Bool.and_eq_true]
   simp only [Qx8] at h
   omega
  ·rw [if_neg h]
   simp only
   rw [show Qbl x l v [a,b] (ixI (isV a) l) ((0:Nat)+1:Int)=_ from g1]
   simp only [Qx8] at h
   by_cases h':leI (ixI (isV b) l) (ixI (isV a) l)=true
   ·rw [if_pos h',if_neg]
    simp only [rowB,Qs7,Qsh,Bool.and_eq_true]
    simp only [Qx8] at h'
    omega
   ·rw [if_neg h',if_pos]
    ·simp only
     rw [show Qbl x l v [a,b] (ixI (isV b) l) ((1:Nat)+1:Int)=_ from out _]
    ·simp only [rowB,Qs7,Qsh,Bool.and_eq_true]
     simp only [Qx8] at h'
     omega
theorem QpF (h:l.any (fun v=>!inO x v)=false) {v:Qaa} (hv:v∈l):0≤v.order∧v.order<x.orders.length:=by
 have:=List.any_eq_false.1 h v hv
 simpa [inO] using this
theorem QDp (hx:QbW x) (hl:l.length≤1048576) (ho:l.any (fun v=>!inO x v)=false):QiD x l=some (!l.any (fun v=>!QwM x l v)):=by
 have:=QiW (B:=fun s=>Qc8 x l s) hl (fun v=>!QwM x l v) (y:=(.inr false:Unit⊕Bool)) (N:=.inl ()) (fun i a h=>by
  obtain ⟨h0,h1⟩:=QpF ho (List.mem_of_getElem? h)
  show Qc8 x l i=_
  unfold Qc8
  have hv:=QpQ (x:=x) (o:=a.order)
  rw [Qcm h,QyC hx h0 h1,Qaj,QzQ (by omega),Qaj,QDv hl hv,Qaj,incL h hl]
  unfold QwM
  cases (visO x a.order).any (isV a) <;> cases rowB l (visO x a.order) <;> rfl) (by
  show Qc8 x l l.length=_
  unfold Qc8
  rw [Qbw])
 unfold QiD
 rw [Qcw this]
 cases l.any (fun v=>!QwM x l v) <;> rfl
theorem Qxa (hl:l.length≤1048576) {r:List Qaa} (hr:r.length≤2):QfZ l r=some (!r.any (fun a=>ltI (ixI (isV a) l) 0)):=by
 have:=QiW (B:=fun s=>QbS l r s) (l:=r) (by omega) (fun a=>ltI (ixI (isV a) l) 0) (y:=(.inr false:Unit⊕Bool)) (N:=.inl ()) (fun i a h=>by
  show QbS l r i=_
  unfold QbS
  rw [Qcm h,QqQ hl,Qaj,incL h (by omega),brs]) (by
  show QbS l r r.length=_
  unfold QbS
  rw [Qbw])
 unfold QfZ
 rw [Qcw this]
 cases r.any (fun a=>ltI (ixI (isV a) l) 0) <;> rfl
theorem QD4 {a b:Int}:ltI a b=!geI a b:=by rw [Bool.eq_iff_iff]; simp
theorem Qz2 (hx:QbW x) (hl:l.length≤1048576) (ho:l.any (fun v=>!inO x v)=false):QdP x l=some (!l.any (fun v=>!QwM x l v)):=by
 have:=QiW (B:=fun s=>Qcj x l s) hl (fun v=>!QwM x l v) (y:=(.inr false:Unit⊕Bool)) (N:=.inl ()) (fun i a h=>by
  obtain ⟨h0,h1⟩:=QpF ho (List.mem_of_getElem? h)
  show Qcj x l i=_
  unfold Qcj
  have hv:=QpQ (x:=x) (o:=a.order)
  rw [Qcm h,QzN hx h0 h1,Qaj,QqQ (by omega),Qaj,Qxa hl hv,Qaj,incL h hl]
  rw [QD4,QpV]
  have hP:QwM x l a=((visO x a.order).any (isV a)&&rowB l (visO x a.order)):=rfl
  generalize QwM x l a=P at hP ⊢
  cases hany:(visO x a.order).any (isV a) with
  | false=>rw [hany] at hP; subst hP; rfl
  | true =>
   rw [hany,Bool.true_and] at hP
   rw [Bool.not_true,Qhg]
   cases hvis:visO x a.order with
   | nil=>rw [hvis] at hP; subst hP; rfl
   | cons c r =>
    cases r with
    | nil =>
     rw [hvis] at hP
     rw [List.any_cons,List.any_nil,Bool.or_false,QD4,Bool.not_not,← show P=geI (ixI (isV c) l) 0 from hP]
     cases P <;> rfl
    | cons d r =>
     obtain ⟨rfl,hne⟩:=Qyz hvis
     rw [hvis] at hP
     rw [List.any_cons,List.any_cons,List.any_nil,Bool.or_false]
     show br _ (br true (bnd (some c) fun x2=>bnd (QcU l x2) fun r3=>bnd (some d) fun x3=>bnd (QcU l x3) fun r4=>br (gtI r3 r4) _ _) _) _=_
     rw [QjV,Qaj,QqQ hl,Qaj,Qaj,QqQ hl,Qaj]
     simp only [rowB] at hP
     have hc:=QC8 (p:=isV c) (l:=l)
     have hd:=QC8 (p:=isV d) (l:=l)
     have hcd:0≤ixI (isV c) l→ixI (isV c) l≠ixI (isV d) l:=fun h0 he=>by
      obtain ⟨k,hk⟩:∃ k:Nat,ixI (isV c) l=k:=⟨(ixI (isV c) l).toNat,by omega⟩
      have e1:=(Qxo hk).1
      have e2:=(Qxo (he.symm.trans hk)).1
      rw [e1] at e2
      exact hne (Option.some.inj e2)
     generalize ixI (isV c) l=m at *
     generalize ixI (isV d) l=n at *
     cases P with
     | true =>
      have hP':=hP.symm
      simp only [Bool.and_eq_true,Qs7,Qsh] at hP'
      rw [QaY (by simp; omega),QaO (by simp; omega)]
      rfl
     | false =>
      have hP':=hP.symm
      simp only [Bool.and_eq_false_iff,QCz,QsA] at hP'
      by_cases h1:0≤m∧0≤n
      ·have:=hcd h1.1
       rw [QaY (by simp; omega),QaY (by simp; omega)]
       rfl
      ·rw [QaO (by simp; omega)]
       rfl) (by
  show Qcj x l l.length=_
  unfold Qcj
  rw [Qbw])
 unfold QdP
 rw [Qcw this]
 cases l.any (fun v=>!QwM x l v) <;> rfl
end
end Go.Proofs.YtpkkaboonnedfaaGreatDoor
namespace Go.Proofs.YtpkkaboonnedfaaGreatDoor
set_option linter.unusedSimpArgs false
set_option linter.unusedVariables false
set_option linter.unusedSectionVars false
section
variable {x : Qac} {l : List Qaa}
theorem QEG (hl:l.length≤1048576) (o:Int):Qba l o=some (ixI (isO o) l):=by
 have:=QsF hl (isO o) (fun k=>(.inr (k:Int):Unit⊕Int)) (N:=.inl ()) (B:=fun s=>QaI l o s) (fun i a h=>by
  show QaI l o i=_
  unfold QaI QmR
  rw [Qcm h,Qaj,incL h hl,brs]; rfl) (by
  show QaI l o l.length=_
  unfold QaI
  rw [Qbw])
 unfold Qba
 rw [Qcw this]
 unfold ixI
 cases ixP (isO o) l <;> rfl
theorem QzW (hl:l.length≤1048576) (o:Int):Qa7 l o=some (ixI (isO o) l):=by
 have:=QsF hl (isO o) (fun k=>(.inr (k:Int):Unit⊕Int)) (N:=.inl ()) (B:=fun s=>QaD l o s) (fun i a h=>by
  show QaD l o i=_
  unfold QaD QiL
  rw [Qcm h,Qaj,incL h hl,brs]; rfl) (by
  show QaD l o l.length=_
  unfold QaD
  rw [Qbw])
 unfold Qa7
 rw [Qcw this]
 unfold ixI
 cases ixP (isO o) l <;> rfl
theorem Qzv (hl:l.length≤1048576) (o:Int):QhZ l o=some (hasO l o):=by
 unfold QhZ Qbm
 rw [QEG hl,Qaj,Qaj,QpV]
 rfl
theorem QzX (hl:l.length≤1048576):Qa4 l x=some (l.any fun v=>!inO x v):=by
 have:=QsF hl (fun v=>!inO x v) (fun k=>(.inr (k:Int):Unit⊕Int)) (N:=.inl ()) (B:=fun s=>QaE l x s) (fun i a h=>by
  show QaE l x i=_
  unfold QaE QjM
  rw [Qcm h,Qaj,incL h hl,brs]
  rw [show (ltI a.order 0||geI a.order (lenI x.orders))=!inO x a by
   unfold inO lenI; rw [Bool.eq_iff_iff]; simp]) (by
  show QaE l x l.length=_
  unfold QaE
  rw [Qbw])
 have e:Qa8 l x=some (ixI (fun v=>!inO x v) l):=by
  unfold Qa8
  rw [Qcw this]
  unfold ixI
  cases ixP (fun v=>!inO x v) l <;> rfl
 unfold Qa4
 rw [e,Qaj,QpV]
theorem Qzi {v:Qaa} (h0:0≤v.order) (h1:v.order<x.orders.length):∃ o,getI x.orders v.order=some o∧o∈x.orders∧offV x v=o.off∧x.orders[v.order.toNat]?=some o:=by
 have e:x.orders[v.order.toNat]?=some (x.orders[v.order.toNat]'(by omega)):=List.getElem?_eq_getElem _
 refine ⟨_,Qup h0 h1,List.getElem_mem _,?_,e⟩
 unfold offV
 rw [e]
theorem QzY (hl:l.length≤1048576) (ho:l.any (fun v=>!inO x v)=false):Qa5 l x=some (l.any (offV x)):=by
 have:=QsF hl (offV x) (fun k=>(.inr (k:Int):Unit⊕Int)) (N:=.inl ()) (B:=fun s=>QaF l x s) (fun i a h=>by
  obtain ⟨h0,h1⟩:=QpF ho (List.mem_of_getElem? h)
  obtain ⟨o,g1,g2,g3,_⟩:=Qzi h0 h1
  show QaF l x i=_
  unfold QaF QjN
  rw [Qcm h,g1,Qaj,Qaj,incL h hl,brs,g3]) (by
  show QaF l x l.length=_
  unfold QaF
  rw [Qbw])
 have e:Qa9 l x=some (ixI (offV x) l):=by
  unfold Qa9
  rw [Qcw this]
  unfold ixI
  cases ixP (offV x) l <;> rfl
 unfold Qa5
 rw [e,Qaj,QpV]
theorem QCc (hl:l.length≤1048576) (p:QaR):QiC l p.x0 p.x1=some (!badB l p):=by
 unfold QiC
 rw [QzW hl,Qaj,Qzv hl,Qaj]
 unfold badB
 have hh:hasO l p.x1=geI (ixI (isO p.x1) l) 0:=QpV.symm
 rw [hh]
 unfold QDd ixI
 cases h:ixP (isO p.x1) l with
 | none=>rfl
 | some k =>
  have hk:=(QqY h).1
  simp only
  rw [QaO (by simp),show slcI l (k:Int) (lenI l)=some (l.drop k) by
   unfold slcI lenI; rw [if_pos (by omega)]; congr 1; rw [List.take_of_length_le]; · rfl
   ·simp]
  rw [Qaj,Qzv (by simp; omega),Qaj,show geI (k:Int) 0=true by simp]
  cases hasO l p.x0 <;> cases hasO (l.drop k) p.x0 <;> rfl
theorem QAq {r:Qad} (hx:QbW x) (hl:r.visits.length≤1048576):Qie x r=some (seqS x r.visits):=by
 unfold Qie seqS
 by_cases h0:r.visits.length=0
 ·rw [QaY (by simp [lenI,h0]),if_pos h0]
 rw [QaO (by simp only [lenI,QCy]; omega),if_neg h0,QzX hl,Qaj]
 by_cases h1:r.visits.any (fun v=>!inO x v)=true
 ·rw [QaY h1,if_pos h1]
 have h1':r.visits.any (fun v=>!inO x v)=false:=by simpa using h1
 rw [QaO h1',if_neg h1,QzY hl h1',Qaj]
 by_cases h2:r.visits.any (offV x)=true
 ·rw [QaY h2,if_pos h2]
 rw [QaO (by simpa using h2),if_neg h2,QFo hl,Qaj]
 by_cases h3:¬ r.visits.Nodup
 ·rw [QaY (decide_eq_true h3),if_pos h3]
 rw [QaO (decide_eq_false h3),if_neg h3,QDp hx hl h1',Qaj]
 by_cases h4:r.visits.any (fun v=>!QwM x r.visits v)=true
 ·rw [QaO (by rw [h4]; rfl),if_pos h4]
 rw [QaY (by simpa using h4),if_neg h4]
 have ha:=hx.apart
 have hb:=hx.before
 rw [Qcw (QiW (B:=fun s=>Qdt x r s) (l:=x.apart) (by omega) (Qu0 r.visits) (y:=(.inr 20:Unit⊕Int)) (N:=.inl ()) (fun i a h=>by
  show Qdt x r i=_
  unfold Qdt
  rw [Qcm h,Qzv hl,Qaj,Qzv hl,Qaj,incL h (by omega)]
  unfold Qu0
  cases hasO r.visits a.x0 <;> cases hasO r.visits a.x1 <;> rfl) (by
  show Qdt x r x.apart.length=_
  unfold Qdt
  rw [Qbw]))]
 by_cases h5:x.apart.any (Qu0 r.visits)=true
 ·rw [if_pos h5,if_pos h5]; rfl
 rw [if_neg h5,if_neg h5,Qgh]
 rw [Qcw (QiW (B:=fun s=>Qc0 x r s) (l:=x.before) (by omega) (badB r.visits) (y:=(.inr 21:Unit⊕Int)) (N:=.inl ()) (fun i a h=>by
  show Qc0 x r i=_
  unfold Qc0
  rw [Qcm h,QCc hl,Qaj,incL h (by omega)]
  cases badB r.visits a <;> rfl) (by
  show Qc0 x r x.before.length=_
  unfold Qc0
  rw [Qbw]))]
 by_cases h6:x.before.any (badB r.visits)=true
 ·rw [if_pos h6,if_pos h6]; rfl
 ·rw [if_neg h6,if_neg h6]; rfl
theorem QBc {m:Nat} (hm:m<9223372036854775808) {i:Int} (h0:0≤i) (h1:i≤62):Qee (m:Int) i=some (m.testBit i.toNat):=by
 obtain ⟨k,rfl⟩:∃ k:Nat,i=k:=⟨i.toNat,by omega⟩
 unfold Qee
 rw [QaY (by simp; omega),cvuN (by omega),Qd6 (by omega),shrN (by omega),QyL]
 rfl
structure QCu (l:List Qaa) (s:Int):Prop where
 ex:∃ m:Nat,s=m∧m<1024∧∀ i:Nat,m.testBit i=hasO l (i:Int)
theorem QFc {r:Qad} (hx:QbW x) (hl:r.visits.length≤1048576) (ho:r.visits.any (fun v=>!inO x v)=false):post (QfH r) fun s=>s.2=0∧QCu r.visits s.1:=by
 have hx10:=hx.orders
 unfold QfH
 refine QpN ?_
 refine QeM (fun s=>∃ (k m:Nat),s=((m:Int),(k:Int))∧k≤r.visits.length∧m<1024∧∀ i:Nat,m.testBit i=hasO (r.visits.take k) (i:Int)) (fun s=>r.visits.length-s.2.toNat) ⟨0,0,rfl,Nat.zero_le _,by omega,fun i=>by simp [hasO]⟩ (by simp; omega) ?_
 rintro _ ⟨k,m,rfl,hk,hm,hb⟩
 show post (Qd1 r (m:Int) (k:Int)) _
 unfold Qd1
 rcases Nat.lt_or_ge k r.visits.length with h|h
 ·have e:r.visits[k]?=some r.visits[k]:=List.getElem?_eq_getElem h
  have hin:=QpF ho (List.getElem_mem h)
  have htk:r.visits.take (k+1)=r.visits.take k++[r.visits[k]]:=by rw [List.take_add_one,e]; rfl
  generalize r.visits[k]=v at e hin htk
  obtain ⟨n,hn⟩:∃ n:Nat,v.order=n:=⟨v.order.toNat,by omega⟩
  have hov:∀ i:Nat,hasO (r.visits.take (k+1)) (i:Int)=(hasO (r.visits.take k) (i:Int)||decide (n=i)):=fun i=>by
   rw [htk]
   unfold hasO
   rw [List.any_append,List.any_cons,List.any_nil,Bool.or_false]
   congr 1
   rw [Bool.eq_iff_iff,QzZ,hn,decide_eq_true_iff]
   omega
  rw [Qcm e,QaO (by rw [hn]; simp; omega),QBc (by omega) (by omega) (by omega),Qaj,incL e hl,hn]
  simp only [Int.toNat_natCast]
  refine Qa0 (fun h1=>Qhj ⟨⟨k+1,m,rfl,h,hm,fun i=>?_⟩,by simp; omega⟩) (fun h1=>?_)
  ·rw [hov,← hb]
   by_cases hi:n=i
   ·subst hi; rw [h1]; rfl
   ·rw [decide_eq_false hi,Bool.or_false]
  ·rw [cvuN (by omega),Qd6 (by omega),shlN (by omega)]
   have h2:2 ^ n≤2 ^ 9:=Nat.pow_le_pow_right (by omega) (by omega)
   have h3:(0:Int)≤((2 ^ n:Nat):Int)∧((2 ^ n:Nat):Int)≤512:=⟨Int.natCast_nonneg _,Int.ofNat_le.2 (show 2 ^ n≤512 by omega)⟩
   rw [addI (by omega) (by omega)]
   have hbit:∀ i,(m+2 ^ n).testBit i=hasO (r.visits.take (k+1)) (i:Int):=fun i=>by rw [QFK h1,hov,hb]
   refine Qhj ⟨⟨k+1,m+2 ^ n,by simp,h,?_,hbit⟩,by simp; omega⟩
   refine Nat.lt_pow_two_of_testBit (n:=10) _ fun i hi=>?_
   rw [hbit]
   rw [Bool.eq_false_iff]
   intro hh
   obtain ⟨w,hw,hwi⟩:=Qvb.1 hh
   have:=QpF ho (List.mem_of_mem_take hw)
   omega
 ·obtain rfl:k=r.visits.length:=by omega
  rw [Qbw]
  refine QdT ?_
  rw [Qgh]
  exact QaH.2 ⟨rfl,⟨m,rfl,hm,fun i=>by rw [hb,List.take_length]⟩⟩
theorem QCu.has {s:Int} (h:QCu l s) {i:Int} (h0:0≤i) (h1:i≤62):Qee s i=some (hasO l i):=by
 obtain ⟨m,rfl,hm,hb⟩:=h.ex
 rw [QBc (by omega) h0 h1,hb,Int.toNat_of_nonneg h0]
theorem QAA (hx:QbW x) {s:Int} (h:QCu l s):Qep x s=some (!x.apart.any (Qu0 l)):=by
 have ha:=hx.apart
 have hx10:=hx.orders
 have:=QiW (B:=fun i=>QcE x s i) (l:=x.apart) (by omega) (Qu0 l) (y:=(.inr false:Unit⊕Bool)) (N:=.inl ()) (fun i a ha'=>by
  obtain ⟨p0,p1,p2,p3,p4⟩:=hx.aparts a (List.mem_of_getElem? ha')
  show QcE x s i=_
  unfold QcE
  rw [Qcm ha',h.has p0 (by omega),Qaj,h.has p2 (by omega),Qaj,incL ha' (by omega)]
  unfold Qu0
  cases hasO l a.x0 <;> cases hasO l a.x1 <;> rfl) (by
  show QcE x s x.apart.length=_
  unfold QcE
  rw [Qbw])
 unfold Qep
 rw [Qcw this]
 cases x.apart.any (Qu0 l) <;> rfl
theorem QEV {p:QaR} (hne:p.x0≠p.x1) (hb:hasO l p.x1=true):QDd l p=true↔∃ j,j<l.length∧∃ k,k<j∧(∃ v,l[j]?=some v∧v.order=p.x0)∧∃ w,l[k]?=some w∧w.order=p.x1:=by
 unfold QDd
 cases h:ixP (isO p.x1) l with
 | none =>
  obtain ⟨w,hw,he⟩:=Qvb.1 hb
  have:=QwC h w hw
  rw [QzZ.2 he] at this
  cases this
 | some m =>
  obtain ⟨g1,g2,g3⟩:=QqY h
  simp only
  rw [Qvb]
  constructor
  ·rintro ⟨v,hv,he⟩
   obtain ⟨q,hq,rfl⟩:=List.getElem_of_mem hv
   rw [List.length_drop] at hq
   rw [List.getElem_drop] at he
   have hmq:q≠0:=fun h0=>by subst h0; exact hne (he.symm.trans (QzZ.1 (by simpa using g2)))
   exact ⟨m+q,by omega,m,by omega,⟨_,List.getElem?_eq_getElem (by omega),he⟩,⟨_,List.getElem?_eq_getElem g1,QzZ.1 g2⟩⟩
  ·rintro ⟨j,hj,k,hk,⟨v,hv,he⟩,⟨w,hw,hwe⟩⟩
   have hmk:m≤k:=Nat.le_of_not_lt fun hlt=>by
    have:=g3 k hlt
    rw [List.getElem?_eq_getElem (show k<l.length by omega)] at hw
    rw [Option.some.inj hw,QzZ.2 hwe] at this
    cases this
   exact ⟨v,List.mem_iff_getElem?.2 ⟨j-m,by rw [List.getElem?_drop,show m+(j-m)=j by omega,hv]⟩,he⟩
theorem QzO (hx:QbW x) (hl:l.length≤1048576) {s:Int} (h:QCu l s):QdO x s l=some (!x.before.any (badB l)):=by
 have hbf:=hx.before
 have hx10:=hx.orders
 have:=QiW (B:=fun i=>Qcg x s l i) (l:=x.before) (by omega) (badB l) (y:=(.inr false:Unit⊕Bool)) (N:=.inl ()) (fun i a ha'=>by
  obtain ⟨p0,p1,p2,p3,p4⟩:=hx.befores a (List.mem_of_getElem? ha')
  show Qcg x s l i=_
  unfold Qcg
  rw [Qcm ha',h.has p2 (by omega),Qaj,h.has p0 (by omega),Qaj,incL ha' (by omega)]
  have hP:badB l a=(hasO l a.x1&&(!hasO l a.x0||QDd l a)):=rfl
  generalize badB l a=P at hP ⊢
  cases hb:hasO l a.x1 with
  | false=>rw [hb] at hP; subst hP; rfl
  | true =>
   rw [hb] at hP
   cases hq:hasO l a.x0 with
   | false=>rw [hq] at hP; subst hP; rfl
   | true =>
    rw [hq] at hP
    obtain rfl:P=QDd l a:=hP
    have inner:QaT (fun q=>Qch x s l (i:Int) a q) 0=some (if QDd l a=true then .inr false else .inl ()):=by
     refine QwV hl (fun j=>(List.range j).any fun k=>match l[j]?,l[k]? with|some v,some w=>decide (v.order=a.x0)&&decide (w.order=a.x1)|_,_=>false) ?_ (fun j hj=>?_) ?_
     ·rw [QEV p4 hb]
      constructor
      ·rintro ⟨j,hj,k,hk,⟨v,hv,e1⟩,⟨w,hw,e2⟩⟩
       refine ⟨j,hj,List.any_eq_true.2 ⟨k,List.mem_range.2 hk,?_⟩⟩
       rw [hv,hw]; simp [e1,e2]
      ·rintro ⟨j,hj,hh⟩
       obtain ⟨k,hk,hm⟩:=List.any_eq_true.1 hh
       rw [List.mem_range] at hk
       rw [List.getElem?_eq_getElem hj,List.getElem?_eq_getElem (show k<l.length by omega)] at hm
       simp only [Bool.and_eq_true,decide_eq_true_iff] at hm
       exact ⟨j,hj,k,hk,⟨_,List.getElem?_eq_getElem hj,hm.1⟩,⟨_,List.getElem?_eq_getElem (show k<l.length by omega),hm.2⟩⟩
     ·have ej:l[j]?=some l[j]:=List.getElem?_eq_getElem hj
      show Qch x s l (i:Int) a j=_
      unfold Qch
      rw [QaY (by simp [lenI]; omega),inc hj hl]
      have in2:=QwV (B:=fun q=>Qci x s l (i:Int) a (j:Int) q) (n:=j) (by omega) (fun k=>match l[j]?,l[k]? with|some v,some w=>decide (v.order=a.x0)&&decide (w.order=a.x1)|_,_=>false) (y:=(.inr false:Unit⊕Bool)) (N:=.inl ())
       (b:=(List.range j).any fun k=>match l[j]?,l[k]? with|some v,some w=>decide (v.order=a.x0)&&decide (w.order=a.x1)|_,_=>false) (by
        rw [List.any_eq_true]
        exact ⟨fun ⟨k,hk,hm⟩=>⟨k,List.mem_range.1 hk,hm⟩,fun ⟨k,hk,hm⟩=>⟨k,List.mem_range.2 hk,hm⟩⟩) (fun k hk=>by
       have ek:l[k]?=some (l[k]'(by omega)):=List.getElem?_eq_getElem _
       show Qci x s l (i:Int) a (j:Int) k=_
       unfold Qci
       rw [QaY (by simp; omega),QaX ej,Qaj,QaX ek,Qaj,inc (n:=l.length) (by omega) hl,ej,ek]
       simp only [brs,QvW,Bool.and_eq_true,decide_eq_true_iff]
       by_cases c1:(l[j]).order=a.x0
       ·rw [if_pos c1]
        by_cases c2:(l[k]'(by omega)).order=a.x1
        ·rw [if_pos c2,if_pos ⟨c1,c2⟩]
        ·rw [if_neg c2,if_neg fun h=>c2 h.2]
       ·rw [if_neg c1,if_neg fun h=>c1 h.1]) (by
       show Qci x s l (i:Int) a (j:Int) j=_
       unfold Qci
       rw [QaO (by simp)])
      rw [Qcw in2]
      split <;> rfl
     ·show Qch x s l (i:Int) a l.length=_
      unfold Qch
      rw [QaO (by simp [lenI])]
    rw [QjV,QjV,Qcw inner]
    cases QDd l a <;> rfl) (by
  show Qcg x s l x.before.length=_
  unfold Qcg
  rw [Qbw])
 unfold QdO
 rw [Qcw this]
 cases x.before.any (badB l) <;> rfl
theorem Qw4 {r:Qad} (hx:QbW x) (hl:r.visits.length≤1048576):Qgw x r=some (seqS x r.visits):=by
 unfold Qgw seqS
 rw [Qcw (QiW (B:=fun s=>QcC x r s) hl (fun v=>!inO x v) (y:=(.inr 2:Unit⊕Int)) (N:=.inl ()) (fun i a h=>by
  show QcC x r i=_
  unfold QcC
  rw [Qcm h,incL h hl]
  have hP:(!inO x a)=(ltI a.order 0||geI a.order (lenI x.orders)):=by
   unfold inO lenI; rw [Bool.eq_iff_iff]; simp
  rw [hP]
  cases ltI a.order 0 <;> cases geI a.order (lenI x.orders) <;> rfl) (by
  show QcC x r r.visits.length=_
  unfold QcC
  rw [Qbw]))]
 by_cases h1:r.visits.any (fun v=>!inO x v)=true
 ·rw [if_pos h1,Qjn]
  split <;> rfl
 have h1':r.visits.any (fun v=>!inO x v)=false:=by simpa using h1
 rw [if_neg h1,if_neg h1,Qgh]
 obtain ⟨s,hs,hs0,hset⟩:=QFc hx hl h1'
 rw [hs,Qaj,hs0]
 by_cases h0:r.visits.length=0
 ·rw [QaY (by simp [lenI,h0]),if_pos h0]
 rw [QaO (by simp only [lenI,neI,orF,QCy]; simp; intro h; exact h0 (by rw [h]; rfl)),if_neg h0]
 rw [Qcw (QiW (B:=fun q=>Qb7 x r s q) hl (offV x) (y:=(.inr 9:Unit⊕Int)) (N:=.inl ()) (fun i a h=>by
  obtain ⟨h0,h1⟩:=QpF h1' (List.mem_of_getElem? h)
  obtain ⟨o,g1,g2,g3,_⟩:=Qzi h0 h1
  show Qb7 x r s i=_
  unfold Qb7
  rw [Qcm h,g1,Qaj,incL h hl,brs,g3]) (by
  show Qb7 x r s r.visits.length=_
  unfold Qb7
  rw [Qbw]))]
 by_cases h2:r.visits.any (offV x)=true
 ·rw [if_pos h2,if_pos h2]; rfl
 rw [if_neg h2,if_neg h2,Qgh]
 rw [Qcw (QwV (B:=fun q=>QbR x r s q) hl (fun k=>match r.visits[k]? with|some v=>neI (ixI (isV v) r.visits) (k:Int)|none=>false) (y:=(.inr 6:Unit⊕Int)) (N:=.inl ()) (b:=decide (¬ r.visits.Nodup)) (by
  rw [decide_eq_true_iff,QwI]
  constructor
  ·rintro ⟨k,hk,j,hj,he⟩
   refine ⟨k,hk,?_⟩
   rw [List.getElem?_eq_getElem hk] at he ⊢
   simp only [Qzf]
   intro h
   exact (Qxo h).2 j hj he
  ·rintro ⟨k,hk,h⟩
   rw [List.getElem?_eq_getElem hk] at h
   simp only [Qzf] at h
   have h0:=QBl.2 (List.getElem_mem hk)
   obtain ⟨m,hm⟩:∃ m:Nat,ixI (isV r.visits[k]) r.visits=m:=⟨(ixI (isV r.visits[k]) r.visits).toNat,by omega⟩
   obtain ⟨g1,g2⟩:=Qxo hm
   have hmk:m<k:=by
    rcases Nat.lt_trichotomy m k with h'|h'|h'
    ·exact h'
    ·exact absurd (by rw [hm,h']) h
    ·exact absurd (List.getElem?_eq_getElem hk) (g2 k h')
   exact ⟨k,hk,m,hmk,by rw [g1,List.getElem?_eq_getElem hk]⟩) (fun i hi=>by
  have h:r.visits[i]?=some r.visits[i]:=List.getElem?_eq_getElem hi
  show QbR x r s i=_
  unfold QbR
  rw [Qcm h,QqQ hl,Qaj,incL h hl,brs,h]) (by
  show QbR x r s r.visits.length=_
  unfold QbR
  rw [Qbw]))]
 by_cases h3:¬ r.visits.Nodup
 ·rw [if_pos (decide_eq_true h3),if_pos h3]; rfl
 rw [if_neg (by rw [decide_eq_false h3]; decide),if_neg h3,Qgh,Qz2 hx hl h1',Qaj]
 by_cases h4:r.visits.any (fun v=>!QwM x r.visits v)=true
 ·rw [QaO (by rw [h4]; rfl),if_pos h4]
 rw [QaY (by simpa using h4),if_neg h4,QAA hx hset,Qaj]
 by_cases h5:x.apart.any (Qu0 r.visits)=true
 ·rw [QaO (by rw [h5]; rfl),if_pos h5]
 rw [QaY (by simpa using h5),if_neg h5,QzO hx hl hset,Qaj]
 by_cases h6:x.before.any (badB r.visits)=true
 ·rw [QaO (by rw [h6]; rfl),if_pos h6]
 ·rw [QaY (by simpa using h6),if_neg h6]
end
end Go.Proofs.YtpkkaboonnedfaaGreatDoor
namespace Go.Proofs.YtpkkaboonnedfaaGreatDoor
set_option linter.unusedSimpArgs false
set_option linter.unusedVariables false
set_option linter.unusedSectionVars false
def sumN:Nat→(Nat→Int)→Int
 | 0,_=>0
 | n+1,f=>sumN n f+f n
theorem QxN {f g:Nat→Int}:∀ n,(∀ i,i<n→f i=g i)→sumN n f=sumN n g
 | 0,_=>rfl
 | n+1,h=>by unfold sumN; rw [QxN n fun i hi=>h i (by omega),h n (by omega)]
theorem Qyx {f g:Nat→Int} {o:Nat}:∀ n,o<n→(∀ i,i≠o→g i=f i)→sumN n g=sumN n f+(g o-f o)
 | 0,h,_=>by omega
 | n+1,h,hg=>by
  unfold sumN
  rcases Nat.lt_or_eq_of_le (Nat.le_of_lt_succ h) with h'|rfl
  ·rw [Qyx n h' hg,hg n (by omega)]; omega
  ·rw [QxN _ fun i hi=>hg i (by omega)]; omega
theorem QzB {f : Nat → Int} {n : Nat} : ∀ m, n ≤ m → (∀ i, n ≤ i → f i = 0) → sumN m f = sumN n f
  | 0, h, _ => by obtain rfl : n = 0 := by omega
                  rfl
  | m + 1, h, hf => by
    rcases Nat.lt_or_eq_of_le h with h' | rfl
    · unfold sumN; rw [QzB m (by omega) hf, hf m (by omega)]
      cases n <;> simp [sumN]
    · rfl
theorem QzA {f:Nat→Int} {c:Int} (hc:0≤c):∀ n,(∀ i,0≤f i∧f i≤c)→0≤sumN n f∧sumN n f≤n*c
 | 0,_=>by simp [sumN]
 | n+1,h=>by
  have h1:=QzA hc n h
  have h2:=h n
  unfold sumN
  rw [show ((n+1:Nat):Int)*c=n*c+c by rw [Int.natCast_add,Int.add_mul]; simp]
  omega
def vecN (D:Nat) (f:Nat→Int):List Int:=(List.range D).map f
theorem Qhl {D:Nat} {f:Nat→Int}:(vecN D f).length=D:=by simp [vecN]
theorem QjT {D:Nat} {f:Nat→Int} {k:Nat} (h:k<D):(vecN D f)[k]?=some (f k):=by simp [vecN,h]
theorem QiG {D:Nat} {f g:Nat→Int} (h:∀ d,d<D→f d=g d):vecN D f=vecN D g:=by
 unfold vecN
 exact List.map_congr_left fun d hd=>h d (List.mem_range.1 hd)
theorem QCo {D:Nat} {f:Nat→Int} {k:Nat} {y:Int} (h:k<D):setI (vecN D f) (k:Int) y=vecN D (fun d=>if d=k then y else f d):=by
 unfold setI
 refine List.ext_getElem? fun i=>?_
 rw [List.getElem?_set]
 simp only [Int.toNat_natCast,Qhl]
 split
 ·rename_i he
  subst he
  exact ((QjT (f:=fun d=>if d=k then y else f d) h).trans (by simp)).symm
 ·rename_i he
  rcases Nat.lt_or_ge i D with h'|h'
  ·rw [QjT h',QjT h',if_neg (by omega)]
  ·rw [List.getElem?_eq_none (by rw [Qhl]; omega),List.getElem?_eq_none (by rw [Qhl]; omega)]
theorem QGH {l:List Int}:l=vecN l.length (fun d=>l.getD d 0):=by
 refine List.ext_getElem? fun i=>?_
 rcases Nat.lt_or_ge i l.length with h|h
 ·rw [QjT h,List.getElem?_eq_getElem h,List.getD_eq_getElem?_getD,List.getElem?_eq_getElem h]; rfl
 ·rw [List.getElem?_eq_none h,List.getElem?_eq_none (by rw [Qhl]; omega)]
theorem QyP {D:Nat} {f g h:Nat→Int} (hD:D≤3) {B:List Int×Int→Option ((List Int×Int)⊕(List Int))}
  (hin:∀ (k:Nat) (l1:List Int),k<D→l1.length=D→B (l1,(k:Int))=some (.inl (setI l1 k (h k),(k:Int)+1))) (hend:∀ l1:List Int,B (l1,(D:Int))=some (.inr l1)) :
  QaT B (List.replicate D 0,0)=some (vecN D h):=by
 have h0:(List.replicate D (0:Int),(0:Int))=(vecN D (fun d=>if d<0 then h d else 0),((0:Nat):Int)):=by
  congr 1
  refine List.ext_getElem? fun i=>?_
  rcases Nat.lt_or_ge i D with h|h
  ·rw [QjT h]; simp [h]
  ·rw [List.getElem?_eq_none (by simp; omega),List.getElem?_eq_none (by rw [Qhl]; omega)]
 rw [h0]
 refine QcJ D (fun k=>(vecN D (fun d=>if d<k then h d else 0),(k:Int))) (by omega) (fun k hk=>?_) ?_
 ·rw [hin k _ hk Qhl,QCo hk]
  simp only [Int.natCast_add,Int.cast_ofNat_Int]
  congr 3
  refine QiG fun d hd=>?_
  by_cases h1:d=k
  ·rw [if_pos h1,if_pos (by omega),h1]
  ·rw [if_neg h1]
   by_cases h2:d<k
   ·rw [if_pos h2,if_pos (by omega)]
   ·rw [if_neg h2,if_neg (by omega)]
 ·rw [hend]
  congr 2
  exact QiG fun d hd=>if_pos hd
theorem QFE {D:Nat} {f g:Nat→Int} (hD:D≤3) (hf:∀ d,d<D→-4000000000≤f d∧f d≤4000000000) (hg:∀ d,d<D→-4000000000≤g d∧g d≤4000000000):QrQ (vecN D f) (vecN D g)=some (vecN D (fun d=>f d+g d),0):=by
 unfold QrQ Qh3
 rw [QaO (by simp [lenI,Qhl])]
 have hm:mkI (lenI (vecN D f)) (lenI (vecN D f)) 8 (0:Int)=some (List.replicate D 0):=by
  unfold mkI lenI
  rw [Qhl,if_pos (by omega)]
  rfl
 rw [hm,Qaj]
 rw [Qcw (QyP (D:=D) (f:=f) (g:=g) (h:=fun d=>f d+g d) hD (B:=fun s=>QbZ (vecN D f) (vecN D g) (List.replicate D 0) s.1 s.2) (fun k l1 hk hl=>by
  have a1:=hf k hk
  have a2:=hg k hk
  show QbZ (vecN D f) (vecN D g) (List.replicate D 0) l1 k=_
  unfold QbZ Qti
  rw [Qcm (QjT hk),QaX (QjT hk),Qaj,Qaj,QtR (by omega),Qaj,addI (by omega) (by omega),addI (by omega) (by omega)]) (fun l1=>by
  show QbZ (vecN D f) (vecN D g) (List.replicate D 0) l1 D=_
  unfold QbZ
  rw [QaO (by simp [lenI,Qhl])]))]
 rfl
theorem QGX {D:Nat} {f g:Nat→Int} (hD:D≤3) (hf:∀ d,d<D→-4000000000≤f d∧f d≤4000000000) (hg:∀ d,d<D→-4000000000≤g d∧g d≤4000000000):Qth (vecN D f) (vecN D g)=some (vecN D (fun d=>f d-g d),0):=by
 unfold Qth Qhm
 rw [QaO (by simp [lenI,Qhl])]
 have hm:mkI (lenI (vecN D f)) (lenI (vecN D f)) 8 (0:Int)=some (List.replicate D 0):=by
  unfold mkI lenI
  rw [Qhl,if_pos (by omega)]
  rfl
 rw [hm,Qaj]
 rw [Qcw (QyP (D:=D) (f:=f) (g:=g) (h:=fun d=>f d-g d) hD (B:=fun s=>QbN (vecN D f) (vecN D g) (List.replicate D 0) s.1 s.2) (fun k l1 hk hl=>by
  have a1:=hf k hk
  have a2:=hg k hk
  show QbN (vecN D f) (vecN D g) (List.replicate D 0) l1 k=_
  unfold QbN QrR
  rw [Qcm (QjT hk),QaX (QjT hk),Qaj,Qaj,QtR (by omega),Qaj,subI (by omega) (by omega),addI (by omega) (by omega)]) (fun l1=>by
  show QbN (vecN D f) (vecN D g) (List.replicate D 0) l1 D=_
  unfold QbN
  rw [QaO (by simp [lenI,Qhl])]))]
 rfl
section
variable {x : Qac} {l : List Qaa} {r : Qad}
theorem QCu.Has {s:Int} (h:QCu l s) {i:Int} (h0:0≤i) (h1:i≤62):QvC s i=some (hasO l i):=by
 obtain ⟨m,rfl,hm,hb⟩:=h.ex
 obtain ⟨k,rfl⟩:∃ k:Nat,i=k:=⟨i.toNat,by omega⟩
 unfold QvC
 rw [QaY (by simp; omega),Qd6 (by omega),shrN (by omega)]
 have hd:=Nat.div_le_self m (2 ^ k)
 rw [show (1:Int)=((1:Nat):Int) from rfl,andN (by omega) (by omega),Nat.and_one_is_mod,← hb,Nat.testBit_eq_decide_div_mod_eq]
 congr 1
 generalize m / 2 ^ k=q
 rw [Bool.eq_iff_iff,QvW,decide_eq_true_iff]
 omega
theorem QzK (hx:QbW x) (hl:r.visits.length≤1048576) (ho:r.visits.any (fun v=>!inO x v)=false):post (QiB r) fun s=>s.2=0∧QCu r.visits s.1:=by
 have hx10:=hx.orders
 unfold QiB
 refine QpN ?_
 refine QeM (fun s=>∃ (k m:Nat),s=((m:Int),(k:Int))∧k≤r.visits.length∧m<1024∧∀ i:Nat,m.testBit i=hasO (r.visits.take k) (i:Int)) (fun s=>r.visits.length-s.2.toNat) ⟨0,0,rfl,Nat.zero_le _,by omega,fun i=>by simp [hasO]⟩ (by simp; omega) ?_
 rintro _ ⟨k,m,rfl,hk,hm,hb⟩
 show post (Qfi r (m:Int) (k:Int)) _
 unfold Qfi
 rcases Nat.lt_or_ge k r.visits.length with h|h
 ·have e:r.visits[k]?=some r.visits[k]:=List.getElem?_eq_getElem h
  have hin:=QpF ho (List.getElem_mem h)
  have htk:r.visits.take (k+1)=r.visits.take k++[r.visits[k]]:=by rw [List.take_add_one,e]; rfl
  generalize r.visits[k]=v at e hin htk
  obtain ⟨n,hn⟩:∃ n:Nat,v.order=n:=⟨v.order.toNat,by omega⟩
  have hov:∀ i:Nat,hasO (r.visits.take (k+1)) (i:Int)=(hasO (r.visits.take k) (i:Int)||decide (n=i)):=fun i=>by
   rw [htk]
   unfold hasO
   rw [List.any_append,List.any_cons,List.any_nil,Bool.or_false]
   congr 1
   rw [Bool.eq_iff_iff,QzZ,hn,decide_eq_true_iff]
   omega
  have h2:2 ^ n≤2 ^ 9:=Nat.pow_le_pow_right (by omega) (by omega)
  rw [Qcm e,QaO (by rw [hn]; simp; omega),Qd6 (by omega),incL e hl,hn,shlN (by omega),orN (by omega) (by omega)]
  have hbit:∀ i,(m ||| 2 ^ n).testBit i=hasO (r.visits.take (k+1)) (i:Int):=fun i=>by rw [Nat.testBit_or,Nat.testBit_two_pow,hov,hb]
  refine Qhj ⟨⟨k+1,m ||| 2 ^ n,by simp,h,?_,hbit⟩,by simp; omega⟩
  exact Nat.or_lt_two_pow (n:=10) hm (by omega)
 ·obtain rfl:k=r.visits.length:=by omega
  rw [Qbw]
  refine QdT ?_
  rw [Qgh]
  exact QaH.2 ⟨rfl,⟨m,rfl,hm,fun i=>by rw [hb,List.take_length]⟩⟩
def memN (l:List Qaa):Nat→List Int
 | 0=>[]
 | n+1=>memN l n++(if hasO l (n:Int)=true then [(n:Int)] else [])
theorem Qya:∀ n,(memN l n).length≤n
 | 0=>Nat.le_refl 0
 | n+1=>by have:=Qya n; unfold memN; split <;> simp <;> omega
theorem QAv {s:Int} (h:QCu l s):QnO s=some (memN l 63):=by
 unfold QnO
 have this:QaT (fun q:List Int×Int=>QdD s q.1 q.2) ([],0)=some (memN l 63):=QcJ 63 (fun k=>(memN l k,(k:Int))) (B:=fun q=>QdD s q.1 q.2) (by omega) (fun k hk=>by
  show QdD s (memN l k) (k:Int)=_
  have:=Qya (l:=l) k
  unfold QdD
  rw [QaY (by simp; omega),h.Has (by omega) (by omega),Qaj,addI (by omega) (by omega),Qd6 (by unfold okN; simp; omega),brs]
  show _=some (Sum.inl (memN l k++(if hasO l (k:Int)=true then [(k:Int)] else []),((k+1:Nat):Int)))
  split <;> simp) (by
  show QdD s (memN l 63) ((63:Nat):Int)=_
  unfold QdD
  rw [QaO (by decide)])
 rw [Qcw this]
end
end Go.Proofs.YtpkkaboonnedfaaGreatDoor
namespace Go.Proofs.YtpkkaboonnedfaaGreatDoor
set_option linter.unusedSimpArgs false
set_option linter.unusedVariables false
set_option linter.unusedSectionVars false
def sumF {α:Type} (f:α→Int) (l:List α):Int:=(l.map f).sum
theorem Qs4 {α:Type} {f:α→Int} {a b:List α}:sumF f (a++b)=sumF f a+sumF f b:=by simp [sumF,List.sum_append]
theorem Qs5 {α:Type} {f:α→Int} {a:α}:sumF f [a]=f a:=by simp [sumF]
theorem QCk {α:Type} {f:α→Int}:sumF f []=0:=rfl
theorem take_one {α:Type} {l:List α} {k:Nat} {a:α} (h:l[k]?=some a):l.take (k+1)=l.take k++[a]:=by rw [List.take_add_one,h]; rfl
theorem QuW {α:Type} {f:α→Int} {l:List α} {k:Nat} {a:α} (h:l[k]?=some a):sumF f (l.take (k+1))=sumF f (l.take k)+f a:=by rw [take_one h,Qs4,Qs5]
theorem Qzz {α:Type} {f:α→Int}:∀ {l:List α},(∀ a∈l,0≤f a∧f a≤1000)→0≤sumF f l∧sumF f l≤1000*l.length
 | [],_=>by simp [sumF]
 | a :: l,h=>by
  have h1:=Qzz (f:=f) (l:=l) fun b hb=>h b (List.mem_cons_of_mem _ hb)
  have h2:=h a (List.mem_cons_self ..)
  have e:sumF f (a :: l)=f a+sumF f l:=by simp [sumF]
  rw [e,List.length_cons]
  omega
section
variable (x : Qac)
def Qvi (i d:Nat):Int:=match x.orders[i]? with
 | some o=>o.load.getD d 0
 | none=>0
def pk0 (i:Nat):Bool:=match x.orders[i]? with
 | some o=>decide (o.pick.place<0)
 | none=>false
def onK (l:List Qaa) (i:Nat):Bool:=l.foldl (fun b v=>if v.order=(i:Int) then !v.drop else b) (pk0 x i)
def incl (l:List Qaa) (k i d:Nat):Int:=if (hasO l (i:Int)&&onK x (l.take k) i)=true then Qvi x i d else 0
def Qvh (l:List Qaa) (k d:Nat):Int:=sumN x.orders.length fun i=>incl x l k i d
end
section
variable {x : Qac} {l : List Qaa} {r : Qad}
theorem QBH (hx:QbW x) {i:Nat} (hi:i<x.orders.length):∃ o,x.orders[i]?=some o∧o∈x.orders∧o.load=vecN (Qej x.types) (Qvi x i)∧(∀ d,0≤Qvi x i d∧Qvi x i d≤1000)∧pk0 x i=decide (o.pick.place<0):=by
 have e:x.orders[i]?=some x.orders[i]:=List.getElem?_eq_getElem hi
 have hm:=List.getElem_mem hi
 generalize x.orders[i]=o at e hm
 have hO:=hx.ord o hm
 refine ⟨o,e,hm,?_,fun d=>?_,by unfold pk0; rw [e]⟩
 ·have:=QGH (l:=o.load)
  rw [hO.load] at this
  rw [this]
  refine QiG fun d hd=>?_
  unfold Qvi
  rw [e]
 ·unfold Qvi
  rw [e]
  simp only
  rw [List.getD_eq_getElem?_getD]
  rcases Nat.lt_or_ge d o.load.length with h|h
  ·rw [List.getElem?_eq_getElem h]
   exact hO.loads d h _ (List.getElem?_eq_getElem h)
  ·rw [List.getElem?_eq_none h]; simp
theorem Qx9 (hx:QbW x) (i d:Nat):0≤Qvi x i d∧Qvi x i d≤1000:=by
 rcases Nat.lt_or_ge i x.orders.length with h|h
 ·obtain ⟨o,_,_,_,h,_⟩:=QBH hx h
  exact h d
 ·unfold Qvi
  rw [List.getElem?_eq_none h]; simp
theorem QE2 (hx:QbW x) (k d:Nat):0≤Qvh x l k d∧Qvh x l k d≤10000:=by
 have h:=QzA (f:=fun i=>incl x l k i d) (c:=1000) (by omega) x.orders.length fun i=>by
  have:=Qx9 hx i d
  unfold incl
  split <;> omega
 have:=hx.orders
 unfold Qvh
 omega
theorem QyS (hx:QbW x):1≤Qej x.types∧Qej x.types≤3:=by
 have h1:=hx.types1
 cases ht:x.types with
 | nil=>rw [ht] at h1; simp at h1
 | cons t ts =>
  have:=(hx.typ t (by rw [ht]; simp)).dims1
  rw [ht] at this
  exact this
structure QvP (x:Qac) (l:List Qaa):Prop where
 ne:l.length≠0
 inn:l.any (fun v=>!inO x v)=false
 off:l.any (offV x)=false
 nodup:l.Nodup
 pair:∀ v∈l,QwM x l v=true
 apart:x.apart.any (Qu0 l)=false
 before:x.before.any (badB l)=false
theorem Qzu (h:seqS x l=0):QvP x l:=by
 unfold seqS at h
 by_cases h0:l.length=0
 ·rw [if_pos h0] at h; cases h
 rw [if_neg h0] at h
 by_cases h1:l.any (fun v=>!inO x v)=true
 ·rw [if_pos h1] at h; cases h
 rw [if_neg h1] at h
 by_cases h2:l.any (offV x)=true
 ·rw [if_pos h2] at h; cases h
 rw [if_neg h2] at h
 by_cases h3:¬ l.Nodup
 ·rw [if_pos h3] at h; cases h
 rw [if_neg h3] at h
 by_cases h4:l.any (fun v=>!QwM x l v)=true
 ·rw [if_pos h4] at h; cases h
 rw [if_neg h4] at h
 by_cases h5:x.apart.any (Qu0 l)=true
 ·rw [if_pos h5] at h; cases h
 rw [if_neg h5] at h
 by_cases h6:x.before.any (badB l)=true
 ·rw [if_pos h6] at h; cases h
 refine ⟨h0,by simpa using h1,by simpa using h2,Classical.not_not.1 h3,fun v hv=>?_,by simpa using h5,by simpa using h6⟩
 have:=List.any_eq_false.1 (by simpa using h4:l.any (fun v=>!QwM x l v)=false) v hv
 simpa using this
theorem QuP {b:Bool} {i:Nat}:∀ {m:List Qaa},(∀ v∈m,v.order≠(i:Int))→m.foldl (fun b v=>if v.order=(i:Int) then !v.drop else b) b=b
 | [],_=>rfl
 | v :: m,h=>by
  rw [List.foldl_cons,if_neg (h v (List.mem_cons_self ..))]
  exact QuP fun w hw=>h w (List.mem_cons_of_mem _ hw)
theorem Qx3 {c:Bool} {i:Nat}:∀ {m:List Qaa} {b:Bool},(∀ v∈m,v.order=(i:Int)→v.drop=c)→(b=(!c)∨∃ v∈m,v.order=(i:Int))→m.foldl (fun b v=>if v.order=(i:Int) then !v.drop else b) b=!c
 | [],b,_,h=>by
  rcases h with h|⟨v,hv,_⟩
  ·exact h
  ·cases hv
 | v :: m,b,h,h'=>by
  rw [List.foldl_cons]
  by_cases hv:v.order=(i:Int)
  ·rw [if_pos hv]
   exact Qx3 (fun w hw=>h w (List.mem_cons_of_mem _ hw)) (.inl (by rw [h v (List.mem_cons_self ..) hv]))
  ·rw [if_neg hv]
   refine Qx3 (fun w hw=>h w (List.mem_cons_of_mem _ hw)) ?_
   rcases h' with h'|⟨w,hw,he⟩
   ·exact .inl h'
   ·rcases List.mem_cons.1 hw with rfl|hw
    ·exact absurd he hv
    ·exact .inr ⟨w,hw,he⟩
theorem QwH {j k:Nat} (h:l.Nodup) {v:Qaa} (hj:l[j]?=some v) (hk:l[k]?=some v):j=k:=by
 refine Classical.byContradiction fun hne=>?_
 have hj':=(List.getElem?_eq_some_iff.1 hj).1
 have hk':=(List.getElem?_eq_some_iff.1 hk).1
 refine (QwI.2 ?_) h
 rcases Nat.lt_or_gt_of_ne hne with hlt|hlt
 ·exact ⟨k,hk',j,hlt,by rw [hj,hk]⟩
 ·exact ⟨j,hj',k,hlt,by rw [hj,hk]⟩
theorem QHU (hx:QbW x) (h:QvP x l) {k:Nat} {v:Qaa} (hk:l[k]?=some v) {i:Nat} (hi:v.order=(i:Int)):onK x (l.take k) i=v.drop:=by
 have hv:=List.mem_of_getElem? hk
 have hkl:=(List.getElem?_eq_some_iff.1 hk).1
 have hin:=QpF h.inn hv
 obtain ⟨o,e,hm,_,_,hp⟩:=QBH hx (show i<x.orders.length by omega)
 have hO:=hx.ord o hm
 -- each visit of the order is one of the order's visits
 have vis:∀ w∈l,w.order=(i:Int)→w∈visO x (i:Int)∧rowB l (visO x (i:Int))=true:=fun w hw he=>by
  have:=h.pair w hw
  unfold QwM at this
  rw [he,Bool.and_eq_true,QCL] at this
  exact this
 have hvo:visO x (i:Int)=(if 0≤o.pick.place then [Qaa.mk i false] else [])++(if 0≤o.drop.place then [Qaa.mk i true] else []):=by
  unfold visO
  rw [Int.toNat_natCast,e]
 have same:∀ w∈l.take k,w.order=(i:Int)→w≠v:=fun w hw _ he=>by
  obtain ⟨j,hj,hje⟩:=(Qs6 (by omega)).1 hw
  rw [he] at hje
  have:=QwH h.nodup hje hk
  omega
 have drop_or:∀ w:Qaa,w.order=(i:Int)→w=Qaa.mk i w.drop:=fun w hw=>by cases w; simp at hw; subst hw; rfl
 obtain ⟨v1,v2⟩:=vis v hv hi
 unfold onK
 by_cases hpk:0≤o.pick.place
 ·have hp':pk0 x i=false:=by rw [hp]; simp; omega
  rw [if_pos hpk] at hvo
  by_cases hdr:0≤o.drop.place
  ·rw [if_pos hdr] at hvo
   rw [hvo] at v2
   simp only [List.cons_append,List.nil_append,rowB,Bool.and_eq_true,Qs7,Qsh] at v2
   obtain ⟨p,hpp⟩:∃ p:Nat,ixI (isV (Qaa.mk i false)) l=p:=⟨(ixI (isV (Qaa.mk i false)) l).toNat,by omega⟩
   obtain ⟨q,hqq⟩:∃ q:Nat,ixI (isV (Qaa.mk i true)) l=q:=⟨(ixI (isV (Qaa.mk i true)) l).toNat,by omega⟩
   obtain ⟨p1,p2⟩:=Qxo hpp
   obtain ⟨q1,q2⟩:=Qxo hqq
   have hpq:p<q:=by omega
   cases hd:v.drop with
   | false =>
    have hve:=drop_or v hi
    rw [hd] at hve
    have hkp:k=p:=QwH h.nodup (hve ▸ hk) p1
    rw [QuP fun w hw he=>?_,hp']
    have hwe:=drop_or w he
    cases hwd:w.drop with
    | false=>rw [hwd] at hwe; exact same w hw he (hwe.trans hve.symm)
    | true =>
     rw [hwd] at hwe
     obtain ⟨j,hj,hje⟩:=(Qs6 (by omega)).1 hw
     have:=QwH h.nodup (hwe ▸ hje) q1
     omega
   | true =>
    have hve:=drop_or v hi
    rw [hd] at hve
    have hkq:k=q:=QwH h.nodup (hve ▸ hk) q1
    refine Qx3 (c:=false) (fun w hw he=>?_) (.inr ⟨Qaa.mk i false,(Qs6 (by omega)).2 ⟨p,by omega,p1⟩,rfl⟩)
    have hwe:=drop_or w he
    cases hwd:w.drop with
    | false=>rfl
    | true=>rw [hwd] at hwe; exact absurd (hwe.trans hve.symm) (same w hw he)
  ·rw [if_neg hdr,List.append_nil] at hvo
   have only:∀ w∈l,w.order=(i:Int)→w=Qaa.mk i false:=fun w hw he=>by
    have:=(vis w hw he).1
    rw [hvo] at this
    exact List.mem_singleton.1 this
   rw [QuP fun w hw he=>same w hw he ((only w (List.mem_of_mem_take hw) he).trans (only v hv hi).symm),hp',only v hv hi]
 ·have hp':pk0 x i=true:=by rw [hp]; simp; omega
  rw [if_neg hpk,List.nil_append] at hvo
  have only:∀ w∈l,w.order=(i:Int)→w=Qaa.mk i true:=fun w hw he=>by
   have:=(vis w hw he).1
   rw [hvo] at this
   split at this
   ·exact List.mem_singleton.1 this
   ·cases this
  rw [QuP fun w hw he=>same w hw he ((only w (List.mem_of_mem_take hw) he).trans (only v hv hi).symm),hp',only v hv hi]
theorem QwJ {k i:Nat} {v:Qaa} (hk:l[k]?=some v):onK x (l.take (k+1)) i=if v.order=(i:Int) then !v.drop else onK x (l.take k) i:=by
 unfold onK
 rw [take_one hk,List.foldl_append]
 rfl
theorem QBt (hx:QbW x) (h:QvP x l) {k:Nat} {v:Qaa} (hk:l[k]?=some v) {i:Nat} (hi:v.order=(i:Int)) (d:Nat) :
  Qvh x l (k+1) d=if v.drop=true then Qvh x l k d-Qvi x i d else Qvh x l k d+Qvi x i d:=by
 have hin:=QpF h.inn (List.mem_of_getElem? hk)
 unfold Qvh
 rw [Qyx (f:=fun j=>incl x l k j d) (g:=fun j=>incl x l (k+1) j d) (o:=i) x.orders.length (by omega) (fun j hj=>by
  show incl x l (k+1) j d=incl x l k j d
  have e1:onK x (l.take (k+1)) j=onK x (l.take k) j:=by rw [QwJ hk,if_neg (by omega)]
  unfold incl
  rw [e1])]
 have ha:hasO l (i:Int)=true:=Qvb.2 ⟨v,List.mem_of_getElem? hk,hi⟩
 simp only [incl,ha,Bool.true_and]
 rw [QwJ hk,if_pos hi,QHU hx h hk hi]
 cases v.drop
 ·simp
 ·simp
  omega
end
end Go.Proofs.YtpkkaboonnedfaaGreatDoor
namespace Go.Proofs.YtpkkaboonnedfaaGreatDoor
set_option linter.unusedSimpArgs false
set_option linter.unusedVariables false
set_option linter.unusedSectionVars false
section
variable {x : Qac} {l : List Qaa} {r : Qad}
theorem QAT (hx:QbW x):QqO x.types=some (Qej x.types:Int)∧Qhb x=some (Qej x.types:Int):=by
 have h1:=hx.types1
 unfold QqO Qhb
 cases ht:x.types with
 | nil=>rw [ht] at h1; simp at h1
 | cons t ts =>
  constructor
  ·rw [QaO (by simp [lenI]; omega)]; rfl
  ·rw [QaO (by simp [lenI]; omega)]; rfl
theorem QBC {i:Int}:∀ {n:Nat},i∈memN l n→∃ k:Nat,i=k∧k<n∧hasO l (k:Int)=true
 | 0,h=>by cases h
 | n+1,h=>by
  unfold memN at h
  rcases List.mem_append.1 h with h|h
  ·obtain ⟨k,h1,h2,h3⟩:=QBC h
   exact ⟨k,h1,by omega,h3⟩
  ·split at h
   ·exact ⟨n,List.mem_singleton.1 h,by omega,‹_›⟩
   ·cases h
theorem QF7 (h:QvP x l) {i:Int} (hi:hasO l i=true):0≤i∧i<x.orders.length:=by
 obtain ⟨v,hv,rfl⟩:=Qvb.1 hi
 exact QpF h.inn hv
theorem QAH {α β:Type} {a:β} {y z:Option α}:br (neI (a,(0:Int)).2 0) y z=z:=rfl
def stO (x:Qac) (d:Nat) (i:Int):Int:=if pk0 x i.toNat=true then Qvi x i.toNat d else 0
theorem QHt (hx:QbW x) (d:Nat) (i:Int):0≤stO x d i∧stO x d i≤1000:=by
 have:=Qx9 hx i.toNat d
 unfold stO
 split <;> omega
theorem QEh (d:Nat):∀ n,sumF (stO x d) (memN l n)=sumN n fun i=>if (hasO l (i:Int)&&pk0 x i)=true then Qvi x i d else 0
 | 0=>rfl
 | n+1=>by
  show sumF (stO x d) (memN l n++(if hasO l (n:Int)=true then [(n:Int)] else []))=sumN n _+(if (hasO l (n:Int)&&pk0 x n)=true then Qvi x n d else 0)
  rw [Qs4,QEh d n]
  by_cases hh:hasO l (n:Int)=true
  ·rw [if_pos hh,Qs5,hh,Bool.true_and]; rfl
  ·rw [if_neg hh,QCk,if_neg (by simp [hh])]
theorem QDC (hx:QbW x) (h:QvP x l) {s:Int} (hs:QCu l s):QoK x s (Qej x.types:Int)=some (vecN (Qej x.types) (Qvh x l 0)):=by
 obtain ⟨hd1,hd3⟩:=QyS hx
 have hx10:=hx.orders
 have hm:=Qya (l:=l) 63
 unfold QoK
 have hz:mkI (Qej x.types:Int) (Qej x.types:Int) 8 (0:Int)=some (vecN (Qej x.types) fun d=>0):=by
  unfold mkI
  rw [if_pos (by omega)]
  congr 1
  refine List.ext_getElem? fun i=>?_
  rcases Nat.lt_or_ge i (Qej x.types) with h|h
  ·rw [QjT h]; simp [h]
  ·rw [List.getElem?_eq_none (by simp; omega),List.getElem?_eq_none (by rw [Qhl]; omega)]
 rw [hz,Qaj,QAv hs,Qaj]
 have hmem:∀ i∈memN l 63,∃ k:Nat,i=k∧k<63∧hasO l (k:Int)=true:=fun i hi=>QBC hi
 have hsum:∀ d,sumF (stO x d) (memN l 63)=sumN 63 fun i=>if (hasO l (i:Int)&&pk0 x i)=true then Qvi x i d else 0:=fun d=>QEh d 63
 generalize memN l 63=M at *
 have this:QaT (fun q:List Int×Int=>Qea x (vecN (Qej x.types) fun d=>0) M q.1 q.2) (vecN (Qej x.types) (fun d=>0),0)=some (vecN (Qej x.types) fun d=>sumF (stO x d) M):=by
  have:=QcJ M.length (fun k=>(vecN (Qej x.types) (fun d=>sumF (stO x d) (M.take k)),(k:Int))) (B:=fun q:List Int×Int=>Qea x (vecN (Qej x.types) fun d=>0) M q.1 q.2) (e:=vecN (Qej x.types) fun d=>sumF (stO x d) M) (by omega) (fun k hk=>by
   have e:M[k]?=some M[k]:=List.getElem?_eq_getElem hk
   obtain ⟨i,hi,_,hh⟩:=hmem _ (List.getElem_mem hk)
   rw [hi] at e
   have hil:=QF7 h hh
   obtain ⟨o,eo,hmo,ho,hb,hp⟩:=QBH hx (show i<x.orders.length by omega)
   show Qea x (vecN (Qej x.types) fun d=>0) M (vecN (Qej x.types) (fun d=>sumF (stO x d) (M.take k))) (k:Int)=some (Sum.inl (vecN (Qej x.types) (fun d=>sumF (stO x d) (M.take (k+1))),((k+1:Nat):Int)))
   unfold Qea
   rw [Qcm e,QaX eo,Qaj,incL e (by omega),ho]
   have step:∀ d,sumF (stO x d) (M.take (k+1))=sumF (stO x d) (M.take k)+stO x d (i:Int):=fun d=>QuW e
   have sb:∀ d,0≤sumF (stO x d) (M.take k)∧sumF (stO x d) (M.take k)≤1000*(M.take k).length:=fun d=>Qzz fun a _=>QHt hx d a
   have hlt:(M.take k).length≤63:=by rw [List.length_take]; omega
   have hst:∀ d,stO x d (i:Int)=if o.pick.place<0 then Qvi x i d else 0:=fun d=>by
    unfold stO
    rw [Int.toNat_natCast,hp]
    simp
   by_cases hpl:o.pick.place<0
   ·rw [QaY (by simpa using hpl),QFE hd3 (fun d _=>by have:=sb d; omega) (fun d _=>by have:=hb d; omega),Qaj]
    congr 3
    exact QiG fun d _=>by rw [step,hst,if_pos hpl]
   ·rw [QaO (by simp; omega)]
    congr 3
    exact QiG fun d _=>by rw [step,hst,if_neg hpl]; omega) (by
   show Qea x (vecN (Qej x.types) fun d=>0) M (vecN (Qej x.types) (fun d=>sumF (stO x d) (M.take M.length))) (M.length:Int)=_
   unfold Qea
   rw [Qbw,List.take_length])
  exact this
 rw [Qcw this]
 congr 1
 refine QiG fun d _=>?_
 rw [hsum,QzB (n:=x.orders.length) 63 (by omega) fun i hi=>by
  rw [if_neg]
  intro hh
  rw [Bool.and_eq_true] at hh
  have:=QF7 h hh.1
  omega]
 unfold Qvh incl
 rfl
def QhF (x:Qac) (l:List Qaa) (n:Nat):List (List Int):=(List.range n).map fun k=>vecN (Qej x.types) (Qvh x l k)
theorem Qvj {n:Nat}:(QhF x l n).length=n:=by simp [QhF]
theorem Qwh {n:Nat}:QhF x l (n+1)=QhF x l n++[vecN (Qej x.types) (Qvh x l n)]:=by simp [QhF,List.range_succ]
theorem QEn (hx:QbW x) (hl:r.visits.length≤1048576) (h:QvP x r.visits) (h0:seqS x r.visits=0):QoJ x r=some (QhF x r.visits (r.visits.length+1),0):=by
 obtain ⟨hd1,hd3⟩:=QyS hx
 have hx10:=hx.orders
 unfold QoJ
 rw [QAq hx hl,Qaj,h0,QaO (by decide)]
 obtain ⟨s,hs,hs0,hset⟩:=QzK hx hl h.inn
 rw [hs,Qaj,hs0,QaO (by decide),(QAT hx).1,Qaj,QDC hx h hset,Qaj]
 have this:QaT (fun q:List (List Int)×List Int×Int=>Qd9 x r q.1 q.2.1 q.2.2) ([vecN (Qej x.types) (Qvh x r.visits 0)],vecN (Qej x.types) (Qvh x r.visits 0),0)=some (.inl (QhF x r.visits (r.visits.length+1))):=by
  have:=QcJ r.visits.length (fun k=>(QhF x r.visits (k+1),vecN (Qej x.types) (Qvh x r.visits k),(k:Int))) (B:=fun q:List (List Int)×List Int×Int=>Qd9 x r q.1 q.2.1 q.2.2) (e:=.inl (QhF x r.visits (r.visits.length+1))) (by omega) (fun k hk=>by
   have e:r.visits[k]?=some r.visits[k]:=List.getElem?_eq_getElem hk
   have hin:=QpF h.inn (List.getElem_mem hk)
   generalize r.visits[k]=v at e hin
   obtain ⟨i,hi⟩:∃ i:Nat,v.order=i:=⟨v.order.toNat,by omega⟩
   obtain ⟨o,eo,hmo,ho,hb,hp⟩:=QBH hx (show i<x.orders.length by omega)
   have hst:=QBt hx h e hi
   have hk0:=fun d=>QE2 (l:=r.visits) hx k d
   show Qd9 x r (QhF x r.visits (k+1)) (vecN (Qej x.types) (Qvh x r.visits k)) (k:Int)=some (Sum.inl (QhF x r.visits (k+1+1),vecN (Qej x.types) (Qvh x r.visits (k+1)),((k+1:Nat):Int)))
   unfold Qd9
   have ok:okN (QhF x r.visits (k+1)++[vecN (Qej x.types) (Qvh x r.visits (k+1))]).length 24:=by unfold okN; simp [Qvj]; omega
   rw [Qcm e,hi,QaX eo,Qaj,Qaj,incL e hl,ho,Qwh (n:=k+1)]
   cases hd:v.drop with
   | true =>
    rw [QjV,QGX hd3 (fun d _=>by have:=hk0 d; omega) (fun d _=>by have:=hb d; omega),Qaj,QAH]
    have ev:vecN (Qej x.types) (fun d=>Qvh x r.visits k d-Qvi x i d)=vecN (Qej x.types) (Qvh x r.visits (k+1)):=QiG fun d _=>by rw [hst,if_pos hd]
    simp only [ev]
    rw [Qd6 ok]
    rfl
   | false =>
    rw [Qhg,QFE hd3 (fun d _=>by have:=hk0 d; omega) (fun d _=>by have:=hb d; omega),Qaj,QAH]
    have ev:vecN (Qej x.types) (fun d=>Qvh x r.visits k d+Qvi x i d)=vecN (Qej x.types) (Qvh x r.visits (k+1)):=QiG fun d _=>by rw [hst,if_neg (by rw [hd]; decide)]
    simp only [ev]
    rw [Qd6 ok]
    rfl) (by
   show Qd9 x r (QhF x r.visits (r.visits.length+1)) (vecN (Qej x.types) (Qvh x r.visits r.visits.length)) (r.visits.length:Int)=_
   unfold Qd9
   rw [Qbw])
  exact this
 rw [Qcw this]
 rfl
def ldN (x:Qac) (l:List Qaa) (n:Nat):Nat→List (List Int)
 | 0=>[]
 | i+1=>ldN x l n i++(if (onK x (l.take n) i&&hasO l (i:Int))=true then [vecN (Qej x.types) (Qvi x i)] else [])
theorem QBq {n:Nat}:∀ i,(ldN x l n i).length≤i
 | 0=>Nat.le_refl 0
 | i+1=>by have:=QBq (n:=n) i; unfold ldN; split <;> simp <;> omega
theorem QBr {n:Nat} {a:List Int}:∀ {i},a∈ldN x l n i→∃ j,a=vecN (Qej x.types) (Qvi x j)
 | 0,h=>by cases h
 | i+1,h=>by
  unfold ldN at h
  rcases List.mem_append.1 h with h|h
  ·exact QBr h
  ·split at h
   ·exact ⟨i,List.mem_singleton.1 h⟩
   ·cases h
theorem QD0 {n d:Nat} (hd:d<Qej x.types):∀ i,sumF (fun a:List Int=>a.getD d 0) (ldN x l n i)=sumN i fun j=>incl x l n j d
 | 0=>rfl
 | i+1=>by
  show sumF (fun a:List Int=>a.getD d 0) (ldN x l n i++(if (onK x (l.take n) i&&hasO l (i:Int))=true then [vecN (Qej x.types) (Qvi x i)] else []))=sumN i _+(if (hasO l (i:Int)&&onK x (l.take n) i)=true then Qvi x i d else 0)
  rw [Qs4,QD0 hd i,Bool.and_comm]
  split
  ·rw [Qs5,List.getD_eq_getElem?_getD,QjT hd]; rfl
  ·rw [QCk]
theorem QFn {D:Nat} (hD:D≤3) {m:List (List Int)} (hm:m.length≤1000) (hl:∀ a∈m,a.length=D) (hb:∀ a∈m,∀ d,0≤a.getD d 0∧a.getD d 0≤1000):Qh4 m (D:Int)=some (vecN D fun d=>sumF (fun a=>a.getD d 0) m,0):=by
 have even:Qip m (D:Int)=some true:=by
  unfold Qip
  rw [QaO (by simp; omega),Qcw (QiW (B:=fun s=>Qc3 m (D:Int) s) (l:=m) (by omega) (fun a=>neI (lenI a) (D:Int)) (y:=(.inr false:Unit⊕Bool)) (N:=.inl ()) (fun i a h=>by
   show Qc3 m (D:Int) i=_
   unfold Qc3
   rw [Qcm h,incL h (by omega),brs]) (by
   show Qc3 m (D:Int) m.length=_
   unfold Qc3
   rw [Qbw]))]
  rw [if_neg]
  ·rfl
  ·rw [List.any_eq_true]
   rintro ⟨a,ha,h⟩
   rw [Qzf,lenI,hl a ha] at h
   exact h rfl
 unfold Qh4
 rw [even,Qaj,QjV]
 have this:QaT (fun q:List Int×Int=>QcY m (D:Int) q.1 q.2) ([],0)=some (vecN D fun d=>sumF (fun a=>a.getD d 0) m):=by
  have:=QcJ D (fun k=>(vecN k (fun d=>sumF (fun a=>a.getD d 0) m),(k:Int))) (B:=fun q:List Int×Int=>QcY m (D:Int) q.1 q.2) (e:=vecN D fun d=>sumF (fun a=>a.getD d 0) m) (by omega) (fun k hk=>by
   show QcY m (D:Int) (vecN k (fun d=>sumF (fun a=>a.getD d 0) m)) (k:Int)=some (Sum.inl (vecN (k+1) (fun d=>sumF (fun a=>a.getD d 0) m),((k+1:Nat):Int)))
   unfold QcY
   rw [QaY (by simp; omega)]
   have inner:QaT (fun q:Int×Int=>QcZ m (D:Int) (vecN k (fun d=>sumF (fun a=>a.getD d 0) m)) (k:Int) q.1 q.2) (0,0)=some (sumF (fun a=>a.getD k 0) m):=by
    have:=QcJ m.length (fun j=>(sumF (fun a:List Int=>a.getD k 0) (m.take j),(j:Int))) (B:=fun q:Int×Int=>QcZ m (D:Int) (vecN k (fun d=>sumF (fun a=>a.getD d 0) m)) (k:Int) q.1 q.2) (e:=sumF (fun a=>a.getD k 0) m) (by omega) (fun j hj=>by
     have e:m[j]?=some m[j]:=List.getElem?_eq_getElem hj
     have hmj:=List.getElem_mem hj
     generalize m[j]=a at e hmj
     have ha:=hl a hmj
     have hab:=hb a hmj k
     have e2:a[k]?=some (a.getD k 0):=by rw [List.getD_eq_getElem?_getD,List.getElem?_eq_getElem (show k<a.length by omega)]; rfl
     have sb:=Qzz (f:=fun a:List Int=>a.getD k 0) (l:=m.take j) fun c hc=>hb c (List.mem_of_mem_take hc) k
     have hlt:(m.take j).length≤1000:=by rw [List.length_take]; omega
     show QcZ m (D:Int) (vecN k (fun d=>sumF (fun a=>a.getD d 0) m)) (k:Int) (sumF (fun a:List Int=>a.getD k 0) (m.take j)) (j:Int)=some (Sum.inl (sumF (fun a:List Int=>a.getD k 0) (m.take (j+1)),((j+1:Nat):Int)))
     unfold QcZ
     rw [Qcm e,QaX e2,Qaj,incL e (by omega),addI (by omega) (by omega),QuW e]
     rfl) (by
     show QcZ m (D:Int) (vecN k (fun d=>sumF (fun a=>a.getD d 0) m)) (k:Int) (sumF (fun a:List Int=>a.getD k 0) (m.take m.length)) (m.length:Int)=_
     unfold QcZ
     rw [Qbw,List.take_length])
    exact this
   have ev:vecN (k+1) (fun d=>sumF (fun a:List Int=>a.getD d 0) m)=vecN k (fun d=>sumF (fun a:List Int=>a.getD d 0) m)++[sumF (fun a:List Int=>a.getD k 0) m]:=by simp [vecN,List.range_succ]
   rw [Qcw inner,Qd6 (by unfold okN; simp [Qhl]; omega),addI (by omega) (by omega),ev]
   rfl) (by
   show QcY m (D:Int) (vecN D (fun d=>sumF (fun a=>a.getD d 0) m)) (D:Int)=_
   unfold QcY
   rw [QaO (by simp)])
  exact this
 rw [Qcw this]
theorem QCK (hx:QbW x) (hl:l.length≤1048576) {n:Nat} (hn:n≤l.length):QhT x l (n:Int)=some (vecN (Qej x.types) (Qvh x l n),0):=by
 obtain ⟨hd1,hd3⟩:=QyS hx
 have hx10:=hx.orders
 unfold QhT
 have this:QaT (fun q:List (List Int)×Int=>Qb9 x l (n:Int) q.1 q.2) ([],0)=some (ldN x l n x.orders.length):=by
  have:=QcJ x.orders.length (fun k=>(ldN x l n k,(k:Int))) (B:=fun q:List (List Int)×Int=>Qb9 x l (n:Int) q.1 q.2) (e:=ldN x l n x.orders.length) (by omega) (fun i hi=>by
   obtain ⟨o,eo,hmo,ho,hb,hp⟩:=QBH hx hi
   show Qb9 x l (n:Int) (ldN x l n i) (i:Int)=some (Sum.inl (ldN x l n (i+1),((i+1:Nat):Int)))
   unfold Qb9
   rw [Qcm eo]
   have inner:QaT (fun q:Bool×Bool×Int=>Qca x l (n:Int) (ldN x l n i) (i:Int) q.1 q.2.1 q.2.2) (ltI o.pick.place 0,false,0)=some (onK x (l.take n) i,hasO l (i:Int)):=by
    have:=QcJ l.length (fun k=>(onK x (l.take (min k n)) i,hasO (l.take k) (i:Int),(k:Int))) (B:=fun q:Bool×Bool×Int=>Qca x l (n:Int) (ldN x l n i) (i:Int) q.1 q.2.1 q.2.2) (e:=(onK x (l.take n) i,hasO l (i:Int))) (by omega) (fun k hk=>by
     have e:l[k]?=some l[k]:=List.getElem?_eq_getElem hk
     generalize l[k]=v at e
     show Qca x l (n:Int) (ldN x l n i) (i:Int) (onK x (l.take (min k n)) i) (hasO (l.take k) (i:Int)) (k:Int)=some (Sum.inl (onK x (l.take (min (k+1) n)) i,hasO (l.take (k+1)) (i:Int),((k+1:Nat):Int)))
     unfold Qca
     have hh:hasO (l.take (k+1)) (i:Int)=(hasO (l.take k) (i:Int)||isO (i:Int) v):=by rw [take_one e]; simp [hasO]
     rw [Qcm e,incL e hl,hh]
     by_cases hv:v.order=(i:Int)
     ·rw [QaO (by simpa using hv),QzZ.2 hv,Bool.or_true]
      by_cases hkn:k<n
      ·rw [QaY (by simpa using hkn),show min (k+1) n=k+1 by omega,QwJ e,if_pos hv]
       rfl
      ·rw [QaO (by simp; omega),show min (k+1) n=min k n by omega]
       rfl
     ·have hvf:isO (i:Int) v=false:=by
       rw [Bool.eq_false_iff]
       exact fun h=>hv (QzZ.1 h)
      rw [QaY (by simpa using hv),hvf,Bool.or_false]
      by_cases hkn:k<n
      ·rw [show min (k+1) n=k+1 by omega,QwJ e,if_neg hv,show min k n=k by omega]
       rfl
      ·rw [show min (k+1) n=min k n by omega]
       rfl) (by
     show Qca x l (n:Int) (ldN x l n i) (i:Int) (onK x (l.take (min l.length n)) i) (hasO (l.take l.length) (i:Int)) (l.length:Int)=_
     unfold Qca
     rw [Qbw,List.take_length,show min l.length n=n by omega])
    have h0:(onK x (l.take (min 0 n)) i,hasO (l.take 0) (i:Int),((0:Nat):Int))=(ltI o.pick.place 0,false,0):=by
     rw [Nat.zero_min,List.take_zero]
     unfold onK hasO
     rw [List.foldl_nil,hp]
     congr 1
    rw [← h0]
    exact this
   rw [Qcw inner]
   simp only
   rw [QaX eo,Qaj,ho,incL eo (by omega)]
   have hlen:=QBq (x:=x) (l:=l) (n:=n) i
   rw [Qd6 (by unfold okN; simp; omega),brs]
   show _=some (Sum.inl (ldN x l n i++(if (onK x (l.take n) i&&hasO l (i:Int))=true then [vecN (Qej x.types) (Qvi x i)] else []),((i+1:Nat):Int)))
   split <;> simp) (by
   show Qb9 x l (n:Int) (ldN x l n x.orders.length) (x.orders.length:Int)=_
   unfold Qb9
   rw [Qbw])
  exact this
 rw [Qcw this,(QAT hx).2,Qaj]
 have hlen:=QBq (x:=x) (l:=l) (n:=n) x.orders.length
 rw [QFn hd3 (by omega) (fun a ha=>by obtain ⟨j,rfl⟩:=QBr ha; exact Qhl) (fun a ha d=>by
  obtain ⟨j,rfl⟩:=QBr ha
  rw [List.getD_eq_getElem?_getD]
  rcases Nat.lt_or_ge d (Qej x.types) with h|h
  ·rw [QjT h]; exact Qx9 hx j d
  ·rw [List.getElem?_eq_none (by rw [Qhl]; omega)]; simp),Qaj]
 congr 2
 exact QiG fun d hd=>QD0 hd _
theorem QAu (hx:QbW x) (hl:r.visits.length≤1048576) (h0:seqS x r.visits=0):QhS x r=some (QhF x r.visits (r.visits.length+1),0):=by
 unfold QhS
 rw [Qw4 hx hl,Qaj,h0,QaO (by decide)]
 have this:QaT (fun q:List (List Int)×Int=>Qb8 x r q.1 q.2) ([],0)=some (.inl (QhF x r.visits (r.visits.length+1))):=by
  have:=QcJ (r.visits.length+1) (fun k=>(QhF x r.visits k,(k:Int))) (B:=fun q:List (List Int)×Int=>Qb8 x r q.1 q.2) (e:=.inl (QhF x r.visits (r.visits.length+1))) (by omega) (fun k hk=>by
   show Qb8 x r (QhF x r.visits k) (k:Int)=some (Sum.inl (QhF x r.visits (k+1),((k+1:Nat):Int)))
   unfold Qb8
   rw [QaY (by simp [lenI]; omega),QCK hx hl (by omega),Qaj,QAH,Qd6 (by unfold okN; simp [Qvj]; omega),addI (by omega) (by omega),Qwh]
   rfl) (by
   show Qb8 x r (QhF x r.visits (r.visits.length+1)) ((r.visits.length+1:Nat):Int)=_
   unfold Qb8
   rw [QaO (by simp [lenI]; omega)])
  exact this
 rw [Qcw this]
 rfl
def QAm (cap a:List Int):Bool:=(List.range a.length).any fun i=>gtI (a.getD i 0) (cap.getD i 0)
theorem QDT {a cap:List Int} (ha:a.length=cap.length) (hl:a.length≤1048576):Qq0 a cap=some (!QAm cap a)∧Qio a cap=some (!QAm cap a):=by
 have g:∀ i,i<a.length→a[i]?=some (a.getD i 0)∧cap[i]?=some (cap.getD i 0):=fun i hi=>by
  rw [List.getD_eq_getElem?_getD,List.getD_eq_getElem?_getD,List.getElem?_eq_getElem hi,List.getElem?_eq_getElem (show i<cap.length by omega)]
  exact ⟨rfl,rfl⟩
 have hb:QAm cap a=true↔∃ k,k<a.length∧gtI (a.getD k 0) (cap.getD k 0)=true:=by
  unfold QAm
  rw [List.any_eq_true]
  exact ⟨fun ⟨k,hk,h⟩=>⟨k,List.mem_range.1 hk,h⟩,fun ⟨k,hk,h⟩=>⟨k,List.mem_range.2 hk,h⟩⟩
 constructor
 ·unfold Qq0
  rw [QaO (by simp [lenI,ha]),Qcw (QwV (B:=fun s=>QfP a cap s) hl (fun k=>gtI (a.getD k 0) (cap.getD k 0)) (y:=(.inr false:Unit⊕Bool)) (N:=.inl ()) hb (fun i hi=>by
   show QfP a cap i=_
   unfold QfP
   rw [Qcm (g i hi).1,QaX (g i hi).2,Qaj,inc hi hl,brs]) (by
   show QfP a cap a.length=_
   unfold QfP
   rw [Qbw]))]
  cases QAm cap a <;> rfl
 ·unfold Qio
  rw [QaO (by simp [lenI,ha]),Qcw (QwV (B:=fun s=>Qc2 a cap s) hl (fun k=>gtI (a.getD k 0) (cap.getD k 0)) (y:=(.inr false:Unit⊕Bool)) (N:=.inl ()) hb (fun i hi=>by
   show Qc2 a cap i=_
   unfold Qc2
   rw [Qcm (g i hi).1,QaX (g i hi).2,Qaj,inc hi hl,brs]) (by
   show Qc2 a cap a.length=_
   unfold Qc2
   rw [Qbw]))]
  cases QAm cap a <;> rfl
def fitS (x:Qac) (r:Qad):Int:=if (QhF x r.visits (r.visits.length+1)).any (QAm (typS x r).cap)=true then 17 else 0
theorem Qyy (h0:0≤r.type_) (h1:r.type_<x.types.length):getI x.types r.type_=some (typS x r)∧typS x r∈x.types:=by
 have e:x.types[r.type_.toNat]?=some (x.types[r.type_.toNat]'(by omega)):=List.getElem?_eq_getElem _
 have ht:typS x r=x.types[r.type_.toNat]'(by omega):=by unfold typS; rw [List.getD_eq_getElem?_getD,e]; rfl
 rw [ht]
 exact ⟨Qup h0 h1,List.getElem_mem _⟩
theorem QFG (hx:QbW x) (hl:r.visits.length≤1000000) (h0:seqS x r.visits=0) (ht:0≤r.type_∧r.type_<x.types.length):QqF x r=some (fitS x r)∧Qha x r=some (fitS x r):=by
 have h:=Qzu h0
 obtain ⟨t1,t2⟩:=Qyy ht.1 ht.2
 have hcap:=(hx.typ _ t2).cap
 have hd:=QyS hx
 have lens:∀ a∈QhF x r.visits (r.visits.length+1),a.length=(typS x r).cap.length:=fun a ha=>by
  obtain ⟨k,_,rfl⟩:=List.mem_map.1 ha
  rw [Qhl,hcap]
 have hlen:=Qvj (x:=x) (l:=r.visits) (n:=r.visits.length+1)
 constructor
 ·unfold QqF
  rw [QaO (by simp [lenI]; omega),QEn hx (by omega) h h0,Qaj,QAH]
  have:=QsF (B:=fun s=>QaN (QhF x r.visits (r.visits.length+1)) x r s) (l:=QhF x r.visits (r.visits.length+1)) (by omega) (QAm (typS x r).cap) (fun k=>(.inr (k:Int):Unit⊕Int)) (N:=.inl ()) (fun i a h=>by
   have hm:=lens a (List.mem_of_getElem? h)
   show QaN (QhF x r.visits (r.visits.length+1)) x r i=_
   unfold QaN QpA
   rw [Qcm h,t1,Qaj,(QDT hm (by omega)).1,Qaj,Qaj,incL h (by omega),Bool.not_not,brs]) (by
   show QaN (QhF x r.visits (r.visits.length+1)) x r (QhF x r.visits (r.visits.length+1)).length=_
   unfold QaN
   rw [Qbw])
  have e:Qby (QhF x r.visits (r.visits.length+1)) x r=some (ixI (QAm (typS x r).cap) (QhF x r.visits (r.visits.length+1))):=by
   unfold Qby
   rw [Qcw this]
   unfold ixI
   cases ixP (QAm (typS x r).cap) (QhF x r.visits (r.visits.length+1)) <;> rfl
  unfold QbJ
  simp only
  rw [e,Qaj,Qaj,QpV,brs]
  rfl
 ·unfold Qha
  rw [QaO (by simp [lenI]; omega),QAu hx (by omega) h0,Qaj,QAH]
  rw [Qcw (QiW (B:=fun s=>Qc6 x r (QhF x r.visits (r.visits.length+1),0) s) (l:=QhF x r.visits (r.visits.length+1)) (by omega) (QAm (typS x r).cap) (y:=(.inr 17:Unit⊕Int)) (N:=.inl ()) (fun i a h=>by
   have hm:=lens a (List.mem_of_getElem? h)
   show Qc6 x r (QhF x r.visits (r.visits.length+1),0) i=_
   unfold Qc6
   rw [Qcm h,t1,Qaj,(QDT hm (by omega)).2,Qaj,incL h (by omega)]
   cases QAm (typS x r).cap a <;> rfl) (by
   show Qc6 x r (QhF x r.visits (r.visits.length+1),0) (QhF x r.visits (r.visits.length+1)).length=_
   unfold Qc6
   rw [Qbw]))]
  unfold fitS
  split <;> rfl
end
end Go.Proofs.YtpkkaboonnedfaaGreatDoor
namespace Go.Proofs.YtpkkaboonnedfaaGreatDoor
set_option linter.unusedSimpArgs false
set_option linter.unusedVariables false
set_option linter.unusedSectionVars false
theorem QE8 {m:List (Int×Int)} {k k' v z:Int}:mGet eqI (mPut eqI m k v) k' z=if k'=k then v else mGet eqI m k' z:=by
 induction m with
 | nil =>
  unfold mPut mGet mGet
  by_cases h:k'=k
  ·rw [if_pos h,show eqI k' k=true by simpa using h]; rfl
  ·rw [if_neg h,show eqI k' k=false by simpa using h]; rfl
 | cons p r ih =>
  unfold mPut
  cases hp:eqI k p.1 with
  | true =>
   have hp':k=p.1:=by simpa using hp
   simp only [cond_true]
   unfold mGet
   by_cases h:k'=k
   ·rw [if_pos h,show eqI k' k=true by simpa using h]; rfl
   ·rw [if_neg h,show eqI k' k=false by simpa using h,show eqI k' p.1=false by rw [← hp']; simpa using h]; rfl
  | false =>
   have hp':k≠p.1:=by simpa using hp
   simp only [cond_false]
   unfold mGet
   rw [ih]
   by_cases h:k'=k
   ·rw [if_pos h,show eqI k' p.1=false by rw [h]; exact hp,if_pos h]; rfl
   ·rw [if_neg h,if_neg h]
section
variable {x : Qac} {l : List Qaa} {r : Qad} {s0 : Qap}
def cntV (l:List Qaa) (o:Int):Int:=sumF (fun v:Qaa=>if v.order=o then 1 else 0) l
theorem QAO {o:Int}:0≤cntV l o∧cntV l o≤l.length∧(0<cntV l o↔hasO l o=true):=by
 induction l with
 | nil=>simp [cntV,sumF,hasO]
 | cons v l ih =>
  have e:cntV (v :: l) o=(if v.order=o then 1 else 0)+cntV l o:=by simp [cntV,sumF]
  have e2:hasO (v :: l) o=(isO o v||hasO l o):=by simp [hasO]
  rw [e,e2,List.length_cons,Bool.or_eq_true,QzZ]
  split
  ·rename_i h
   refine ⟨by omega,by omega,fun _=>.inl h,fun _=>by omega⟩
  ·rename_i h
   refine ⟨by omega,by omega,fun h'=>.inr (ih.2.2.1 (by omega)),fun h'=>?_⟩
   rcases h' with h'|h'
   ·exact absurd h' h
   ·have:=ih.2.2.2 h'; omega
def mapK (l:List Qaa):List (Int×Int):=l.foldl (fun m v=>mPut eqI m v.order (addK .i64 (mGet eqI m v.order 0) 1)) []
theorem Qza {v:Qaa}:mapK (l++[v])=mPut eqI (mapK l) v.order (addK .i64 (mGet eqI (mapK l) v.order 0) 1):=by simp [mapK]
theorem QE9 {l:List Qaa} (hl:l.length≤1048576) (o:Int):mGet eqI (mapK l) o 0=cntV l o:=by
 have main:∀ k,k≤l.length→mGet eqI (mapK (l.take k)) o 0=cntV (l.take k) o:=by
  intro k hk
  induction k generalizing o with
  | zero=>rfl
  | succ k ih =>
   have e:l[k]?=some l[k]:=List.getElem?_eq_getElem (by omega)
   generalize l[k]=v at e
   rw [take_one e,Qza,QE8]
   have e2:cntV (l.take k++[v]) o=cntV (l.take k) o+(if v.order=o then 1 else 0):=by unfold cntV; rw [Qs4,Qs5]
   have hb:=(QAO (l:=l.take k) (o:=v.order)).2.1
   have hb0:=(QAO (l:=l.take k) (o:=v.order)).1
   have hlen:(l.take k).length≤k:=by rw [List.length_take]; omega
   rw [e2,ih v.order (by omega),ih o (by omega),addI (by omega) (by omega)]
   by_cases h:o=v.order
   ·rw [if_pos h,if_pos h.symm,h]
   ·rw [if_neg h,if_neg fun h'=>h h'.symm]; omega
 have:=main l.length (Nat.le_refl _)
 rwa [List.take_length] at this
def forB (kind own:Int):Bool:=neI kind (-1)&&neI kind own
def bit1 (b:Bool):Int:=if b=true then 1 else 0
def QiV (x:Qac) (r:Qad):Nat→Int×Int
 | 0=>(0,0)
 | k+1=>match r.visits[k]? with
  | none=>QiV x r k
  | some v=>match (if 0≤v.order then x.orders[v.order.toNat]? else none) with
   | none=>QiV x r k
   | some o=>if hasO (r.visits.take k) v.order=true then QiV x r k else ((QiV x r k).1+bit1 (forB o.now r.type_),(QiV x r k).2+bit1 (forB o.last_ r.type_))
theorem Qsp {b:Bool}:0≤bit1 b∧bit1 b≤1:=by cases b <;> simp [bit1]
theorem QwL:∀ k,(0≤(QiV x r k).1∧(QiV x r k).1≤k)∧(0≤(QiV x r k).2∧(QiV x r k).2≤k)
 | 0=>by simp [QiV]
 | k+1=>by
  have ih:=QwL k
  unfold QiV
  split
  ·omega
  ·split
   ·omega
   ·rename_i o _
    have h1:=Qsp (b:=forB o.now r.type_)
    have h2:=Qsp (b:=forB o.last_ r.type_)
    split
    ·omega
    ·simp only; omega
theorem Qzk (hx:QbW x):∀ k,k≤r.visits.length→(QiV x r k).1≤sumN x.orders.length (fun i=>bit1 (hasO (r.visits.take k) (i:Int)))∧(QiV x r k).2≤sumN x.orders.length (fun i=>bit1 (hasO (r.visits.take k) (i:Int)))
 | 0,_=>by
  have:=(QzA (f:=fun i=>bit1 (hasO (r.visits.take 0) (i:Int))) (c:=1) (by omega) x.orders.length fun i=>Qsp).1
  simp only [QiV]
  omega
 | k+1,hk=>by
  have ih:=Qzk hx k (by omega)
  have e:r.visits[k]?=some r.visits[k]:=List.getElem?_eq_getElem (by omega)
  generalize r.visits[k]=v at e
  have hh:∀ i:Nat,hasO (r.visits.take (k+1)) (i:Int)=(hasO (r.visits.take k) (i:Int)||isO (i:Int) v):=fun i=>by rw [take_one e]; simp [hasO]
  have mono:sumN x.orders.length (fun i=>bit1 (hasO (r.visits.take k) (i:Int)))≤sumN x.orders.length (fun i=>bit1 (hasO (r.visits.take (k+1)) (i:Int))):=by
   generalize x.orders.length=n
   induction n with
   | zero=>exact Int.le_refl _
   | succ n ihn =>
    show sumN n (fun i=>bit1 (hasO (r.visits.take k) (i:Int)))+bit1 (hasO (r.visits.take k) (n:Int))≤sumN n (fun i=>bit1 (hasO (r.visits.take (k+1)) (i:Int)))+bit1 (hasO (r.visits.take (k+1)) (n:Int))
    have:=hh n
    have h2:bit1 (hasO (r.visits.take k) (n:Int))≤bit1 (hasO (r.visits.take (k+1)) (n:Int)):=by
     rw [this]
     cases hasO (r.visits.take k) (n:Int) <;> cases isO (n:Int) v <;> simp [bit1]
    omega
  unfold QiV
  rw [e]
  simp only
  split
  ·omega
  ·rename_i o ho
   split at ho
   ·rename_i h0
    have hlt:=(List.getElem?_eq_some_iff.1 ho).1
    have h1:=Qsp (b:=forB o.now r.type_)
    have h2:=Qsp (b:=forB o.last_ r.type_)
    split
    ·omega
    ·rename_i hn
     obtain ⟨i,hi⟩:∃ i:Nat,v.order=i:=⟨v.order.toNat,by omega⟩
     rw [hi] at hn hlt
     have up:=Qyx (f:=fun i=>bit1 (hasO (r.visits.take k) (i:Int))) (g:=fun i=>bit1 (hasO (r.visits.take (k+1)) (i:Int))) (o:=i) x.orders.length (by omega) (fun j hj=>by
      have hjf:isO (j:Int) v=false:=by
       rw [Bool.eq_false_iff]
       intro h
       have:=QzZ.1 h
       omega
      show bit1 (hasO (r.visits.take (k+1)) (j:Int))=bit1 (hasO (r.visits.take k) (j:Int))
      rw [hh,hjf,Bool.or_false])
     rw [up]
     have e1:bit1 (hasO (r.visits.take (k+1)) (i:Int))=1:=by rw [hh,QzZ.2 hi,Bool.or_true]; rfl
     have e2:bit1 (hasO (r.visits.take k) (i:Int))=0:=by rw [Bool.eq_false_iff.2 hn]; rfl
     rw [e1,e2]
     omega
   ·cases ho
def scoS (x:Qac) (r:Qad) (s0:Qap):Qau :=
 Qau.mk (addK .i64 (addK .i64 (typS x r).fixed (mulK .i64 (typS x r).perMile s0.miles)) (mulK .i64 (typS x r).perTick (subK .i64 s0.end_ (typS x r).open_))) (QiV x r r.visits.length).1 (QiV x r r.visits.length).2 (mulK .i64 (quoK .i64 (subK .i64 s0.end_ (typS x r).open_) 64) (quoK .i64 (subK .i64 s0.end_ (typS x r).open_) 64))
theorem QEp (hx:QbW x) (hl:r.visits.length≤1048576) (ht:0≤r.type_∧r.type_<x.types.length):Qpq x r s0=some (scoS x r s0):=by
 obtain ⟨t1,t2⟩:=Qyy ht.1 ht.2
 have h10:=hx.orders
 unfold Qpq
 rw [QaO (by simp [lenI]; omega),t1,Qaj]
 have this:QaT (fun q:List (Int×Int)×Int×Int×Int=>Qeh x r s0 (typS x r) q.1 q.2.1 q.2.2.1 q.2.2.2) ([],0,0,0)=some (QiV x r r.visits.length):=by
  have:=QcJ r.visits.length (fun k=>(mapK (r.visits.take k),(QiV x r k).1,(QiV x r k).2,(k:Int))) (B:=fun q:List (Int×Int)×Int×Int×Int=>Qeh x r s0 (typS x r) q.1 q.2.1 q.2.2.1 q.2.2.2) (e:=QiV x r r.visits.length) (by omega) (fun k hk=>by
   have e:r.visits[k]?=some r.visits[k]:=List.getElem?_eq_getElem hk
   generalize r.visits[k]=v at e
   show Qeh x r s0 (typS x r) (mapK (r.visits.take k)) (QiV x r k).1 (QiV x r k).2 (k:Int)=some (Sum.inl (mapK (r.visits.take (k+1)),(QiV x r (k+1)).1,(QiV x r (k+1)).2,((k+1:Nat):Int)))
   unfold Qeh QjJ QlH
   rw [Qcm e,← Qza,← take_one e,incL e hl]
   have hlen:(r.visits.take k).length≤1048576:=by rw [List.length_take]; omega
   have hlen1:(r.visits.take (k+1)).length≤1048576:=by rw [List.length_take]; omega
   have hp:=QwL (x:=x) (r:=r) k
   have hg:gtI (mGet eqI (mapK (r.visits.take (k+1))) v.order 0) 1=hasO (r.visits.take k) v.order:=by
    rw [QE9 hlen1,take_one e]
    have e2:cntV (r.visits.take k++[v]) v.order=cntV (r.visits.take k) v.order+1:=by unfold cntV; rw [Qs4,Qs5,if_pos rfl]
    have:=(QAO (l:=r.visits.take k) (o:=v.order)).2.2
    rw [e2,Bool.eq_iff_iff,QyZ,← this]
    omega
   rw [hg]
   show _=some (Sum.inl (mapK (r.visits.take (k+1)),(QiV x r (k+1)).1,(QiV x r (k+1)).2,(k:Int)+1))
   have hP:QiV x r (k+1)=match (if 0≤v.order then x.orders[v.order.toNat]? else none) with
    | none=>QiV x r k
    | some o=>if hasO (r.visits.take k) v.order=true then QiV x r k else ((QiV x r k).1+bit1 (forB o.now r.type_),(QiV x r k).2+bit1 (forB o.last_ r.type_)):=by
    show (match r.visits[k]? with
     | none=>QiV x r k
     | some v=>match (if 0≤v.order then x.orders[v.order.toNat]? else none) with
      | none=>QiV x r k
      | some o=>if hasO (r.visits.take k) v.order=true then QiV x r k else ((QiV x r k).1+bit1 (forB o.now r.type_),(QiV x r k).2+bit1 (forB o.last_ r.type_)))=_
    rw [e]
   rw [hP]
   by_cases hin:0≤v.order∧v.order<x.orders.length
   ·rw [QaO (by simp [lenI]; omega),if_pos hin.1]
    have eo:x.orders[v.order.toNat]?=some (x.orders[v.order.toNat]'(by omega)):=List.getElem?_eq_getElem _
    generalize x.orders[v.order.toNat]'(by omega)=o at eo
    have eg:getI x.orders v.order=some o:=by unfold getI; rw [if_pos hin.1,eo]
    rw [eo,eg]
    simp only [Qaj]
    cases hasO (r.visits.take k) v.order with
    | true=>rfl
    | false =>
     rw [Qhg,if_neg (by decide),show (neI o.now (-1)&&neI o.now r.type_)=forB o.now r.type_ from rfl,show (neI o.last_ (-1)&&neI o.last_ r.type_)=forB o.last_ r.type_ from rfl,addI (by omega) (by omega),addI (by omega) (by omega)]
     generalize QiV x r k=p
     cases forB o.now r.type_ <;> cases forB o.last_ r.type_ <;> simp [bit1]
   ·rw [QaY (by simp [lenI]; omega)]
    have:(if 0≤v.order then x.orders[v.order.toNat]? else none)=none:=by
     split
     ·exact List.getElem?_eq_none (by omega)
     ·rfl
    rw [this]) (by
   show Qeh x r s0 (typS x r) (mapK (r.visits.take r.visits.length)) (QiV x r r.visits.length).1 (QiV x r r.visits.length).2 (r.visits.length:Int)=_
   unfold Qeh
   rw [Qbw])
  exact this
 rw [Qcw this]
 rfl
theorem QCP (hl:l.length≤1048576) {k:Nat} {v:Qaa} (e:l[k]?=some v):Qg2 l (k:Int)=some (!hasO (l.take k) v.order):=by
 have hk:=(List.getElem?_eq_some_iff.1 e).1
 have:=QwV (B:=fun q=>Qck l (k:Int) q) (n:=k) (by omega) (fun j=>match l[j]? with|some w=>eqI w.order v.order|none=>false) (y:=(.inr false:Unit⊕Bool)) (N:=.inl ()) (b:=hasO (l.take k) v.order) (by
  rw [Qvb]
  constructor
  ·rintro ⟨w,hw,he⟩
   obtain ⟨j,hj,hje⟩:=(Qs6 (by omega)).1 hw
   exact ⟨j,hj,by rw [hje]; simpa using he⟩
  ·rintro ⟨j,hj,h⟩
   rw [List.getElem?_eq_getElem (show j<l.length by omega)] at h
   exact ⟨_,(Qs6 (by omega)).2 ⟨j,hj,List.getElem?_eq_getElem (by omega)⟩,by simpa using h⟩) (fun j hj=>by
  have ej:l[j]?=some (l[j]'(by omega)):=List.getElem?_eq_getElem _
  show Qck l (k:Int) j=_
  unfold Qck
  rw [QaY (by simp; omega),QaX ej,Qaj,QaX e,Qaj,incL ej hl,brs,ej]) (by
  show Qck l (k:Int) k=_
  unfold Qck
  rw [QaO (by simp)])
 unfold Qg2
 rw [Qcw this]
 cases hasO (l.take k) v.order <;> rfl
theorem QAx (hx:QbW x) (hl:r.visits.length≤1048576) (ht:0≤r.type_∧r.type_<x.types.length):Qgy x r s0=some (scoS x r s0):=by
 obtain ⟨t1,t2⟩:=Qyy ht.1 ht.2
 have h10:=hx.orders
 unfold Qgy
 rw [QaO (by simp [lenI]; omega),t1,Qaj]
 have this:QaT (fun q:Int×Int×Int=>Qcb x r s0 (typS x r) q.1 q.2.1 q.2.2) (0,0,0)=some (QiV x r r.visits.length):=by
  have:=QcJ r.visits.length (fun k=>((QiV x r k).1,(QiV x r k).2,(k:Int))) (B:=fun q:Int×Int×Int=>Qcb x r s0 (typS x r) q.1 q.2.1 q.2.2) (e:=QiV x r r.visits.length) (by omega) (fun k hk=>by
   have e:r.visits[k]?=some r.visits[k]:=List.getElem?_eq_getElem hk
   generalize r.visits[k]=v at e
   show Qcb x r s0 (typS x r) (QiV x r k).1 (QiV x r k).2 (k:Int)=some (Sum.inl ((QiV x r (k+1)).1,(QiV x r (k+1)).2,((k+1:Nat):Int)))
   unfold Qcb Qf2
   rw [Qcm e,incL e hl,QCP hl e]
   have hp:=QwL (x:=x) (r:=r) k
   show _=some (Sum.inl ((QiV x r (k+1)).1,(QiV x r (k+1)).2,(k:Int)+1))
   have hP:QiV x r (k+1)=match (if 0≤v.order then x.orders[v.order.toNat]? else none) with
    | none=>QiV x r k
    | some o=>if hasO (r.visits.take k) v.order=true then QiV x r k else ((QiV x r k).1+bit1 (forB o.now r.type_),(QiV x r k).2+bit1 (forB o.last_ r.type_)):=by
    show (match r.visits[k]? with
     | none=>QiV x r k
     | some v=>match (if 0≤v.order then x.orders[v.order.toNat]? else none) with
      | none=>QiV x r k
      | some o=>if hasO (r.visits.take k) v.order=true then QiV x r k else ((QiV x r k).1+bit1 (forB o.now r.type_),(QiV x r k).2+bit1 (forB o.last_ r.type_)))=_
    rw [e]
   rw [hP]
   by_cases hin:0≤v.order∧v.order<x.orders.length
   ·rw [QaO (by simp [lenI]; omega),if_pos hin.1]
    have eo:x.orders[v.order.toNat]?=some (x.orders[v.order.toNat]'(by omega)):=List.getElem?_eq_getElem _
    generalize x.orders[v.order.toNat]'(by omega)=o at eo
    have eg:getI x.orders v.order=some o:=by unfold getI; rw [if_pos hin.1,eo]
    rw [eo,eg]
    simp only [Qaj]
    cases hasO (r.visits.take k) v.order with
    | true=>rfl
    | false =>
     rw [Bool.not_false,QjV,if_neg (by decide),addI (by omega) (by omega),addI (by omega) (by omega)]
     generalize QiV x r k=p
     unfold forB
     cases neI o.now (-1) <;> cases neI o.now r.type_ <;> cases neI o.last_ (-1) <;> cases neI o.last_ r.type_ <;> simp [bit1]
   ·rw [QaY (by simp [lenI]; omega)]
    have:(if 0≤v.order then x.orders[v.order.toNat]? else none)=none:=by
     split
     ·exact List.getElem?_eq_none (by omega)
     ·rfl
    rw [this]) (by
   show Qcb x r s0 (typS x r) (QiV x r r.visits.length).1 (QiV x r r.visits.length).2 (r.visits.length:Int)=_
   unfold Qcb
   rw [Qbw])
  exact this
 rw [Qcw this]
 rfl
end
theorem QyD (s:Qau):∃ w,Qge s=some w∧Qdr s=some w:=by
 unfold Qge Qdr Qpr QjG
 simp only [Qaj]
 cases h1:ltI s.cost 0 with
 | true=>exact ⟨_,rfl,rfl⟩
 | false =>
  cases h2:ltI s.moved 0 with
  | true=>exact ⟨_,rfl,rfl⟩
  | false =>
   cases h3:ltI s.other 0 with
   | true=>exact ⟨_,rfl,rfl⟩
   | false =>
    cases h4:ltI s.work 0 with
    | true=>exact ⟨_,rfl,rfl⟩
    | false =>
     have e:(((((((geI s.cost 0&&leI s.cost 1073741824)&&geI s.moved 0)&&leI s.moved 15)&&geI s.other 0)&&leI s.other 15)&&geI s.work 0)&&leI s.work 65535)=!(((gtI s.cost 1073741824||geI s.moved 16)||geI s.other 16)||geI s.work 65536):=by
      simp only [QsA] at h1 h2 h3 h4
      rw [Bool.eq_iff_iff]
      simp only [Bool.and_eq_true,Qs7,Qx8,Bool.not_eq_true',Bool.or_eq_false_iff,QvR,QCz]
      omega
     rw [e]
     simp only [Qhg]
     cases ((gtI s.cost 1073741824||geI s.moved 16)||geI s.other 16)||geI s.work 65536
     ·exact ⟨_,rfl,rfl⟩
     ·exact ⟨_,rfl,rfl⟩
end Go.Proofs.YtpkkaboonnedfaaGreatDoor
namespace Go.Proofs.YtpkkaboonnedfaaGreatDoor
set_option linter.unusedSimpArgs false
set_option linter.unusedVariables false
set_option linter.unusedSectionVars false
theorem Qvp:∀ (n:Nat) (l:List Nat),l.Nodup→(∀ a∈l,a<n)→l.length≤n
 | 0,l,_,h=>by
  cases l with
  | nil=>simp
  | cons a r=>exact absurd (h a (by simp)) (by omega)
 | n+1,l,hd,h=>by
  by_cases hm:n∈l
  ·have h1:=Qvp n (l.erase n) (hd.erase n) fun a ha=>by
    have h2:=(hd.mem_erase_iff).1 ha
    have:=h a h2.2
    omega
   rw [List.length_erase_of_mem hm] at h1
   omega
  ·have:=Qvp n l hd fun a ha=>by
    have:=h a ha
    have:a≠n:=fun e=>hm (e ▸ ha)
    omega
   omega
section
variable {x : Qac} {l : List Qaa} {r : Qad}
theorem QvP.short (hx:QbW x) (h:QvP x l):l.length≤20:=by
 have h10:=hx.orders
 have hm:(l.map fun v:Qaa=>2*v.order.toNat+(if v.drop=true then 1 else 0)).Nodup:=by
  unfold List.Nodup
  rw [List.pairwise_map]
  refine h.nodup.imp_of_mem fun {a b} ha hb hne he=>hne ?_
  have h1:=QpF h.inn ha
  have h2:=QpF h.inn hb
  cases a with
  | mk ao ad =>
   cases b with
   | mk bo bd =>
    simp only at h1 h2 he
    have hd:ad=bd∧ao=bo:=by
     cases ad <;> cases bd <;> simp at he ⊢ <;> omega
    rw [hd.1,hd.2]
 have:=Qvp 20 _ hm fun a ha=>by
  obtain ⟨v,hv,rfl⟩:=List.mem_map.1 ha
  have h1:=QpF h.inn hv
  split <;> omega
 simpa using this
noncomputable def QHA (t:Qal) (skills:Int):Bool:=(Qm8 t skills).getD false
noncomputable def Qt9 (x:Qac) (r:Qad) (v:Qaa):Bool:=match x.orders[v.order.toNat]? with
 | some o=>QHA (typS x r) o.skills
 | none=>false
theorem QDI (hx:QbW x) (ht:0≤r.type_∧r.type_<x.types.length) {v:Qaa} (hv:0≤v.order∧v.order<x.orders.length):∃ o,getI x.orders v.order=some o∧Qm8 (typS x r) o.skills=some (Qt9 x r v)∧Qg9 (typS x r) o.skills=some (Qt9 x r v)∧x.orders[v.order.toNat]?=some o:=by
 obtain ⟨o,g1,g2,_,g4⟩:=Qzi (x:=x) hv.1 hv.2
 obtain ⟨b,b1,b2⟩:=QG1 (t:=typS x r) (hx.typ _ (Qyy ht.1 ht.2).2).skills (hx.ord o g2).skills
 have:Qt9 x r v=b:=by unfold Qt9 QHA; rw [g4]; simp only; rw [b1]; rfl
 exact ⟨o,g1,by rw [this,b1],by rw [this,b2],g4⟩
def QCt:Qau:=Qau.mk 0 0 0 0
theorem QCR (hx:QbW x) (hR:QmN r) (h9:¬ (9<r.visits.length∧r.visits.length≤20)) :
  ∃ A,QoN x r=some A∧Qgb x r=some A∧A.1.times.length≤1048576∧(A.2≠0→A.1=QqE) ∧
   (A.2=0→(QuG x r=true∧r.rests.length≤r.visits.length+1)∧∃ b,QAj x.net (typS x r) (QaB x r) r.start r.rests b∧minB x.net (typS x r) (QaB x r) r.start r.rests b∧A.1=(lbB x.net (typS x r) (QaB x r) r.start b).sheet):=by
 obtain ⟨A,hA,pA⟩:=QCQ hx hR h9
 obtain ⟨B,hB,pB⟩:=QxC hx hR h9
 have hv:=hR.visits
 have hr:=hR.rests
 have key:A=B∧A.1.times.length≤1048576∧(A.2≠0→A.1=QqE)∧(A.2=0→(QuG x r=true∧r.rests.length≤r.visits.length+1)∧∃ b,QAj x.net (typS x r) (QaB x r) r.start r.rests b∧minB x.net (typS x r) (QaB x r) r.start r.rests b∧A.1=(lbB x.net (typS x r) (QaB x r) r.start b).sheet):=by
  rcases pA with ⟨a1,a2⟩|⟨a1,a2⟩
  ·rcases pB with ⟨_,b2⟩|⟨b1,_⟩
   ·rw [a2,b2]; exact ⟨rfl,Nat.zero_le _,fun _=>rfl,fun h=>by cases h⟩
   ·exact absurd b1 a1
  ·rcases pB with ⟨b1,_⟩|⟨_,b2⟩
   ·exact absurd a1 b1
   ·rcases a2 with ⟨a,fa,ma,ea⟩|⟨na,ea⟩
    ·rcases b2 with ⟨b,fb,mb,eb⟩|⟨nb,eb⟩
     ·have hab:=QFa fa fb ma mb
      rw [ea,eb,hab]
      refine ⟨rfl,?_,fun h=>absurd rfl h,fun _=>⟨a1,b,fb,mb,rfl⟩⟩
      have h1:=QEY (n:=x.net) (t:=typS x r) (stops:=QaB x r) (start:=r.start) (b:=b)
      have h2:=fb.1
      rw [QmT] at h2
      have:=(of_decide_eq_true (QpM a1.1)).2.2.2.2
      show (lbB x.net (typS x r) (QaB x r) r.start b).sheet.times.length≤_
      omega
     ·exact absurd fa (nb a)
    ·rcases b2 with ⟨b,fb,mb,eb⟩|⟨nb,eb⟩
     ·exact absurd fb (na b)
     ·rw [ea,eb]
      have hno:¬ okB x.net (typS x r) (QaB x r) r.start (r.rests++List.replicate (r.visits.length+1-r.rests.length) false):=fun hok=>by
       refine na _ ⟨?_,?_,hok⟩
       ·rw [QmT,List.length_append,List.length_replicate]; omega
       ·rw [← Qs8]; exact QA2
      obtain ⟨n1,n2⟩:=QxE hno
      refine ⟨rfl,?_,fun _=>by rw [n2],fun h=>absurd h n1⟩
      rw [n2]; exact Nat.zero_le _
 exact ⟨A,hA,by rw [key.1]; exact hB,key.2.1,key.2.2.1,key.2.2.2⟩
structure EvOK (x:Qac) (r:Qad) (s:Qap) (b:List Bool):Prop where
 type_:0≤r.type_∧r.type_<x.types.length
 seq:seqS x r.visits=0
 able:∀ v∈r.visits,Qt9 x r v=true
 fits:fitS x r=0
 poss:QuG x r=true
 rests:r.rests.length≤r.visits.length+1
 full:QAj x.net (typS x r) (QaB x r) r.start r.rests b
 min:minB x.net (typS x r) (QaB x r) r.start r.rests b
 sheet:s=(lbB x.net (typS x r) (QaB x r) r.start b).sheet
theorem QDR (hx:QbW x) (hR:QmN r) (h9:¬ (9<r.visits.length∧r.visits.length≤20)) :
  ∃ E,QgQ x r=some E∧QeK x r=some E∧E.1.times.length≤1048576∧(E.2.2≠0→E.1=QqE∧E.2.1=QCt)∧(E.2.2=0→E.2.1=scoS x r E.1∧∃ b,EvOK x r E.1 b):=by
 have hv:=hR.visits
 unfold QgQ QeK
 by_cases ht:0≤r.type_∧r.type_<x.types.length
 ·rw [QaO (by simp [lenI]; omega),QaO (by simp [lenI]; omega),QAq hx hv,Qaj,Qw4 hx hv,Qaj]
  by_cases hs:seqS x r.visits=0
  ·have hq:=Qzu hs
   have h20:=hq.short hx
   rw [QaO (by simpa using hs),QaO (by simpa using hs)]
   have a1:Qrz x r=some (if r.visits.any (fun v=>!Qt9 x r v)=true then 18 else 0):=by
    unfold Qrz
    rw [Qcw (QiW (B:=fun s=>Qf5 x r s) hv (fun v=>!Qt9 x r v) (y:=(.inr 18:Unit⊕Int)) (N:=.inl ()) (fun i a h=>by
     obtain ⟨o,g1,g2,g3,_⟩:=QDI (r:=r) hx ht (QpF hq.inn (List.mem_of_getElem? h))
     show Qf5 x r i=_
     unfold Qf5
     rw [Qcm h,(Qyy ht.1 ht.2).1,Qaj,g1,Qaj,g2,Qaj,incL h hv]
     cases Qt9 x r a <;> rfl) (by
     show Qf5 x r r.visits.length=_
     unfold Qf5
     rw [Qbw]))]
    split <;> rfl
   have a2:QaT (fun s=>Qbz x r s) 0=some (if r.visits.any (fun v=>!Qt9 x r v)=true then .inr (QqE,QCt,18) else .inl ()) :=
    QiW (B:=fun s=>Qbz x r s) hv (fun v=>!Qt9 x r v) (y:=(.inr (QqE,QCt,18):Unit⊕(Qap×Qau×Int))) (N:=.inl ()) (fun i a h=>by
     obtain ⟨o,g1,g2,g3,_⟩:=QDI (r:=r) hx ht (QpF hq.inn (List.mem_of_getElem? h))
     show Qbz x r i=_
     unfold Qbz
     have hlt:=(List.getElem?_eq_some_iff.1 h).1
     rw [QaY (by simp [lenI]; omega),(Qyy ht.1 ht.2).1,Qaj,QaX h,Qaj,g1,Qaj,g3,Qaj,incL h hv]
     cases Qt9 x r a <;> rfl) (by
     show Qbz x r r.visits.length=_
     unfold Qbz
     rw [QaO (by simp [lenI])])
   rw [a1,Qaj,a2,Qaj]
   by_cases hab:r.visits.any (fun v=>!Qt9 x r v)=true
   ·rw [if_pos hab,if_pos hab,QaY (by decide),Qjn]
    exact ⟨_,rfl,rfl,Nat.zero_le _,fun _=>⟨rfl,rfl⟩,fun h=>by cases h⟩
   ·rw [if_neg hab,if_neg hab,QaO (by decide),Qgh]
    obtain ⟨f1,f2⟩:=QFG (r:=r) hx (by omega) hs ht
    rw [f1,Qaj,f2,Qaj]
    by_cases hf:fitS x r=0
    ·rw [QaO (by simpa using hf),QaO (by simpa using hf)]
     obtain ⟨A,hA,hB,ht',hz,hfull⟩:=QCR hx hR h9
     rw [hA,Qaj,hB,Qaj]
     by_cases hA2:A.2=0
     ·rw [QaO (by simpa using hA2),QaO (by simpa using hA2),QEp hx hv ht,Qaj,QAx hx hv ht,Qaj]
      obtain ⟨⟨p1,p2⟩,b,fb,mb,eb⟩:=hfull hA2
      refine ⟨_,rfl,rfl,ht',fun h=>absurd rfl h,fun _=>⟨rfl,b,ht,hs,fun v hv'=>?_,hf,p1,p2,fb,mb,eb⟩⟩
      have:=List.any_eq_false.1 (by simpa using hab:r.visits.any (fun v=>!Qt9 x r v)=false) v hv'
      simpa using this
     ·rw [QaY (by simpa using hA2),QaY (by simpa using hA2)]
      exact ⟨_,rfl,rfl,Nat.zero_le _,fun _=>⟨rfl,rfl⟩,fun h=>absurd h hA2⟩
    ·rw [QaY (by simpa using hf),QaY (by simpa using hf)]
     exact ⟨_,rfl,rfl,Nat.zero_le _,fun _=>⟨rfl,rfl⟩,fun h=>absurd h hf⟩
  ·rw [QaY (by simpa using hs),QaY (by simpa using hs)]
   exact ⟨_,rfl,rfl,Nat.zero_le _,fun _=>⟨rfl,rfl⟩,fun h=>absurd h hs⟩
 ·rw [QaY (by simp [lenI]; omega),QaY (by simp [lenI]; omega)]
  exact ⟨_,rfl,rfl,Nat.zero_le _,fun _=>⟨rfl,rfl⟩,fun h=>by cases h⟩
theorem QAw (hx:QbW x) (hR:QmN r) (h9:¬ (9<r.visits.length∧r.visits.length≤20)):∃ w,Qhf x r=some w∧Qft x r=some w:=by
 obtain ⟨E,e1,e2,e3,e4,e5⟩:=QDR hx hR h9
 obtain ⟨w,w1,w2⟩:=QyD E.2.1
 unfold Qhf Qft
 rw [e1,Qaj,e2,Qaj,w1,Qaj,w2,Qaj,brs]
 exact ⟨_,rfl,rfl⟩
end
end Go.Proofs.YtpkkaboonnedfaaGreatDoor
namespace Go.Proofs.YtpkkaboonnedfaaGreatDoor
set_option linter.unusedSimpArgs false
set_option linter.unusedVariables false
set_option linter.unusedSectionVars false
section
variable {n : Qam} {t : Qal} {stops : List Qaw} {start : Int}
theorem QEe (hT:QmZ n t stops):∀ (b:List Bool) (k:Nat) (l:Qaf),LabI k l→k+b.length≤stops.length→(runK n t stops b k l).2=0→l.ready≤(runK n t stops b k l).1.ready
 | [],k,l,hl,_,_=>Int.le_refl _
 | a :: b,k,l,hl,hk,h=>by
  simp only [runK] at h ⊢
  simp only [List.length_cons] at hk
  by_cases h0:(nxt n t stops l k a).2=0
  ·rw [if_neg (by simpa using h0)] at h ⊢
   have h1:=QEe hT b (k+1) _ (Qxy hT hl (by omega) h0) (by omega) h
   refine Int.le_trans ?_ h1
   obtain ⟨g0,g1,g2,g3⟩:=QvY hT hl h0
   have hb:=Qxm hT.net (Qx0 (rest:=a) hT hl) g0
   have hS:=hT.stopK k
   have:=hS.serv0
   have hr:=hT.rest
   rw [g3]
   have hd:l.ready≤depS t l a:=by unfold depS; split <;> omega
   show l.ready≤max _ _+_
   omega
  ·rw [if_pos h0] at h; exact absurd h h0
theorem QEU (hT:QmZ n t stops) (hs:0≤start∧start≤4096) {b:List Bool} (hl:b.length=stops.length+1) (hok:okB n t stops start b) :
  t.open_≤(lbB n t stops start b).sheet.end_∧(lbB n t stops start b).sheet.end_≤t.close∧0≤(lbB n t stops start b).sheet.miles∧(lbB n t stops start b).sheet.miles≤210000:=by
 obtain ⟨b0,c,rfl⟩:∃ b0 c,b=b0++[c]:=by
  rcases List.eq_nil_or_concat b with rfl|⟨b0,c,rfl⟩
  ·simp at hl
  ·exact ⟨b0,c,by simp⟩
 have hb0:b0.length=stops.length:=by simpa using hl
 obtain ⟨o1,o2⟩:=Qrs.1 hok
 have hL:=Qvf hT hs (by omega) o1
 obtain ⟨g0,g1,g2,g3⟩:=QvY hT hL o2
 have hb:=Qxm hT.net (Qx0 (rest:=c) hT hL) g0
 have hge:t.open_≤(lbB n t stops start b0).ready:=by
  have:=QEe hT b0 0 (begS t start) (Qw6 hT hs) (by omega) o1
  have h2:t.open_≤(begS t start).ready:=by show t.open_≤max t.open_ start; omega
  exact Int.le_trans h2 this
 have hn:¬ b0.length<stops.length:=by omega
 have hm0:=hL.miles0
 have hm1:=hL.miles1
 have hfew:=hT.few
 have hr:=hT.rest
 have hd:(lbB n t stops start b0).ready≤depS t (lbB n t stops start b0) c:=by unfold depS; split <;> omega
 rw [Qvg hok,g3]
 rw [QrV hn] at hb g1 ⊢
 have g1':(goN n t.profile (QpE t stops b0.length) (endS t).place (depS t (lbB n t stops start b0) c)).1≤t.close:=g1
 show t.open_≤(if b0.length<stops.length then _ else _:Int)∧(if b0.length<stops.length then _ else _:Int)≤t.close∧0≤(lbB n t stops start b0).sheet.miles+_∧(lbB n t stops start b0).sheet.miles+_≤210000
 rw [if_neg hn]
 omega
end
section
variable {x : Qac} {l : List Qaa} {r : Qad}
theorem EvOK.facts (hx:QbW x) {s:Qap} {b:List Bool} (h:EvOK x r s b) :
  (typS x r).open_≤s.end_∧s.end_≤(typS x r).close∧0≤s.miles∧s.miles≤210000∧Qvw s=b∧s.times.length=r.visits.length∧b.length=r.visits.length+1∧r.visits.length≤20:=by
 have h5:=of_decide_eq_true (QpM h.poss)
 have hT:=QDE hx h.poss
 obtain ⟨e1,e2,e3,e4⟩:=QEU hT ⟨h5.2.2.1,h5.2.2.2.1⟩ h.full.1 h.full.2.2
 obtain ⟨r1,r2⟩:=QB6 hx h.poss h.full.1 h.full.2.2
 have hsl:=QmT (x:=x) (r:=r)
 have hl:=h.full.1
 rw [h.sheet]
 exact ⟨e1,e2,e3,e4,r1,by omega,by omega,h5.2.2.2.2⟩
theorem EvOK.score (hx:QbW x) {s:Qap} {b:List Bool} (h:EvOK x r s b) :
  ∃ c m o w:Int,scoS x r s=Qau.mk c m o w∧(typS x r).fixed≤c∧0≤c∧c≤1073741824∧0≤m∧m≤10∧0≤o∧o≤10∧0≤w∧w≤65535∧w=mulK .i64 (quoK .i64 (subK .i64 s.end_ (typS x r).open_) 64) (quoK .i64 (subK .i64 s.end_ (typS x r).open_) 64):=by
 obtain ⟨f1,f2,f3,f4,f5,f6,f7,f8⟩:=h.facts hx
 have hT:=hx.typ _ (Qyy h.type_.1 h.type_.2).2
 have h1:=hT.fixed; have h2:=hT.perMile; have h3:=hT.perTick; have h4:=hT.opn; have h5:=hT.close
 have h10:=hx.orders
 have hp:=QwL (x:=x) (r:=r) r.visits.length
 have hf:=Qzk (r:=r) hx r.visits.length (Nat.le_refl _)
 have hs:sumN x.orders.length (fun i=>bit1 (hasO (r.visits.take r.visits.length) (i:Int)))≤x.orders.length:=by
  have:=(QzA (f:=fun i=>bit1 (hasO (r.visits.take r.visits.length) (i:Int))) (c:=1) (by omega) x.orders.length fun i=>Qsp).2
  omega
 have hd:subK .i64 s.end_ (typS x r).open_=s.end_-(typS x r).open_:=subI (by omega) (by omega)
 obtain ⟨a,ha⟩:∃ a,a=s.end_-(typS x r).open_:=⟨_,rfl⟩
 have ha0:0≤a∧a≤4096:=by omega
 have m1:0≤(typS x r).perMile*s.miles∧(typS x r).perMile*s.miles≤21000000:=by
  refine ⟨Int.mul_nonneg h2.1 f3,?_⟩
  exact Int.le_trans (Int.mul_le_mul h2.2 f4 f3 (by omega)) (by omega)
 have m2:0≤(typS x r).perTick*a∧(typS x r).perTick*a≤409600:=by
  refine ⟨Int.mul_nonneg h3.1 ha0.1,?_⟩
  exact Int.le_trans (Int.mul_le_mul h3.2 ha0.2 ha0.1 (by omega)) (by omega)
 have hq:quoK .i64 a 64=a / 64:=by
  have e:a.tdiv 64=a / 64:=Int.tdiv_eq_ediv_of_nonneg ha0.1
  rw [quoI (by rw [e]; omega) (by rw [e]; omega),e]
 have hq2:0≤a / 64∧a / 64≤64:=by omega
 have m3:0≤(a / 64)*(a / 64)∧(a / 64)*(a / 64)≤4096:=⟨Int.mul_nonneg hq2.1 hq2.1,Int.le_trans (Int.mul_le_mul hq2.2 hq2.2 hq2.1 (by omega)) (by omega)⟩
 unfold scoS
 refine ⟨_,_,_,_,rfl,?_,?_,?_,by omega,by omega,by omega,by omega,?_,?_,rfl⟩
 ·rw [hd,← ha,mulI (by omega) (by omega),mulI (by omega) (by omega),addI (a:=(typS x r).fixed) (by omega) (by omega),addI (by omega) (by omega)]; omega
 ·rw [hd,← ha,mulI (by omega) (by omega),mulI (by omega) (by omega),addI (a:=(typS x r).fixed) (by omega) (by omega),addI (by omega) (by omega)]; omega
 ·rw [hd,← ha,mulI (by omega) (by omega),mulI (by omega) (by omega),addI (a:=(typS x r).fixed) (by omega) (by omega),addI (by omega) (by omega)]; omega
 ·rw [hd,← ha,hq,mulI (by omega) (by omega)]; omega
 ·rw [hd,← ha,hq,mulI (by omega) (by omega)]; omega
theorem QyE {c m o w:Int} (h1:0≤c∧c≤1073741824) (h2:0≤m∧m≤15) (h3:0≤o∧o≤15) (h4:0≤w∧w≤65535):Qge (Qau.mk c m o w)=some (((c*16+m)*16+o)*65536+w,0):=by
 unfold Qge Qpr
 rw [Qaj]
 simp only
 rw [QaO (by simp; omega),QaO (by simp; omega),QaO (by simp; omega),QaO (by simp; omega),QaO (by simp; omega),mulI (a:=c) (by omega) (by omega),addI (a:=c*16) (by omega) (by omega),mulI (a:=c*16+m) (by omega) (by omega),addI (a:=(c*16+m)*16) (by omega) (by omega),mulI (by omega) (by omega),addI (by omega) (by omega)]
end
end Go.Proofs.YtpkkaboonnedfaaGreatDoor
namespace Go.Proofs.YtpkkaboonnedfaaGreatDoor
set_option linter.unusedSimpArgs false
set_option linter.unusedVariables false
set_option linter.unusedSectionVars false
def QhE (p:Nat→Bool):Nat→Nat→Nat
 | 0,k=>k
 | f+1,k=>if p k=true then k else QhE p f (k+1)
theorem Qkq (p:Nat→Bool):∀ f k,k≤QhE p f k∧QhE p f k≤k+f∧(∀ j,k≤j→j<QhE p f k→p j=false)∧(QhE p f k<k+f→p (QhE p f k)=true)
 | 0,k=>⟨Nat.le_refl _,Nat.le_refl _,fun j h1 h2=>absurd (Nat.lt_of_le_of_lt h1 h2) (Nat.lt_irrefl k),fun h=>absurd h (Nat.lt_irrefl k)⟩
 | f+1,k=>by
  unfold QhE
  by_cases hp:p k=true
  ·rw [if_pos hp]
   exact ⟨Nat.le_refl _,by omega,fun j h1 h2=>by omega,fun _=>hp⟩
  ·rw [if_neg hp]
   obtain ⟨h1,h2,h3,h4⟩:=Qkq p f (k+1)
   refine ⟨by omega,by omega,fun j g1 g2=>?_,fun h=>h4 (by omega)⟩
   rcases Nat.lt_or_ge k j with h|h
   ·exact h3 j h g2
   ·obtain rfl:j=k:=by omega
    simpa using hp
section
variable {S E : Type} {B : S → Option (S ⊕ E)}
theorem Qxn (p:Nat→Bool) (st:Nat→S) (Y:Nat→E) (N:E):∀ f k,(∀ j,k≤j→j<k+f→B (st j)=some (if p j=true then .inr (Y j) else .inl (st (j+1))))→B (st (k+f))=some (.inr N) →
  QvS B (f+1) (st k)=some (if QhE p f k<k+f then Y (QhE p f k) else N)
 | 0,k,_,he=>by
  simp only [QvS]
  rw [show B (st k)=some (.inr N) from he]
  simp only
  rw [if_neg (by unfold QhE; omega)]
 | f+1,k,hs,he=>by
  rw [QvS,hs k (Nat.le_refl _) (by omega)]
  unfold QhE
  by_cases hp:p k=true
  ·rw [if_pos hp,if_pos hp,if_pos (by omega)]
  ·rw [if_neg hp,if_neg hp]
   simp only
   have:=Qxn p st Y N f (k+1) (fun j h1 h2=>hs j (by omega) (by omega)) (by rw [show k+1+f=k+(f+1) by omega]; exact he)
   rw [show k+1+f=k+(f+1) by omega] at this
   exact this
theorem QoZ {n:Nat} (hn:n<18446744073709551616) (p:Nat→Bool) (st:Nat→S) (Y:Nat→E) {N:E} (hs:∀ j,j<n→B (st j)=some (if p j=true then .inr (Y j) else .inl (st (j+1)))) (he:B (st n)=some (.inr N)) :
  QaT B (st 0)=some (if QhE p n 0<n then Y (QhE p n 0) else N):=by
 have:=Qxn (B:=B) p st Y N n 0 (fun j _ h=>hs j (by omega)) (by rw [Nat.zero_add]; exact he)
 rw [Nat.zero_add] at this
 exact QtU (n+1) hn this
end
end Go.Proofs.YtpkkaboonnedfaaGreatDoor
namespace Go.Proofs.YtpkkaboonnedfaaGreatDoor
set_option linter.unusedSimpArgs false
set_option linter.unusedVariables false
set_option linter.unusedSectionVars false
def QH5:Qar:=Qar.mk 0 0 0 false
def Qtz (r:Qad):Prop:=¬ (9<r.visits.length∧r.visits.length≤20)
section
variable {x : Qac} {r : Qad} {s : Qap} {now : Int}
noncomputable def evX (x:Qac) (r:Qad):Qap×Qau×Int:=(QgQ x r).getD (QqE,QCt,0)
theorem QyU (hx:QbW x) (hR:QmN r) (h9:Qtz r):QgQ x r=some (evX x r)∧QeK x r=some (evX x r)∧(evX x r).1.times.length≤1048576∧((evX x r).2.2≠0→(evX x r).1=QqE∧(evX x r).2.1=QCt)∧((evX x r).2.2=0→(evX x r).2.1=scoS x r (evX x r).1∧∃ b,EvOK x r (evX x r).1 b):=by
 obtain ⟨E,e1,e2,e3,e4,e5⟩:=QDR hx hR h9
 have:evX x r=E:=by unfold evX; rw [e1]; rfl
 rw [this]
 exact ⟨e1,e2,e3,e4,e5⟩
theorem EvOK.visit (hx:QbW x) {b:List Bool} (h:EvOK x r s b) {k:Nat} (hk:k<r.visits.length):∃ v o,r.visits[k]?=some v∧getI x.orders v.order=some o∧Qv5 x v=some ((QaB x r).getD k QCD)∧atS v o=(QaB x r).getD k QCD∧s.times[k]?=some (s.times.getD k QH5):=by
 have hf:=h.facts hx
 have hsl:=QmT (x:=x) (r:=r)
 have e0:(QaB x r)[k]?=some ((QaB x r).getD k QCD):=by rw [List.getD_eq_getElem?_getD,List.getElem?_eq_getElem (show k<(QaB x r).length by omega)]; rfl
 obtain ⟨v,v1,v2⟩:=Qyv h.poss e0
 have hin:=QpF (Qzu h.seq).inn (List.mem_of_getElem? v1)
 obtain ⟨o,g1,g2,g3,g4⟩:=Qzi (x:=x) hin.1 hin.2
 refine ⟨v,o,v1,g1,v2,?_,?_⟩
 ·unfold Qv5 at v2
  rw [if_pos hin.1,g4] at v2
  simp only at v2
  split at v2
  ·exact Option.some.inj v2
  ·cases v2
 ·rw [List.getD_eq_getElem?_getD,List.getElem?_eq_getElem (show k<s.times.length by have:=hf.2.2.2.2.2.1; omega)]; rfl
theorem QFk {α:Type} {l:List α} {k:Nat} (h:k≤l.length):slcI l 0 (k:Int)=some (l.take k):=by
 unfold slcI
 rw [if_pos ⟨by omega,by omega,by omega⟩]
 simp
end
end Go.Proofs.YtpkkaboonnedfaaGreatDoor
namespace Go.Proofs.YtpkkaboonnedfaaGreatDoor
set_option linter.unusedSimpArgs false
set_option linter.unusedVariables false
set_option linter.unusedSectionVars false
section
variable {x : Qac} {r b : Qad} {p : Qak} {now : Int} {s : Qap}
theorem EvOK.again (hx:QbW x) {b:List Bool} (h:EvOK x r s b):EvOK x (Qad.mk r.type_ r.start b r.visits) s b:=by
 obtain ⟨f1,f2,f3,f4,f5,f6,f7,f8⟩:=h.facts hx
 refine ⟨h.type_,h.seq,h.able,h.fits,h.poss,by show b.length≤r.visits.length+1; omega,⟨h.full.1,QG6 fun i _=>rfl,h.full.2.2⟩,fun q hq=>?_,h.sheet⟩
 have hqb:q=b:=by
  have hl1:=hq.1
  have hl2:=h.full.1
  have hl1':q.length=(QaB x r).length+1:=hl1
  have:=QEA hq.2.1 (by show b.length≤q.length; omega)
  rw [List.take_of_length_le (by show q.length≤b.length; omega)] at this
  exact this
 rw [hqb]
 exact ⟨Int.le_refl _,fun _=>Nat.le_refl _⟩
theorem QEj {D:Nat} {f:Nat→Int} {i:Int} (h0:0≤i) (h1:i<D):getI (vecN D f) i=some (f i.toNat):=by
 unfold getI
 rw [if_pos h0,QjT (by omega)]
def cntO (l:List Qad) (o:Nat):Int:=sumF (fun r=>bit1 (hasO r.visits (o:Int))) l
theorem QH6 {n:Nat} (hn:n≤1048576):mkI (n:Int) (n:Int) 8 (0:Int)=some (vecN n fun _=>0):=by
 unfold mkI
 rw [if_pos (by omega)]
 congr 1
 refine List.ext_getElem? fun i=>?_
 rcases Nat.lt_or_ge i n with h|h
 ·rw [QjT h]; simp [h]
 ·rw [List.getElem?_eq_none (by simp; omega),List.getElem?_eq_none (by rw [Qhl]; omega)]
end
end Go.Proofs.YtpkkaboonnedfaaGreatDoor
namespace Go.Proofs.YtpkkaboonnedfaaGreatDoor
set_option linter.unusedSimpArgs false
set_option linter.unusedVariables false
set_option linter.unusedSectionVars false
theorem QGh {n:Qam} (h:Qam.ok 1048576 n):NetI n:=by
 obtain ⟨⟨h1,h2⟩,⟨h3,h4⟩,_⟩:=h
 refine ⟨h1,h3,h2,fun a ha=>?_⟩
 obtain ⟨_,_,_,_,⟨h5,h6⟩,⟨h7,h8⟩,_⟩:=h4 a ha
 exact ⟨h5,h7,fun p hp=>⟨(h6 p hp).1,(h6 p hp).2.1⟩,fun p hp=>⟨(h8 p hp).1,(h8 p hp).2.1⟩⟩
end Go.Proofs.YtpkkaboonnedfaaGreatDoor
namespace Go.Proofs.YtpkkaboonnedfaaGreatDoor
set_option linter.unusedSimpArgs false
set_option linter.unusedVariables false
set_option linter.unusedSectionVars false
theorem QER {x:Qac} (h:Qac.ok 1048576 x):QGJ x:=by
 obtain ⟨h0,⟨h1,h2⟩,⟨h3,h4⟩,⟨h5,_⟩,⟨h6,_⟩,_⟩:=h
 refine ⟨QGh h0,h1,h3,h5,h6,fun t ht=>?_,fun o ho=>?_⟩
 ·obtain ⟨a,_,_,_,⟨b,_⟩,_⟩:=h2 t ht
  exact ⟨a,b⟩
 ·obtain ⟨a,⟨b,_⟩,_⟩:=h4 o ho
  exact ⟨a,b⟩
end Go.Proofs.YtpkkaboonnedfaaGreatDoor
