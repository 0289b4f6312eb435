/- Part MX of the proof: texts Lua Lub Luc Lud Lwa Lwb Lwc Lwd Lwe Lwf Lwg Lwh. -/
import Derived.Test.YtfjiafgldchinaaGreatDoorMR
namespace Go.Proofs.YtfjiafgldchinaaGreatDoor
set_option linter.unusedSimpArgs false
set_option linter.unusedVariables false
set_option linter.unusedSectionVars false
def ltV (a b:Qab):Bool:=ltI a.order b.order||(eqI a.order b.order&&(!a.drop&&b.drop))
theorem ltV_t {a b:Qab}:ltV a b=true↔a.order<b.order∨(a.order=b.order∧a.drop=false∧b.drop=true):=by
 unfold ltV
 simp
theorem Qyh {a:Qab}:ltV a a=false:=by
 rw [Bool.eq_false_iff]
 intro h
 rw [ltV_t] at h
 rcases h with h|⟨_,h1,h2⟩
 ·omega
 ·rw [h1] at h2; cases h2
theorem Qwp {a b c:Qab} (h1:ltV a b=true) (h2:ltV b c=true):ltV a c=true:=by
 rw [ltV_t] at *
 rcases h1 with h1|⟨h1,h3,h4⟩ <;> rcases h2 with h2|⟨h2,h5,h6⟩
 ·exact .inl (by omega)
 ·exact .inl (by omega)
 ·exact .inl (by omega)
 ·rw [h4] at h5; cases h5
theorem Qyi (a b:Qab):a=b∨ltV a b=true∨ltV b a=true:=by
 rcases Int.lt_trichotomy a.order b.order with h|h|h
 ·exact .inr (.inl (ltV_t.2 (.inl h)))
 ·cases ha:a.drop <;> cases hb:b.drop
  ·exact .inl (by cases a; cases b; simp_all)
  ·exact .inr (.inl (ltV_t.2 (.inr ⟨h,ha,hb⟩)))
  ·exact .inr (.inr (ltV_t.2 (.inr ⟨h.symm,hb,ha⟩)))
  ·exact .inl (by cases a; cases b; simp_all)
 ·exact .inr (.inr (ltV_t.2 (.inl h)))
def lessV:List Qab→List Qab→Bool
 | [],[]=>false
 | [],_ :: _=>true
 | _ :: _,[]=>false
 | a :: l,b :: m=>ltV a b||(decide (a=b)&&lessV l m)
theorem Qto:∀ {l:List Qab},lessV l l=false
 | []=>rfl
 | a :: l=>by unfold lessV; rw [Qyh,Qto]; simp
theorem Qrf:∀ {a b c:List Qab},lessV a b=true→lessV b c=true→lessV a c=true
 | [],[],_,h,_=>by cases h
 | _ :: _,[],_,h,_=>by cases h
 | [],_ :: _,[],_,h=>by cases h
 | [],_ :: _,_ :: _,_,_=>rfl
 | _ :: _,_ :: _,[],_,h=>by cases h
 | x :: a,y :: b,z :: c,h1,h2=>by
  unfold lessV at *
  simp only [Bool.or_eq_true,Bool.and_eq_true,decide_eq_true_iff] at *
  rcases h1 with h1|⟨rfl,h1⟩
  ·rcases h2 with h2|⟨rfl,h2⟩
   ·exact .inl (Qwp h1 h2)
   ·exact .inl h1
  ·rcases h2 with h2|⟨rfl,h2⟩
   ·exact .inl h2
   ·exact .inr ⟨rfl,Qrf h1 h2⟩
theorem Qtp:∀ (a b:List Qab),a=b∨lessV a b=true∨lessV b a=true
 | [],[]=>.inl rfl
 | [],_ :: _=>.inr (.inl rfl)
 | _ :: _,[]=>.inr (.inr rfl)
 | x :: a,y :: b=>by
  unfold lessV
  simp only [Bool.or_eq_true,Bool.and_eq_true,decide_eq_true_iff]
  rcases Qyi x y with rfl|h|h
  ·rcases Qtp a b with rfl|h|h
   ·exact .inl rfl
   ·exact .inr (.inl (.inr ⟨rfl,h⟩))
   ·exact .inr (.inr (.inr ⟨rfl,h⟩))
  ·exact .inr (.inl (.inl h))
  ·exact .inr (.inr (.inl h))
abbrev Ky:=Int×List Qab
def kLt (k q:Ky):Prop:=k.1<q.1∨(k.1=q.1∧lessV k.2 q.2=true)
theorem QuM {k:Ky}:¬ kLt k k:=by
 rintro (h|⟨_,h⟩)
 ·omega
 ·rw [Qto] at h; cases h
theorem Qwk {a b c:Ky} (h1:kLt a b) (h2:kLt b c):kLt a c:=by
 rcases h1 with h1|⟨h1,h3⟩ <;> rcases h2 with h2|⟨h2,h4⟩
 ·exact .inl (by omega)
 ·exact .inl (by omega)
 ·exact .inl (by omega)
 ·exact .inr ⟨by omega,Qrf h3 h4⟩
theorem Qyf (a b:Ky):a=b∨kLt a b∨kLt b a:=by
 rcases Int.lt_trichotomy a.1 b.1 with h|h|h
 ·exact .inr (.inl (.inl h))
 ·rcases Qtp a.2 b.2 with h'|h'|h'
  ·exact .inl (Prod.ext h h')
  ·exact .inr (.inl (.inr ⟨h,h'⟩))
  ·exact .inr (.inr (.inr ⟨h.symm,h'⟩))
 ·exact .inr (.inr (.inl h))
theorem Qwj {a b c:Ky} (h1:¬ kLt a b) (h2:¬ kLt b c):¬ kLt a c:=fun h=>by
 rcases Qyf b c with rfl|h3|h3
 ·exact h1 h
 ·exact h2 h3
 ·exact h1 (Qwk h h3)
def Bst (S:Ky→Prop) (s t:Option Ky):Prop:=(∀ k,t=some k→s=some k∨S k)∧(∀ k,(s=some k∨S k)→∃ k',t=some k'∧¬ kLt k k')
theorem Bst.none {S:Ky→Prop} {s:Option Ky} (h:∀ k,¬ S k):Bst S s s :=
 ⟨fun k e=>.inl e,fun k e=>e.elim (fun e=>⟨k,e,QuM⟩) fun e=>absurd e (h k)⟩
theorem Bst.comp {S T:Ky→Prop} {s t u:Option Ky} (h1:Bst S s t) (h2:Bst T t u):Bst (fun k=>S k∨T k) s u:=by
 refine ⟨fun k e=>?_,fun k e=>?_⟩
 ·rcases h2.1 k e with e|e
  ·rcases h1.1 k e with e|e
   ·exact .inl e
   ·exact .inr (.inl e)
  ·exact .inr (.inr e)
 ·have go:(s=some k∨S k)→∃ k',u=some k'∧¬ kLt k k':=fun e=>by
   obtain ⟨a,ha,hl⟩:=h1.2 k e
   obtain ⟨b,hb,hm⟩:=h2.2 a (.inl ha)
   exact ⟨b,hb,Qwj hl hm⟩
  rcases e with e|e|e
  ·exact go (.inl e)
  ·exact go (.inr e)
  ·exact h2.2 k (.inr e)
theorem Bst.congr {S T:Ky→Prop} {s t:Option Ky} (h:Bst S s t) (he:∀ k,S k↔T k):Bst T s t :=
 ⟨fun k e=>(h.1 k e).imp id (he k).1,fun k e=>h.2 k (e.imp id (he k).2)⟩
theorem Bst.one {S:Ky→Prop} {k:Ky} (hS:∀ q,S q↔q=k) {s t:Option Ky} (h:(t=some k∧∀ q,s=some q→¬ kLt q k)∨(t=s∧∃ q,s=some q∧¬ kLt k q)):Bst S s t:=by
 rcases h with ⟨rfl,h⟩|⟨rfl,q,rfl,h⟩
 ·refine ⟨fun q e=>.inr ((hS q).2 (Option.some.inj e).symm),fun q e=>⟨k,rfl,?_⟩⟩
  rcases e with e|e
  ·exact h q e
  ·rw [(hS q).1 e]; exact QuM
 ·refine ⟨fun q e=>.inl e,fun q' e=>?_⟩
  rcases e with e|e
  ·exact ⟨q',e,QuM⟩
  ·rw [(hS q').1 e]; exact ⟨q,rfl,h⟩
theorem Bst.nil {S:Ky→Prop} {s:Option Ky} (h:∀ k,¬ S k):Bst S s s:=Bst.none h
theorem Bst.more {α:Type} {T:α→Ky→Prop} {l:List α} {i:Nat} {a:α} {s t u:Option Ky} (h:Bst (fun k=>∃ b∈l.take i,T b k) s t) (ha:l[i]?=some a) (h2:Bst (T a) t u):Bst (fun k=>∃ b∈l.take (i+1),T b k) s u:=by
 refine (h.comp h2).congr fun k=>?_
 rw [take_one ha]
 constructor
 ·rintro (⟨b,hb,h⟩|h)
  ·exact ⟨b,List.mem_append_left _ hb,h⟩
  ·exact ⟨a,by simp,h⟩
 ·rintro ⟨b,hb,h⟩
  rcases List.mem_append.1 hb with hb|hb
  ·exact .inl ⟨b,hb,h⟩
  ·rw [List.mem_singleton.1 hb] at h; exact .inr h
end Go.Proofs.YtfjiafgldchinaaGreatDoor
namespace Go.Proofs.YtfjiafgldchinaaGreatDoor
set_option linter.unusedSimpArgs false
set_option linter.unusedVariables false
set_option linter.unusedSectionVars false
def headV (v:Qab):List Qab→List Qab
 | []=>[]
 | w :: r=>if w=v then [] else w :: headV v r
def Qyo (x:Qac) (l:List Qab) (o:Int):Bool:=x.before.all fun p=>!eqI p.x1 o||(visO x p.x0).all fun w=>l.any (isV w)
def Qyp (x:Qac) (l:List Qab) (v:Qab):Bool:=!l.any (isV v)&&((headV v (visO x v.order)).all (fun w=>l.any (isV w))&&Qyo x l v.order)
def offN (x:Qac) (i:Nat):Bool:=match x.orders[i]? with
 | some o=>o.off
 | none=>true
structure GoodL (x:Qac) (l:List Qab):Prop where
 nodup:l.Nodup
 inn:∀ v∈l,0≤v.order∧v.order<x.orders.length
section
variable {x : Qac} {l t : List Qab} {m : Nat} {v w : Qab}
theorem QvQ {o:Int} (h:v∈visO x o):v.order=o:=by
 unfold visO at h
 split at h
 ·rcases List.mem_append.1 h with h|h <;> (split at h <;> simp at h; rw [h])
 ·cases h
theorem GoodL.add (h:GoodL x l) (hv:v ∉ l) (h0:0≤v.order∧v.order<x.orders.length):GoodL x (l++[v]):=by
 refine ⟨List.nodup_append.2 ⟨h.nodup,by simp,fun a ha b hb=>?_⟩,fun w hw=>?_⟩
 ·rw [List.mem_singleton.1 hb]; exact fun e=>hv (e ▸ ha)
 ·rcases List.mem_append.1 hw with hw|hw
  ·exact h.inn w hw
  ·rw [List.mem_singleton.1 hw]; exact h0
theorem GoodL.len (h:GoodL x l):l.length≤2*x.orders.length:=by
 have hm:(l.map fun v:Qab=>2*v.order.toNat+(if v.drop=true then 1 else 0)).Nodup:=by
  unfold List.Nodup
  rw [List.pairwise_map]
  refine h.nodup.imp_of_mem fun {a b} ha hb hne he=>hne ?_
  have h1:=h.inn a ha
  have h2:=h.inn b hb
  cases a with
  | mk ao ad =>
   cases b with
   | mk bo bd =>
    simp only at h1 h2 he
    have hd:ad=bd∧ao=bo:=by
     cases ad <;> cases bd <;> simp at he ⊢ <;> omega
    rw [hd.1,hd.2]
 have:=QrA (2*x.orders.length) _ hm fun a ha=>by
  obtain ⟨v,hv,rfl⟩:=List.mem_map.1 ha
  have h1:=h.inn v hv
  split <;> omega
 simpa using this
theorem SeqOK.good (h:SeqOK x l):GoodL x l:=⟨h.nodup,fun v hv=>Qwf h.inn hv⟩
theorem SeqOK.all (h:SeqOK x l) {o:Int} (ho:hasO l o=true) (hw:w∈visO x o):w∈l:=by
 obtain ⟨v,hv,rfl⟩:=Qwc.1 ho
 have hp:=h.pair v hv
 unfold pairV at hp
 rw [Bool.and_eq_true] at hp
 have hr:=hp.2
 cases hvis:visO x v.order with
 | nil=>rw [hvis] at hw; cases hw
 | cons a r =>
  rw [hvis] at hr hw
  cases r with
  | nil =>
   simp only [rowB,geI_t] at hr
   rw [List.mem_singleton.1 hw]
   exact Qwh.1 hr
  | cons b r =>
   obtain ⟨rfl,_⟩:=QvR hvis
   simp only [rowB,geI_t,Bool.and_eq_true,ltI_t] at hr
   rcases List.mem_cons.1 hw with rfl|hw
   ·exact Qwh.1 hr.1
   ·rw [List.mem_singleton.1 hw]
    exact Qwh.1 (by omega)
theorem SeqOK.own (h:SeqOK x l) (hv:v∈l):v∈visO x v.order:=by
 have hp:=h.pair v hv
 unfold pairV at hp
 rw [Bool.and_eq_true] at hp
 exact any_V.1 hp.1
theorem QyL (h:(l++v :: t).Nodup):ixI (isV v) (l++v :: t)=(l.length:Int):=by
 have h0:=Qwh.2 (show v∈l++v :: t by simp)
 obtain ⟨k,hk⟩:∃ k:Nat,ixI (isV v) (l++v :: t)=k:=⟨(ixI (isV v) (l++v :: t)).toNat,by omega⟩
 obtain ⟨h1,h2⟩:=Qye hk
 rw [hk]
 rcases Nat.lt_trichotomy k l.length with h3|h3|h3
 ·rw [List.getElem?_append_left h3] at h1
  exact absurd rfl ((List.nodup_append.1 h).2.2 v (List.mem_of_getElem? h1) v (by simp))
 ·rw [h3]
 ·exact absurd (by rw [List.getElem?_append_right (Nat.le_refl _)]; simp) (h2 l.length h3)
theorem ix_lt (h:ixI (isV w) (l++t)<(l.length:Int)) (h0:0≤ixI (isV w) (l++t)):w∈l:=by
 obtain ⟨k,hk⟩:∃ k:Nat,ixI (isV w) (l++t)=k:=⟨(ixI (isV w) (l++t)).toNat,by omega⟩
 obtain ⟨h1,_⟩:=Qye hk
 rw [List.getElem?_append_left (by omega)] at h1
 exact List.mem_of_getElem? h1
theorem SeqOK.head (h:SeqOK x (l++v :: t)) (hw:w∈headV v (visO x v.order)):w∈l:=by
 have hp:=h.pair v (by simp)
 unfold pairV at hp
 rw [Bool.and_eq_true] at hp
 obtain ⟨h1,hr⟩:=hp
 have hv:=any_V.1 h1
 have hix:=QyL h.nodup
 cases hvis:visO x v.order with
 | nil=>rw [hvis] at hw; cases hw
 | cons a r =>
  rw [hvis] at hr hw hv
  cases r with
  | nil =>
   rw [headV,if_pos (List.mem_singleton.1 hv).symm] at hw
   cases hw
  | cons b r =>
   obtain ⟨rfl,hne⟩:=QvR hvis
   by_cases ha:a=v
   ·rw [headV,if_pos ha] at hw; cases hw
   ·have hb:b=v:=by
     rcases List.mem_cons.1 hv with h|h
     ·exact absurd h.symm ha
     ·exact (List.mem_singleton.1 h).symm
    rw [headV,if_neg ha,headV,if_pos hb] at hw
    rw [List.mem_singleton.1 hw]
    simp only [rowB,geI_t,Bool.and_eq_true,ltI_t] at hr
    rw [hb,hix] at hr
    exact ix_lt hr.2 hr.1
theorem Qv1 (h:SeqOK x (l++v :: t)) {p:Qar} (hp:p∈x.before) (ho:p.x1=v.order) (hw:w∈visO x p.x0):w∈l:=by
 have hb:hasO (l++v :: t) p.x1=true:=Qwc.2 ⟨v,by simp,ho.symm⟩
 have h1:badB (l++v :: t) p=false:=by simpa using List.any_eq_false.1 h.before p hp
 unfold badB at h1
 rw [hb,Bool.true_and] at h1
 simp only [Bool.or_eq_false_iff,Bool.not_eq_false'] at h1
 obtain ⟨h2,h3⟩:=h1
 have hm:=h.all h2 hw
 rcases List.mem_append.1 hm with hm|hm
 ·exact hm
 ·exfalso
  unfold lateB at h3
  cases e:ixP (isO p.x1) (l++v :: t) with
  | none =>
   have:=QuL e v (by simp)
   rw [isO_t.2 ho.symm] at this
   cases this
  | some k =>
   rw [e] at h3
   simp only at h3
   have hk:k≤l.length:=Nat.le_of_not_lt fun hlt=>by
    have:=(QsE e).2.2 l.length hlt
    rw [List.getElem_append_right (Nat.le_refl _)] at this
    simp only [Nat.sub_self,List.getElem_cons_zero] at this
    rw [isO_t.2 ho.symm] at this
    cases this
   have:hasO ((l++v :: t).drop k) p.x0=true:=Qwc.2 ⟨w,by rw [List.drop_append_of_le_length hk]; exact List.mem_append_right _ hm,QvQ hw⟩
   rw [this] at h3
   cases h3
theorem SeqOK.ready (h:SeqOK x (l++v :: t)):Qyp x l v=true:=by
 unfold Qyp
 have hn:v ∉ l:=fun hv=>(List.nodup_append.1 h.nodup).2.2 v hv v (by simp) rfl
 have e1:l.any (isV v)=false:=by rw [Bool.eq_false_iff,Ne,any_V]; exact hn
 rw [e1,Bool.not_false,Bool.true_and,Bool.and_eq_true,List.all_eq_true]
 refine ⟨fun w hw=>any_V.2 (h.head hw),?_⟩
 unfold Qyo
 rw [List.all_eq_true]
 intro p hp
 by_cases ho:p.x1=v.order
 ·rw [Bool.or_eq_true]
  exact .inr (List.all_eq_true.2 fun w hw=>any_V.2 (Qv1 h hp ho hw))
 ·rw [Bool.or_eq_true]
  exact .inl (by simpa using ho)
end
end Go.Proofs.YtfjiafgldchinaaGreatDoor
namespace Go.Proofs.YtfjiafgldchinaaGreatDoor
set_option linter.unusedSimpArgs false
set_option linter.unusedVariables false
set_option linter.unusedSectionVars false
def inS (m:Nat) (i:Int):Bool:=decide (0≤i)&&m.testBit i.toNat
def memS (m:Nat):Nat→List Int
 | 0=>[]
 | n+1=>memS m n++(if m.testBit n=true then [(n:Int)] else [])
section
variable {m : Nat}
theorem Qrd {k:Nat}:inS m (k:Int)=m.testBit k:=by simp [inS]
theorem tb63 (hm:m<9223372036854775808) {i:Nat} (hi:63≤i):m.testBit i=false :=
 Nat.testBit_lt_two_pow (Nat.lt_of_lt_of_le hm (show 2 ^ 63≤2 ^ i from Nat.pow_le_pow_right (by omega) hi))
theorem bitA (hm:m<9223372036854775808) {k:Nat} (hk:k≤62):eqI (andK .i64 (shrK .i64 (m:Int) (k:Int)) 1) 1=m.testBit k:=by
 rw [shrN (by omega)]
 have h1:m / 2 ^ k≤m:=Nat.div_le_self ..
 rw [show (1:Int)=((1:Nat):Int) from rfl,andN (by omega) (by omega),Nat.and_one_is_mod,Nat.testBit_eq_decide_div_mod_eq]
 generalize m / 2 ^ k=q
 unfold eqI
 rw [Bool.eq_iff_iff,beq_iff_eq,decide_eq_true_eq]
 omega
theorem QrU (hm:m<9223372036854775808) (i:Int):QbZ (m:Int) i=some (inS m i):=by
 unfold QbZ
 by_cases h:0≤i∧i≤62
 ·obtain ⟨k,rfl⟩:∃ k:Nat,i=k:=⟨i.toNat,by omega⟩
  rw [Qcq (by simp; omega),Qjq (by omega),bitA hm (by omega),Qrd]
 ·rw [Qa2 (by rw [Bool.and_eq_false_iff,geI_f,leI_f]; omega)]
  unfold inS
  by_cases h0:0≤i
  ·rw [tb63 hm (by omega)]; simp
  ·simp [h0]
theorem pow62 {k:Nat} (hk:k≤62):2 ^ k≤4611686018427387904:=Nat.pow_le_pow_right (n:=2) (by omega) hk
theorem Qw3 {k:Nat} (hk:k≤62):Qdc (k:Int)=some ((2 ^ k:Nat):Int):=by
 unfold Qdc
 have:loopF (fun s:Int×Int=>QbI (k:Int) s.1 s.2) (1,0)=some ((2 ^ k:Nat):Int) :=
  Qgh k (fun j=>(((2 ^ j:Nat):Int),(j:Int))) (B:=fun s:Int×Int=>QbI (k:Int) s.1 s.2) (by omega) (fun j hj=>by
   show QbI (k:Int) ((2 ^ j:Nat):Int) (j:Int)=_
   have:=pow62 (k:=j+1) (by omega)
   have h2:2 ^ (j+1)=2*2 ^ j:=by rw [Nat.pow_succ]; omega
   unfold QbI
   rw [Qcq (by simp; omega),mulI (by omega) (by omega),addI (by omega) (by omega)]
   rw [h2]; simp) (by
   show QbI (k:Int) ((2 ^ k:Nat):Int) (k:Int)=_
   unfold QbI
   rw [Qa2 (by simp)])
 rw [Qee this]
theorem quoN {a b:Nat} (ha:a<9223372036854775808):quoK .i64 (a:Int) (b:Int)=((a / b:Nat):Int):=by
 have h1:(a:Int).tdiv (b:Int)=((a / b:Nat):Int):=by rw [Int.tdiv_eq_ediv_of_nonneg (by omega)]; rfl
 have h2:a / b≤a:=Nat.div_le_self ..
 generalize a / b=q at h1 h2
 rw [quoI (by rw [h1]; omega) (by rw [h1]; omega),h1]
theorem Qmx (hm:m<9223372036854775808) (i:Int):QaL (m:Int) i=some (inS m i):=by
 unfold QaL
 by_cases h:0≤i∧i≤62
 ·obtain ⟨k,rfl⟩:∃ k:Nat,i=k:=⟨i.toNat,by omega⟩
  have hp:0<2 ^ k:=Nat.pow_pos (by omega)
  rw [Qcq (by simp; omega),Qw3 (by omega),Qam,Qjq (by omega),quoN hm,Qta,Qrd]
 ·rw [Qa2 (by rw [Bool.and_eq_false_iff,geI_f,leI_f]; omega)]
  unfold inS
  by_cases h0:0≤i
  ·rw [tb63 hm (by omega)]; simp
  ·simp [h0]
theorem QkZ:∀ n,(memS m n).length≤n
 | 0=>Nat.le_refl 0
 | n+1=>by have:=QkZ n; unfold memS; split <;> simp <;> omega
theorem QsI {i:Int}:∀ {n:Nat},i∈memS m n↔∃ k:Nat,i=k∧k<n∧m.testBit k=true
 | 0=>by simp [memS]
 | n+1=>by
  unfold memS
  rw [List.mem_append,QsI]
  constructor
  ·rintro (⟨k,h1,h2,h3⟩|h)
   ·exact ⟨k,h1,by omega,h3⟩
   ·split at h
    ·rename_i hb; exact ⟨n,by simpa using h,by omega,hb⟩
    ·cases h
  ·rintro ⟨k,rfl,h2,h3⟩
   rcases Nat.lt_or_eq_of_le (Nat.le_of_lt_succ h2) with h|rfl
   ·exact .inl ⟨k,rfl,h,h3⟩
   ·exact .inr (by rw [if_pos h3]; simp)
theorem Qnp {n0:Nat} (h:m<2 ^ n0):∀ {n:Nat},n0≤n→memS m n=memS m n0
 | 0,hn=>by rw [Nat.le_zero.1 hn]
 | n+1,hn=>by
  rcases Nat.lt_or_eq_of_le hn with h1|rfl
  ·rw [memS,Qnp h (Nat.le_of_lt_succ h1),if_neg (by rw [Nat.testBit_lt_two_pow (Nat.lt_of_lt_of_le h (Nat.pow_le_pow_right (by omega) (Nat.le_of_lt_succ h1)))]; decide),List.append_nil]
  ·rfl
theorem Qsc (hm:m<9223372036854775808):Qgm (m:Int)=some (memS m 63):=by
 unfold Qgm
 have this:loopF (fun q:List Int×Int=>Qch (m:Int) q.1 q.2) ([],0)=some (memS m 63):=Qgh 63 (fun k=>(memS m k,(k:Int))) (B:=fun q:List Int×Int=>Qch (m:Int) q.1 q.2) (by omega) (fun k hk=>by
  show Qch (m:Int) (memS m k) (k:Int)=_
  have:=QkZ (m:=m) k
  unfold Qch
  rw [Qcq (by simp; omega),QrU hm,Qam,Qrd,addI (by omega) (by omega),Qjq (by unfold okN; simp; omega),brs]
  show _=some (Sum.inl (memS m k++(if m.testBit k=true then [(k:Int)] else []),((k+1:Nat):Int)))
  split <;> simp) (by
  show Qch (m:Int) (memS m 63) ((63:Nat):Int)=_
  unfold Qch
  rw [Qa2 (by decide)])
 rw [Qee this]
theorem Qoe (hm:m<9223372036854775808):Qcz (m:Int)=some (memS m 63):=by
 unfold Qcz
 have this:loopF (fun q:List Int×Int=>QaW (m:Int) q.1 q.2) ([],0)=some (memS m 63):=Qgh 63 (fun k=>(memS m k,(k:Int))) (B:=fun q:List Int×Int=>QaW (m:Int) q.1 q.2) (by omega) (fun k hk=>by
  show QaW (m:Int) (memS m k) (k:Int)=_
  have:=QkZ (m:=m) k
  unfold QaW
  rw [Qcq (by simp; omega),Qmx hm,Qam,Qrd,addI (by omega) (by omega),Qjq (by unfold okN; simp; omega),brs]
  show _=some (Sum.inl (memS m k++(if m.testBit k=true then [(k:Int)] else []),((k+1:Nat):Int)))
  split <;> simp) (by
  show QaW (m:Int) (memS m 63) ((63:Nat):Int)=_
  unfold QaW
  rw [Qa2 (by decide)])
 rw [Qee this]
end
end Go.Proofs.YtfjiafgldchinaaGreatDoor
namespace Go.Proofs.YtfjiafgldchinaaGreatDoor
set_option linter.unusedSimpArgs false
set_option linter.unusedVariables false
set_option linter.unusedSectionVars false
def qL (a:Qad):Qaf:=Qaf.mk a.type_ a.visits a.place a.time a.driven a.miles a.load a.done a.open_
def restL (t:Qah) (l:Qad):Qad:=Qad.mk l.type_ l.visits l.place (l.time+t.rest_) 0 l.miles l.load l.done l.open_
def withL (t:Qah) (l:Qad):List Qad:=[l,restL t l]
noncomputable def ablB (t:Qah) (s:Int):Bool:=match QgF t s with
 | some b=>b
 | none=>false
def skO (x:Qac) (i:Nat):Int:=match x.orders[i]? with
 | some o=>o.skills
 | none=>0
def typK0 (x:Qac) (kind:Int):Qah:=x.types.getD kind.toNat zType
def Qvf (x:Qac) (m:Nat):Bool:=!x.apart.any (fun p=>inS m p.x0&&inS m p.x1)&&!x.before.any (fun p=>inS m p.x1&&!inS m p.x0)
def offsB (x:Qac) (m:Nat):Bool:=(memS m x.orders.length).any fun i=>offN x i.toNat
noncomputable def unabB (x:Qac) (t:Qah) (m:Nat):Bool:=(memS m x.orders.length).any fun i=>!ablB t (skO x i.toNat)
noncomputable def mayB (x:Qac) (kind:Int) (m:Nat):Bool:=decide (0≤kind∧kind<x.types.length∧0<m∧m<2 ^ x.orders.length)&&(!offsB x m&&(Qvf x m&&!unabB x (typK0 x kind) m))
def openS (x:Qac) (m:Nat):Nat→Nat
 | 0=>0
 | n+1=>openS x m n ||| (if (m.testBit n&&pk0 x n)=true then 2 ^ n else 0)
def stL (x:Qac) (m:Nat) (k d:Nat):Int:=sumF (stO x d) ((memS m x.orders.length).take k)
def baseL (x:Qac) (kind:Int) (m:Nat):Qad :=
 Qad.mk kind [] (typK0 x kind).from_ (typK0 x kind).open_ 0 0 (vecN (Qcr x.types) fun d=>sumF (stO x d) (memS m x.orders.length)) 0 (openS x m x.orders.length:Nat)
noncomputable def Qsr (x:Qac) (kind:Int) (m:Nat):List Qad :=
 if mayB x kind m=true then (if overB (typK0 x kind).cap (baseL x kind m).load=true then [] else withL (typK0 x kind) (baseL x kind m)) else []
section
variable {x : Qac} {m : Nat} {kind : Int} {t : Qah}
theorem Qs6 {s:Int} (ht:0≤t.skills∧t.skills≤1073741823) (hs:0≤s∧s≤1073741823):QgF t s=some (ablB t s)∧Qdj t s=some (ablB t s):=by
 obtain ⟨b,h1,h2⟩:=QyG ht hs
 unfold ablB
 rw [h1]
 exact ⟨rfl,h2⟩
theorem QqU (h0:0≤kind) (h1:kind<x.types.length):getI x.types kind=some (typK0 x kind)∧typK0 x kind∈x.types:=by
 unfold typK0
 rw [Qqd h0 h1,List.getD_eq_getElem?_getD,List.getElem?_eq_getElem (by omega)]
 exact ⟨rfl,List.getElem_mem _⟩
theorem QrC (i:Nat):∀ n,(openS x m n).testBit i=(decide (i<n)&&(m.testBit i&&pk0 x i))
 | 0=>by simp [openS]
 | n+1=>by
  unfold openS
  rw [Nat.testBit_or,QrC i n]
  by_cases hi:i=n
  ·subst hi
   by_cases hc:(m.testBit i&&pk0 x i)=true
   ·rw [if_pos hc,hc]; simp
   ·rw [if_neg hc]; simp at hc ⊢; exact hc
  ·have h1:(if (m.testBit n&&pk0 x n)=true then 2 ^ n else 0).testBit i=false:=by
    split
    ·rw [Nat.testBit_two_pow]; simp; omega
    ·simp
   rw [h1,Bool.or_false]
   have h2:decide (i<n+1)=decide (i<n):=by rw [Bool.eq_iff_iff]; simp; omega
   rw [h2]
theorem Qqv:∀ n,openS x m n<2 ^ n
 | 0=>by simp [openS]
 | n+1=>by
  have h1:=Qqv n
  have h2:2 ^ n<2 ^ (n+1):=Nat.pow_lt_pow_right (by omega) (by omega)
  unfold openS
  refine Nat.or_lt_two_pow (by omega) ?_
  split
  ·exact h2
  ·exact Nat.pow_pos (by omega)
theorem Qsb {n k:Nat} {i:Int} (h:(memS m n)[k]?=some i):∃ j:Nat,i=j∧j<n∧m.testBit j=true∧(memS m n).take k=memS m j∧(memS m n).take (k+1)=memS m (j+1):=by
 induction n with
 | zero=>simp [memS] at h
 | succ n ih =>
  have e:memS m (n+1)=memS m n++(if m.testBit n=true then [(n:Int)] else []):=rfl
  rw [e] at h ⊢
  rcases Nat.lt_or_ge k (memS m n).length with hk|hk
  ·rw [List.getElem?_append_left hk] at h
   obtain ⟨j,h1,h2,h3,h4,h5⟩:=ih h
   refine ⟨j,h1,by omega,h3,?_,?_⟩
   ·rw [List.take_append_of_le_length (by omega)]; exact h4
   ·rw [List.take_append_of_le_length (by omega)]; exact h5
  ·rw [List.getElem?_append_right hk] at h
   split at h
   ·rename_i hb
    have h0:k-(memS m n).length=0:=by
     have:=(List.getElem?_eq_some_iff.1 h).1
     simp at this; omega
    rw [h0] at h
    have hk':k=(memS m n).length:=by omega
    simp at h
    subst hk'
    refine ⟨n,h.symm,by omega,hb,?_,?_⟩
    ·simp
    ·rw [← e]; exact List.take_of_length_le (by rw [e,if_pos hb]; simp)
   ·simp at h
def opL (x:Qac) (l:List Int):Nat:=l.foldl (fun a i=>if pk0 x i.toNat=true then a ||| 2 ^ i.toNat else a) 0
theorem QrB {l:List Int} {i:Int}:opL x (l++[i])=if pk0 x i.toNat=true then opL x l ||| 2 ^ i.toNat else opL x l:=by simp [opL]
theorem Qqu:∀ n,opL x (memS m n)=openS x m n
 | 0=>rfl
 | n+1=>by
  have ih:=Qqu n
  unfold memS openS
  cases hb:m.testBit n with
  | false=>simp [ih]
  | true =>
   rw [if_pos rfl,QrB,Int.toNat_natCast,ih]
   cases hp:pk0 x n <;> simp
theorem Qyt (hx:Qcy x) {d:Nat} {k:Nat}:0≤stL x m k d∧stL x m k d≤10000:=by
 have h:=QtO (f:=stO x d) (l:=(memS m x.orders.length).take k) fun a _=>Qys hx d a
 have h1:=QkZ (m:=m) x.orders.length
 have h2:=hx.orders
 rw [List.length_take] at h
 unfold stL
 omega
theorem Qxo (hx:Qcy x) {s:Int} (hs:isI64 s):Qk4 x s=some (decide (0<s∧s<((2 ^ x.orders.length:Nat):Int))&&!offsB x s.toNat):=by
 have h10:=hx.orders
 have hp:2 ^ x.orders.length≤2 ^ 10:=Nat.pow_le_pow_right (by omega) h10
 unfold Qk4
 by_cases h0:s≤0
 ·rw [Qcq (by simpa using h0),show decide (0<s∧s<((2 ^ x.orders.length:Nat):Int))=false by simp; omega]; rfl
 rw [Qa2 (by simpa using h0),show (lenI x.orders)=((x.orders.length:Nat):Int) from rfl,cvuN (by omega),Qjq (by omega),shlN (by omega)]
 by_cases h1:¬ s<((2 ^ x.orders.length:Nat):Int)
 ·rw [Qcq (by simp only [geI_t]; omega),show decide (0<s∧s<((2 ^ x.orders.length:Nat):Int))=false by simp only [decide_eq_false_iff_not]; omega]; rfl
 rw [Decidable.not_not] at h1
 rw [Qa2 (by simp only [geI_f]; omega)]
 obtain ⟨n,rfl⟩:∃ n:Nat,s=n:=⟨s.toNat,by omega⟩
 have hn:n<2 ^ x.orders.length:=by omega
 rw [Qsc (by omega),Qam,Qnp hn (by omega),show decide (0<(n:Int)∧(n:Int)<((2 ^ x.orders.length:Nat):Int))=true by simp only [decide_eq_true_eq]; omega,Bool.true_and,Int.toNat_natCast]
 have hl:=QkZ (m:=n) x.orders.length
 rw [Qee (QlT (B:=fun s=>Qdb x (memS n x.orders.length) s) (l:=memS n x.orders.length) (by omega) (fun i=>offN x i.toNat) (y:=(.inr false:Unit⊕Bool)) (N:=.inl ()) (fun i a h=>by
  obtain ⟨j,rfl,h2,_⟩:=Qsb h
  obtain ⟨o,e,_⟩:=QpO hx h2
  show Qdb x (memS n x.orders.length) i=_
  unfold Qdb
  rw [Qd8 h,QaG e,Qam,incL h (by omega),brs,Int.toNat_natCast]
  unfold offN; rw [e]) (by
  show Qdb x (memS n x.orders.length) (memS n x.orders.length).length=_
  unfold Qdb
  rw [QcL]))]
 unfold offsB
 cases (memS n x.orders.length).any fun i=>offN x i.toNat <;> rfl
theorem Qu3 (hx:Qcy x) (hm:m<9223372036854775808):Qjw x (m:Int)=some (Qvf x m):=by
 have ha:=hx.apart
 have hb:=hx.before
 unfold Qjw
 rw [Qee (QlT (B:=fun s=>QcF x (m:Int) s) (l:=x.apart) (by omega) (fun p=>inS m p.x0&&inS m p.x1) (y:=(.inr false:Unit⊕Bool)) (N:=.inl ()) (fun i a h=>by
  show QcF x (m:Int) i=_
  unfold QcF
  rw [Qd8 h,QrU hm,Qam,QrU hm,Qam,incL h (by omega)]
  cases inS m a.x0 <;> cases inS m a.x1 <;> rfl) (by
  show QcF x (m:Int) x.apart.length=_
  unfold QcF
  rw [QcL]))]
 unfold Qvf
 by_cases h1:(x.apart.any fun p=>inS m p.x0&&inS m p.x1)=true
 ·rw [if_pos h1,h1]; rfl
 have h1':(x.apart.any fun p=>inS m p.x0&&inS m p.x1)=false:=by simpa using h1
 rw [if_neg h1,Qht,h1',Qee (QlT (B:=fun s=>Qce x (m:Int) s) (l:=x.before) (by omega) (fun p=>inS m p.x1&&!inS m p.x0) (y:=(.inr false:Unit⊕Bool)) (N:=.inl ()) (fun i a h=>by
  show Qce x (m:Int) i=_
  unfold Qce
  rw [Qd8 h,QrU hm,Qam,QrU hm,Qam,incL h (by omega)]
  cases inS m a.x1 <;> cases inS m a.x0 <;> rfl) (by
  show Qce x (m:Int) x.before.length=_
  unfold Qce
  rw [QcL]))]
 cases (x.before.any fun p=>inS m p.x1&&!inS m p.x0) <;> rfl
theorem Qw1 {l:Qad} (h:0≤l.time∧l.time≤1000000) (ht:0≤t.rest_∧t.rest_≤4096):Qjx t l=some (withL t l):=by
 unfold Qjx withL restL
 rw [addI (by omega) (by omega)]
theorem Qs1 (hx:Qcy x) (h0:0≤kind) (h1:kind<x.types.length):TypOK x.net.places.length (Qcr x.types) (typK0 x kind):=hx.typ _ (QqU h0 h1).2
theorem QwE {D:Nat}:List.replicate D (0:Int)=vecN D fun _=>0:=by
 refine List.ext_getElem? fun i=>?_
 rcases Nat.lt_or_ge i D with h|h
 ·rw [Qe3 h]; simp [h]
 ·rw [List.getElem?_eq_none (by simp; omega),List.getElem?_eq_none (by rw [Qb6]; omega)]
theorem QvH {k:Nat} {i:Int} {d:Nat} (h:(memS m x.orders.length)[k]?=some i):stL x m (k+1) d=stL x m k d+stO x d i:=QtP h
theorem sk_ok (hx:Qcy x) {i:Nat} (hi:i<x.orders.length):0≤skO x i∧skO x i≤1073741823:=by
 obtain ⟨o,e,hm,_⟩:=QpO hx hi
 unfold skO
 rw [e]
 exact (hx.ord o hm).skills
end
end Go.Proofs.YtfjiafgldchinaaGreatDoor
namespace Go.Proofs.YtfjiafgldchinaaGreatDoor
set_option linter.unusedSimpArgs false
set_option linter.unusedVariables false
set_option linter.unusedSectionVars false
section
variable {x : Qac} {m : Nat} {kind : Int} {t : Qah}
theorem Qt3 (hx:Qcy x) (h0:0≤kind) (h1:kind<x.types.length) (hm:m<2 ^ x.orders.length) :
  loopF (fun s:Int×Int×List Int×Int×Int=>QeA x kind (typK0 x kind) (List.replicate (Qcr x.types) 0) (memS m x.orders.length) s.1 s.2.1 s.2.2.1 s.2.2.2.1 s.2.2.2.2) ((typK0 x kind).open_,(typK0 x kind).open_,List.replicate (Qcr x.types) 0,0,0) =
   some (if unabB x (typK0 x kind) m=true then .inr [] else .inl ((typK0 x kind).open_,(typK0 x kind).open_,vecN (Qcr x.types) (fun d=>sumF (stO x d) (memS m x.orders.length)),((openS x m x.orders.length:Nat):Int))):=by
 have hT:=Qs1 hx h0 h1
 have hD:=Qpv hx
 have h10:=hx.orders
 have hp:2 ^ x.orders.length≤2 ^ 10:=Nat.pow_le_pow_right (by omega) h10
 have hlen:=QkZ (m:=m) x.orders.length
 generalize hTT:typK0 x kind=T at hT ⊢
 apply post.eq
 refine QdH (fun s:Int×Int×List Int×Int×Int=>∃ k:Nat,s=(T.open_,T.open_,vecN (Qcr x.types) (stL x m k),((opL x ((memS m x.orders.length).take k):Nat):Int),(k:Int))∧k≤(memS m x.orders.length).length∧∀ a∈(memS m x.orders.length).take k,ablB T (skO x a.toNat)=true)
  (fun s=>(memS m x.orders.length).length-s.2.2.2.2.toNat) ⟨0,by rw [QwE]; rfl,Nat.zero_le _,fun a h=>by simp at h⟩ (by simp; omega) ?_
 rintro _ ⟨k,rfl,hk,hab⟩
 show post (QeA x kind T (List.replicate (Qcr x.types) 0) (memS m x.orders.length) T.open_ T.open_ (vecN (Qcr x.types) (stL x m k)) ((opL x ((memS m x.orders.length).take k):Nat):Int) (k:Int)) _
 unfold QeA
 rcases Nat.lt_or_ge k (memS m x.orders.length).length with h|h
 ·have e:(memS m x.orders.length)[k]?=some (memS m x.orders.length)[k]:=List.getElem?_eq_getElem h
  generalize (memS m x.orders.length)[k]=i at e
  obtain ⟨j,rfl,j1,j2,j3,j4⟩:=Qsb e
  obtain ⟨o,o1,o2,o3,o4,o5⟩:=QpO hx j1
  have hsk:skO x j=o.skills:=by unfold skO; rw [o1]
  have hso:=sk_ok hx j1
  rw [Qd8 e,QaG o1,Qam,← hsk]
  have hab1:QgF (Qah.mk T.name T.count T.from_ T.to_ T.cap T.skills T.profile T.open_ T.close T.drive T.rest_ T.fixed T.perMile T.perTick) (skO x j)=some (ablB T (skO x j)):=(Qs6 hT.skills hso).1
  rw [hab1,Qam]
  have hopl:opL x ((memS m x.orders.length).take k)<1024:=by
   rw [j3,Qqu]
   have h1:=Qqv (x:=x) (m:=m) j
   have h2:2 ^ j≤2 ^ 10:=Nat.pow_le_pow_right (by omega) (by omega)
   omega
  refine QaF (fun hb=>?_) (fun hb=>?_)
  ·have hnext:∀ a∈(memS m x.orders.length).take (k+1),ablB T (skO x a.toNat)=true:=fun a ha=>by
    rw [take_one e] at ha
    rcases List.mem_append.1 ha with ha|ha
    ·exact hab a ha
    ·rw [List.mem_singleton.1 ha,Int.toNat_natCast]; exact hb
   refine QaF (fun hpk=>?_) (fun hpk=>?_)
   ·have hp0:pk0 x j=true:=by rw [o5]; simpa using hpk
    have hb1:∀ d,-4000000000≤stL x m k d∧stL x m k d≤4000000000:=fun d=>by have:=Qyt hx (m:=m) (d:=d) (k:=k); omega
    have h2:2 ^ j≤2 ^ 9:=Nat.pow_le_pow_right (by omega) (by omega)
    rw [o3,QxV hD.2 (fun d _=>hb1 d) (fun d _=>by have:=o4 d; omega),Qam,cvuN (by omega),Qjq (by omega),shlN (by omega),orN (by omega) (by omega),incL e (by omega)]
    refine QfV ⟨⟨k+1,?_,h,hnext⟩,by simp; omega⟩
    have e1:opL x ((memS m x.orders.length).take (k+1))=opL x ((memS m x.orders.length).take k) ||| 2 ^ j:=by rw [take_one e,QrB,Int.toNat_natCast,if_pos hp0]
    have e2:vecN (Qcr x.types) (stL x m (k+1))=vecN (Qcr x.types) (fun d=>stL x m k d+loadO x j d):=Qfw fun d _=>by
     rw [QvH e]; unfold stO; rw [Int.toNat_natCast,if_pos hp0]
    rw [e1,e2]; rfl
   ·have hp0:pk0 x j=false:=by rw [o5]; simpa using hpk
    rw [incL e (by omega)]
    refine QfV ⟨⟨k+1,?_,h,hnext⟩,by simp; omega⟩
    have e1:opL x ((memS m x.orders.length).take (k+1))=opL x ((memS m x.orders.length).take k):=by rw [take_one e,QrB,Int.toNat_natCast,hp0]; simp
    have e2:vecN (Qcr x.types) (stL x m (k+1))=vecN (Qcr x.types) (stL x m k):=Qfw fun d _=>by
     rw [QvH e]; unfold stO; rw [Int.toNat_natCast,hp0]; simp
    rw [e1,e2]; rfl
  ·have:unabB x T m=true:=List.any_eq_true.2 ⟨(j:Int),List.mem_of_getElem? e,by rw [Int.toNat_natCast,hb]; rfl⟩
   rw [if_pos this]
   exact QcO rfl
 ·obtain rfl:k=(memS m x.orders.length).length:=by omega
  rw [QcL]
  rw [List.take_length] at hab ⊢
  have:unabB x T m=false:=by
   unfold unabB
   rw [List.any_eq_false]
   intro a ha
   rw [hab a ha]; decide
  rw [if_neg (by rw [this]; decide),Qqu]
  refine QcO ?_
  congr 4
  refine Qfw fun d _=>?_
  unfold stL
  rw [List.take_length]
theorem Qtn (hx:Qcy x) {s:Int} (hs:isI64 s):Qgq x kind s=some (Qsr x kind s.toNat):=by
 have h10:=hx.orders
 have hp:2 ^ x.orders.length≤2 ^ 10:=Nat.pow_le_pow_right (by omega) h10
 have hD:=Qpv hx
 unfold Qgq Qsr mayB
 by_cases hk:¬ (0≤kind∧kind<x.types.length)
 ·rw [Qcq (by rw [Bool.or_eq_true,ltI_t,geI_t,lenI]; omega),decide_eq_false (by omega)]; rfl
 obtain ⟨h0,h1⟩:=Decidable.not_not.1 hk
 rw [Qa2 (by rw [Bool.or_eq_false_iff,ltI_f,geI_f,lenI]; omega),Qxo hx hs,Qam]
 by_cases hs0:¬ (0<s∧s<((2 ^ x.orders.length:Nat):Int))
 ·rw [Qa2 (by rw [decide_eq_false hs0]; rfl),decide_eq_false (by omega)]; rfl
 have hs1:=Decidable.not_not.1 hs0
 obtain ⟨m,rfl⟩:∃ m:Nat,s=m:=⟨s.toNat,by omega⟩
 rw [decide_eq_true hs1,Bool.true_and,Int.toNat_natCast,decide_eq_true (by omega),Bool.true_and]
 have hm:m<2 ^ x.orders.length:=by omega
 cases offsB x m with
 | true=>rfl
 | false =>
  rw [Bool.not_false,Qb4,Qu3 hx (by omega),Qam,Bool.true_and]
  cases Qvf x m with
  | false=>rfl
  | true =>
   obtain ⟨t1,t2⟩:=QqU h0 h1
   have hT:=Qs1 hx h0 h1
   rw [Qb4,t1,Qam,Bool.true_and]
   have hmk:mkI (lenI (typK0 x kind).cap) (lenI (typK0 x kind).cap) 8 (0:Int)=some (List.replicate (Qcr x.types) 0):=by
    unfold mkI lenI
    rw [hT.cap,if_pos (by omega)]; rfl
   rw [hmk,Qam,Qsc (by omega),Qam,Qnp hm (by omega),Qee (Qt3 hx h0 h1 hm)]
   cases hu:unabB x (typK0 x kind) m with
   | true=>rfl
   | false =>
    rw [if_neg (by decide),Qht,Bool.not_false,if_pos rfl]
    have hL:vecN (Qcr x.types) (fun d=>sumF (stO x d) (memS m x.orders.length))=(baseL x kind m).load:=rfl
    have hlen:(baseL x kind m).load.length=(typK0 x kind).cap.length:=by rw [← hL,Qb6,hT.cap]
    rw [hL]
    show bnd (QgH (baseL x kind m).load (typK0 x kind).cap) _=_
    rw [(Qrc hlen (by rw [← hL,Qb6]; omega)).1,Qam]
    cases overB (typK0 x kind).cap (baseL x kind m).load with
    | true=>rfl
    | false =>
     rw [Bool.not_false,Qb4,if_neg (by decide)]
     have ho:=hT.opn
     have hc:=hT.close
     exact Qee (Qw1 (l:=baseL x kind m) (by show 0≤(typK0 x kind).open_∧(typK0 x kind).open_≤1000000; omega) hT.rest)
theorem QyM (hx:Qcy x) {s:Int} (hs:isI64 s):Qg0 x kind s=some (mayB x kind s.toNat):=by
 have h10:=hx.orders
 have ha:=hx.apart
 have hb:=hx.before
 have hp:2 ^ x.orders.length≤2 ^ 10:=Nat.pow_le_pow_right (by omega) h10
 unfold Qg0 mayB
 by_cases hk:¬ (0≤kind∧kind<x.types.length∧0<s)
 ·rw [Qcq (by rw [Bool.or_eq_true,Bool.or_eq_true,ltI_t,geI_t,leI_t,lenI]; omega),decide_eq_false (by omega)]; rfl
 obtain ⟨h0,h1,h2⟩:=Decidable.not_not.1 hk
 obtain ⟨t1,t2⟩:=QqU h0 h1
 have hT:=Qs1 hx h0 h1
 obtain ⟨m,rfl⟩:∃ m:Nat,s=m:=⟨s.toNat,by omega⟩
 have hm63:m<9223372036854775808:=by have:=hs.2; omega
 rw [Qa2 (by rw [Bool.or_eq_false_iff,Bool.or_eq_false_iff,ltI_f,geI_f,leI_f,lenI]; omega),Qoe hm63,Qam,Int.toNat_natCast]
 have hl:=QkZ (m:=m) 63
 have hone:loopF (fun s=>QbN x kind (m:Int) (memS m 63) s) 0=some (if (memS m 63).any (fun i=>decide (x.orders.length≤i)||(offN x i.toNat||!ablB (typK0 x kind) (skO x i.toNat)))=true then .inr false else .inl ()) :=
  QlT (B:=fun s=>QbN x kind (m:Int) (memS m 63) s) (l:=memS m 63) (by omega) _ (fun i a h=>by
   obtain ⟨j,rfl,j2,_⟩:=Qsb h
   show QbN x kind (m:Int) (memS m 63) i=_
   unfold QbN
   rw [Qd8 h,incL h (by omega)]
   rcases Nat.lt_or_ge j x.orders.length with hj|hj
   ·obtain ⟨o,o1,o2,_⟩:=QpO hx hj
    have hsk:skO x j=o.skills:=by unfold skO; rw [o1]
    rw [Qa2 (by simp [lenI]; omega),QaG o1,Qam,decide_eq_false (by omega),Bool.false_or,Int.toNat_natCast]
    have ho:offN x j=o.off:=by unfold offN; rw [o1]
    rw [ho]
    cases o.off with
    | true=>rfl
    | false =>
     rw [QbP,t1,Qam,← hsk,(Qs6 hT.skills (sk_ok hx hj)).2,Qam]
     cases ablB (typK0 x kind) (skO x j) <;> rfl
   ·rw [Qcq (by simp [lenI]; omega),decide_eq_true (by omega)]; rfl) (by
   show QbN x kind (m:Int) (memS m 63) (memS m 63).length=_
   unfold QbN
   rw [QcL])
 rw [Qee hone]
 by_cases hm:m<2 ^ x.orders.length
 ·rw [Qnp hm (by omega),decide_eq_true (by omega),Bool.true_and]
  have hany:(memS m x.orders.length).any (fun i=>decide (x.orders.length≤i)||(offN x i.toNat||!ablB (typK0 x kind) (skO x i.toNat)))=(offsB x m||unabB x (typK0 x kind) m):=by
   unfold offsB unabB
   rw [Bool.eq_iff_iff]
   simp only [List.any_eq_true,Bool.or_eq_true,decide_eq_true_eq]
   constructor
   ·rintro ⟨i,hi,h|h|h⟩
    ·obtain ⟨k,rfl,hk,_⟩:=QsI.1 hi; omega
    ·exact .inl ⟨i,hi,h⟩
    ·exact .inr ⟨i,hi,h⟩
   ·rintro (⟨i,hi,h⟩|⟨i,hi,h⟩)
    ·exact ⟨i,hi,.inr (.inl h)⟩
    ·exact ⟨i,hi,.inr (.inr h)⟩
  rw [hany]
  by_cases ho:(offsB x m||unabB x (typK0 x kind) m)=true
  ·rw [if_pos ho,QqF]
   rw [Bool.or_eq_true] at ho
   rcases ho with ho|ho <;> simp [ho]
  ·rw [if_neg ho,Qht]
   simp only [Bool.or_eq_true,not_or,Bool.not_eq_true] at ho
   rw [ho.1,ho.2,Bool.not_false,Bool.true_and,Bool.and_true]
   rw [Qee (QlT (B:=fun s=>QbO x (m:Int) s) (l:=x.apart) (by omega) (fun p=>inS m p.x0&&inS m p.x1) (y:=(.inr false:Unit⊕Bool)) (N:=.inl ()) (fun i a h=>by
    show QbO x (m:Int) i=_
    unfold QbO
    rw [Qd8 h,Qmx hm63,Qam,Qmx hm63,Qam,incL h (by omega)]
    cases inS m a.x0 <;> cases inS m a.x1 <;> rfl) (by
    show QbO x (m:Int) x.apart.length=_
    unfold QbO
    rw [QcL]))]
   unfold Qvf
   by_cases h1:(x.apart.any fun p=>inS m p.x0&&inS m p.x1)=true
   ·rw [if_pos h1,h1]; rfl
   have h1':(x.apart.any fun p=>inS m p.x0&&inS m p.x1)=false:=by simpa using h1
   rw [if_neg h1,Qht,h1',Qee (QlT (B:=fun s=>Qbr x (m:Int) s) (l:=x.before) (by omega) (fun p=>inS m p.x1&&!inS m p.x0) (y:=(.inr false:Unit⊕Bool)) (N:=.inl ()) (fun i a h=>by
    show Qbr x (m:Int) i=_
    unfold Qbr
    rw [Qd8 h,Qmx hm63,Qam,Qmx hm63,Qam,incL h (by omega)]
    cases inS m a.x1 <;> cases inS m a.x0 <;> rfl) (by
    show Qbr x (m:Int) x.before.length=_
    unfold Qbr
    rw [QcL]))]
   cases (x.before.any fun p=>inS m p.x1&&!inS m p.x0) <;> rfl
 ·rw [decide_eq_false (by omega),Bool.false_and]
  have hany:(memS m 63).any (fun i=>decide (x.orders.length≤i)||(offN x i.toNat||!ablB (typK0 x kind) (skO x i.toNat)))=true:=by
   obtain ⟨i,hi,hb⟩:=Nat.exists_ge_and_testBit_of_ge_two_pow (Nat.le_of_not_lt hm)
   have hi63:i<63:=Nat.lt_of_not_le fun h=>by rw [tb63 hm63 h] at hb; cases hb
   rw [List.any_eq_true]
   exact ⟨(i:Int),QsI.2 ⟨i,rfl,hi63,hb⟩,by rw [decide_eq_true (by omega)]; rfl⟩
  rw [if_pos hany]; rfl
theorem Qx1 {a i:Nat} (h:a.testBit i=false):a+2 ^ i=a ||| 2 ^ i:=by
 apply Nat.eq_of_testBit_eq
 intro j
 rw [Qx0 h,Nat.testBit_or,Nat.testBit_two_pow]
theorem Qvb {d:Nat} {N:Nat}:∀ n,n≤N→sumF (fun i:Int=>loadO x i.toNat d) (memS (openS x m N) n)=sumF (stO x d) (memS m n)
 | 0,_=>rfl
 | n+1,hn=>by
  have ih:=Qvb (d:=d) (N:=N) n (by omega)
  have e1:memS (openS x m N) (n+1)=memS (openS x m N) n++(if (openS x m N).testBit n=true then [(n:Int)] else []):=rfl
  have e2:memS m (n+1)=memS m n++(if m.testBit n=true then [(n:Int)] else []):=rfl
  rw [e1,e2,QqO,QqO,ih,QrC,decide_eq_true (show n<N by omega),Bool.true_and]
  congr 1
  cases hb:m.testBit n with
  | false=>rfl
  | true =>
   rw [Bool.true_and,if_pos rfl,QqP]
   unfold stO
   rw [Int.toNat_natCast]
   cases hp:pk0 x n with
   | true=>rw [if_pos rfl,if_pos rfl,QqP,Int.toNat_natCast]
   | false=>rfl
theorem Qt7 (hx:Qcy x) (hm:m<2 ^ x.orders.length) {T:Qah} :
  loopF (fun s:Int×Int×Int=>Qbk x kind T (memS m x.orders.length) s.1 s.2.1 s.2.2) (T.open_,0,0)=some (T.open_,((openS x m x.orders.length:Nat):Int)):=by
 have h10:=hx.orders
 have hlen:=QkZ (m:=m) x.orders.length
 have:=Qgh (memS m x.orders.length).length (fun k=>(T.open_,((opL x ((memS m x.orders.length).take k):Nat):Int),(k:Int))) (B:=fun s:Int×Int×Int=>Qbk x kind T (memS m x.orders.length) s.1 s.2.1 s.2.2) (e:=(T.open_,((openS x m x.orders.length:Nat):Int))) (by omega) (fun k hk=>by
  have e:(memS m x.orders.length)[k]?=some (memS m x.orders.length)[k]:=List.getElem?_eq_getElem hk
  generalize (memS m x.orders.length)[k]=i at e
  obtain ⟨j,rfl,j1,j2,j3,j4⟩:=Qsb e
  obtain ⟨o,o1,o2,o3,o4,o5⟩:=QpO hx j1
  have hlt:=Qqv (x:=x) (m:=m) j
  have h2:2 ^ j≤2 ^ 9:=Nat.pow_le_pow_right (by omega) (by omega)
  show Qbk x kind T (memS m x.orders.length) T.open_ ((opL x ((memS m x.orders.length).take k):Nat):Int) (k:Int)=some (Sum.inl (T.open_,((opL x ((memS m x.orders.length).take (k+1)):Nat):Int),((k+1:Nat):Int)))
  unfold Qbk
  rw [Qd8 e,QaG o1,Qam,Qw3 (by omega),Qam,incL e (by omega),take_one e,QrB,Int.toNat_natCast,j3,Qqu,o5]
  have hbit:(openS x m j).testBit j=false:=by rw [QrC]; simp
  cases hp:ltI o.pick.place 0 with
  | true =>
   rw [Qb4,if_pos (by simpa using hp),addI (by omega) (by omega),← Qx1 hbit]
   simp
  | false =>
   rw [QbP,if_neg (by simpa using hp)]
   simp) (by
  show Qbk x kind T (memS m x.orders.length) T.open_ ((opL x ((memS m x.orders.length).take (memS m x.orders.length).length):Nat):Int) ((memS m x.orders.length).length:Int)=_
  unfold Qbk
  rw [QcL,List.take_length,Qqu])
 rw [show ((0:Int))=((opL x ((memS m x.orders.length).take 0):Nat):Int) from rfl]
 exact this
theorem QvX (hx:Qcy x) {n:Nat} (hn:n<2 ^ x.orders.length):QeX x.orders (n:Int) (Qcr x.types:Int)=some (vecN (Qcr x.types) (fun d=>sumF (fun i:Int=>loadO x i.toNat d) (memS n x.orders.length)),0):=by
 have h10:=hx.orders
 have hD:=Qpv hx
 have hp:2 ^ x.orders.length≤2 ^ 10:=Nat.pow_le_pow_right (by omega) h10
 have hlen:=QkZ (m:=n) x.orders.length
 unfold QeX QaT
 rw [Qa2 (by simp),Qam,Qcq (by simp; omega),Qoe (by omega),Qam,Qnp hn (by omega)]
 have hloop:loopF (fun s:List (List Int)×Int=>Qbs x.orders (Qcr x.types:Int) (memS n x.orders.length) s.1 s.2) ([],0)=some (.inl ((memS n x.orders.length).map fun i:Int=>vecN (Qcr x.types) (loadO x i.toNat))):=by
  have:=Qgh (memS n x.orders.length).length (fun k=>(((memS n x.orders.length).take k).map fun i:Int=>vecN (Qcr x.types) (loadO x i.toNat),(k:Int))) (B:=fun s:List (List Int)×Int=>Qbs x.orders (Qcr x.types:Int) (memS n x.orders.length) s.1 s.2) (e:=(Sum.inl ((memS n x.orders.length).map fun i:Int=>vecN (Qcr x.types) (loadO x i.toNat)):List (List Int)⊕(List Int×Int))) (by omega) (fun k hk=>by
   have e:(memS n x.orders.length)[k]?=some (memS n x.orders.length)[k]:=List.getElem?_eq_getElem hk
   generalize (memS n x.orders.length)[k]=i at e
   obtain ⟨j,rfl,j1,j2,j3,j4⟩:=Qsb e
   obtain ⟨o,o1,o2,o3,o4,o5⟩:=QpO hx j1
   show Qbs x.orders (Qcr x.types:Int) (memS n x.orders.length) (((memS n x.orders.length).take k).map fun i:Int=>vecN (Qcr x.types) (loadO x i.toNat)) (k:Int)=some (Sum.inl (((memS n x.orders.length).take (k+1)).map fun i:Int=>vecN (Qcr x.types) (loadO x i.toNat),((k+1:Nat):Int)))
   unfold Qbs
   rw [Qd8 e,Qa2 (by simp [lenI]; omega),QaG o1,Qam,Qjq (by unfold okN; simp [List.length_take]; omega),incL e (by omega),take_one e,List.map_append,o3]
   simp) (by
   show Qbs x.orders (Qcr x.types:Int) (memS n x.orders.length) (((memS n x.orders.length).take (memS n x.orders.length).length).map fun i:Int=>vecN (Qcr x.types) (loadO x i.toNat)) ((memS n x.orders.length).length:Int)=_
   unfold Qbs
   rw [QcL,List.take_length])
  exact this
 rw [Qee hloop,Qht,QxO hD.2 (by simp; omega) (fun a ha=>by
  obtain ⟨i,_,rfl⟩:=List.mem_map.1 ha; exact Qb6) (fun a ha d=>by
  obtain ⟨i,_,rfl⟩:=List.mem_map.1 ha
  rw [List.getD_eq_getElem?_getD]
  rcases Nat.lt_or_ge d (Qcr x.types) with h|h
  ·rw [Qe3 h]; exact QsG hx _ _
  ·rw [List.getElem?_eq_none (by rw [Qb6]; omega)]; simp),Qam]
 congr 2
 refine Qfw fun d hd=>?_
 unfold sumF
 rw [List.map_map]
 congr 1
 refine List.map_congr_left fun i _=>?_
 show (vecN (Qcr x.types) (loadO x i.toNat)).getD d 0=_
 rw [List.getD_eq_getElem?_getD,Qe3 hd]; rfl
theorem Qwx (hx:Qcy x) {s:Int} (hs:isI64 s):Qft x kind s=some ((Qsr x kind s.toNat).map qL):=by
 have h10:=hx.orders
 have hp:2 ^ x.orders.length≤2 ^ 10:=Nat.pow_le_pow_right (by omega) h10
 have hD:=Qpv hx
 unfold Qft Qsr
 rw [QyM hx hs,Qam]
 cases hmay:mayB x kind s.toNat with
 | false=>rfl
 | true =>
  rw [Qb4,if_pos rfl]
  unfold mayB at hmay
  rw [Bool.and_eq_true,decide_eq_true_eq] at hmay
  obtain ⟨⟨h0,h1,h2,hm⟩,-⟩:=hmay
  obtain ⟨m,rfl⟩:∃ m:Nat,s=m:=⟨s.toNat,by omega⟩
  rw [Int.toNat_natCast] at h2 hm ⊢
  obtain ⟨t1,t2⟩:=QqU h0 h1
  have hT:=Qs1 hx h0 h1
  have ho:=hT.opn
  have hc:=hT.close
  have hr:=hT.rest
  rw [t1,Qam,Qoe (by omega),Qam,Qnp hm (by omega),Qee (Qt7 hx hm)]
  have hcap:lenI (typK0 x kind).cap=((Qcr x.types:Nat):Int):=by unfold lenI; rw [hT.cap]
  have hL:vecN (Qcr x.types) (fun d=>sumF (fun i:Int=>loadO x i.toNat d) (memS (openS x m x.orders.length) x.orders.length))=(baseL x kind m).load:=Qfw fun d _=>Qvb _ (Nat.le_refl _)
  have hlen:(baseL x kind m).load.length=(typK0 x kind).cap.length:=by rw [← hL,Qb6,hT.cap]
  simp only
  rw [hcap,QvX hx (Qqv _),Qam,Qa2 (by simp),hL]
  show bnd (Qdh (baseL x kind m).load (typK0 x kind).cap) _=_
  rw [(Qrc hlen (by rw [← hL,Qb6]; omega)).2,Qam]
  cases overB (typK0 x kind).cap (baseL x kind m).load with
  | true=>rfl
  | false =>
   rw [Bool.not_false,Qb4,if_neg (by decide)]
   unfold Qcu
   rw [t1,Qam,Qam]
   unfold withL restL qL baseL
   simp only [List.map_cons,List.map_nil]
   rw [addI (by omega) (by omega)]
end
end Go.Proofs.YtfjiafgldchinaaGreatDoor
namespace Go.Proofs.YtfjiafgldchinaaGreatDoor
set_option linter.unusedSimpArgs false
set_option linter.unusedVariables false
set_option linter.unusedSectionVars false
structure LbI (x:Qac) (l:Qad):Prop where
 ty:0≤l.type_∧l.type_<x.types.length
 vis:l.visits.length≤100
 time:(typK0 x l.type_).open_≤l.time∧l.time≤12288
 driven:0≤l.driven∧l.driven≤4096
 miles:0≤l.miles∧l.miles≤10000*l.visits.length
 load:∃ f:Nat→Int,l.load=vecN (Qcr x.types) f∧∀ d,-(10000+1000*(l.visits.length:Int))≤f d∧f d≤10000+1000*(l.visits.length:Int)
 done:∃ n:Nat,l.done=n∧n<1024
 open_:∃ n:Nat,l.open_=n∧n<1024
def hereL (l:Qad):Nat:=l.done.toNat ||| l.open_.toNat
def confB (l:Qad) (v:Qab) (p:Qar):Bool:=(eqI p.x0 v.order&&inS (hereL l) p.x1)||(eqI p.x1 v.order&&inS (hereL l) p.x0)
def lateL (l:Qad) (v:Qab) (p:Qar):Bool:=eqI p.x1 v.order&&!(inS l.done.toNat p.x0&&!inS l.open_.toNat p.x0)
noncomputable def fitB (x:Qac) (l:Qad) (v:Qab):Bool :=
 !offN x v.order.toNat&&(ablB (typK0 x l.type_) (skO x v.order.toNat)&&((if v.drop=true then inS l.open_.toNat v.order else !inS l.done.toNat v.order)&&(!x.apart.any (confB l v)&&(inS l.done.toNat v.order||!x.before.any (lateL l v)))))
def arvL (x:Qac) (l:Qad) (place:Int):Int×Int×Int:=goN x.net (typK0 x l.type_).profile l.place place l.time
def slowL (x:Qac) (l:Qad) (st:Qap):Bool:=neI (arvL x l st.place).2.2 0||gtI (l.driven+(arvL x l st.place).1-l.time) (typK0 x l.type_).drive||gtI (arvL x l st.place).1 st.close
def loadL (x:Qac) (l:Qad) (v:Qab):List Int:=vecN (Qcr x.types) fun d=>if v.drop=true then l.load.getD d 0-loadO x v.order.toNat d else l.load.getD d 0+loadO x v.order.toNat d
def dropP (x:Qac) (i:Nat):Bool:=match x.orders[i]? with
 | some o=>geI o.drop.place 0
 | none=>false
def openL (x:Qac) (l:Qad) (v:Qab):Nat :=
 if v.drop=true then l.open_.toNat ^^^ 2 ^ v.order.toNat else if dropP x v.order.toNat=true then l.open_.toNat ||| 2 ^ v.order.toNat else l.open_.toNat
def nextL (x:Qac) (l:Qad) (v:Qab) (st:Qap):Qad :=
 Qad.mk l.type_ (l.visits++[v]) st.place (max (arvL x l st.place).1 st.open_+st.service) (l.driven+(arvL x l st.place).1-l.time) (l.miles+(arvL x l st.place).2.1) (loadL x l v) ((l.done.toNat ||| 2 ^ v.order.toNat:Nat):Int) ((openL x l v:Nat):Int)
noncomputable def extL (x:Qac) (l:Qad) (v:Qab):List Qad:=match stopV x v with
 | none=>[]
 | some st=>if fitB x l v=true then (if slowL x l st=true then [] else if overB (typK0 x l.type_).cap (loadL x l v)=true then [] else withL (typK0 x l.type_) (nextL x l v st)) else []
section
variable {x : Qac} {l : Qad} {v : Qab} {st : Qap} {m : Nat}
theorem Qq4 (hx:Qcy x) (h:LbI x l):getI x.types l.type_=some (typK0 x l.type_)∧TypOK x.net.places.length (Qcr x.types) (typK0 x l.type_):=⟨(QqU h.ty.1 h.ty.2).1,Qs1 hx h.ty.1 h.ty.2⟩
theorem LbI.t0 (hx:Qcy x) (h:LbI x l):0≤l.time∧l.time≤12288:=by
 have h1:=(Qq4 hx h).2.opn
 have h2:=h.time
 omega
theorem QyB {a i:Nat} (h:a.testBit i=true):(a ^^^ 2 ^ i)+2 ^ i=a:=by
 have h0:(a ^^^ 2 ^ i).testBit i=false:=by rw [Nat.testBit_xor,h,Nat.testBit_two_pow_self]; rfl
 rw [Qx1 h0]
 apply Nat.eq_of_testBit_eq
 intro j
 rw [Nat.testBit_or,Nat.testBit_xor,Nat.testBit_two_pow]
 by_cases hj:i=j
 ·subst hj; simp [h]
 ·simp [hj]
theorem Quj {a i:Nat} (ha:a<1024) (hi:i≤62) (h:a.testBit i=true):QnK .i64 (a:Int) ((2 ^ i:Nat):Int)=((a ^^^ 2 ^ i:Nat):Int):=by
 show IntKind.i64.wrap (((BitVec.ofInt 64 (a:Int) &&& ~~~BitVec.ofInt 64 ((2 ^ i:Nat):Int)).toNat:Nat):Int)=_
 rw [BitVec.ofInt_natCast,BitVec.ofInt_natCast]
 have hle:(BitVec.ofNat 64 a &&& ~~~BitVec.ofNat 64 (2 ^ i)).toNat<9223372036854775808:=by
  rw [BitVec.toNat_and,BitVec.toNat_ofNat,Nat.mod_eq_of_lt (by omega)]
  exact Nat.lt_of_le_of_lt Nat.and_le_left (by omega)
 rw [wrapN hle]
 congr 1
 apply Nat.eq_of_testBit_eq
 intro j
 rw [BitVec.testBit_toNat,BitVec.getLsbD_and,BitVec.getLsbD_not,BitVec.getLsbD_ofNat,BitVec.getLsbD_ofNat,Nat.testBit_xor,Nat.testBit_two_pow]
 rcases Nat.lt_or_ge j 64 with hj|hj
 ·by_cases hij:i=j
  ·subst hij; simp [hj,h]
  ·simp [hj,hij]
 ·have h1:a.testBit j=false:=Nat.testBit_lt_two_pow (Nat.lt_of_lt_of_le (show a<2 ^ 10 by omega) (Nat.pow_le_pow_right (by omega) (by omega)))
  have:i≠j:=by omega
  simp [h1,this]
theorem QyW {a i:Nat} (ha:a<1024) (hi:i<10):a ^^^ 2 ^ i<1024:=Nat.xor_lt_two_pow (n:=10) ha (Nat.pow_lt_pow_right (by omega) hi)
theorem or_lt {a i:Nat} (ha:a<1024) (hi:i<10):a ||| 2 ^ i<1024:=Nat.or_lt_two_pow (n:=10) ha (Nat.pow_lt_pow_right (by omega) hi)
theorem Qsi {v:Qab} {st:Qap} (hx:Qcy x) (h:stopV x v=some st):Qdk x.orders v=some (st,0):=by
 have hlen:=hx.orders
 unfold stopV at h
 split at h
 ·cases h
 ·rename_i o ho
  split at ho
  ·rename_i h0
   have hlt:=(List.getElem?_eq_some_iff.1 ho).1
   unfold Qdk
   have hs:subK .i64 (lenI x.orders) 1=(x.orders.length:Int)-1:=by unfold lenI; exact subI (by omega) (by omega)
   rw [hs]
   apply post.eq
   refine Qo5 ?_
   rw [Qcq (by rw [decide_eq_true_iff]; omega),Qqd h0 (by omega),Qam]
   have e:x.orders[v.order.toNat]'(by omega)=o:=by rw [List.getElem?_eq_getElem hlt] at ho; exact Option.some.inj ho
   rw [e]
   unfold Qdt
   split at h
   ·rename_i h1
    cases h
    cases hd:v.drop with
    | true=>rw [Qb4,atS_t hd] at *; rw [Qa2 (by simpa using h1)]; exact QaA.2 rfl
    | false=>rw [QbP,atS_f hd] at *; rw [Qa2 (by simpa using h1)]; exact QaA.2 rfl
   ·cases h
  ·cases ho
theorem Qvs (hx:Qcy x) (h:stopV x v=none):∃ e,Qdk x.orders v=some (Qap.mk 0 0 0 0,e)∧neI e 0=true:=by
 have hlen:=hx.orders
 unfold Qdk QaT
 have hs:subK .i64 (lenI x.orders) 1=(x.orders.length:Int)-1:=by unfold lenI; exact subI (by omega) (by omega)
 rw [hs,Qam]
 by_cases hin:0≤v.order∧v.order<x.orders.length
 ·rw [Qcq (by rw [Bool.and_eq_true,geI_t,leI_t]; omega),Qqd hin.1 hin.2,Qam]
  unfold stopV at h
  rw [if_pos hin.1,List.getElem?_eq_getElem (by omega)] at h
  generalize x.orders[v.order.toNat]'(by omega)=o at h ⊢
  simp only at h
  unfold Qdt
  split at h
  ·cases h
  ·rename_i hp
   cases hd:v.drop with
   | true=>rw [atS_t hd] at hp; rw [Qb4,Qcq (by simp; omega)]; exact ⟨19,rfl,rfl⟩
   | false=>rw [atS_f hd] at hp; rw [QbP,Qcq (by simp; omega)]; exact ⟨19,rfl,rfl⟩
 ·rw [Qa2 (by rw [Bool.and_eq_false_iff,geI_f,leI_f]; omega)]
  exact ⟨2,rfl,rfl⟩
theorem QrQ (h:stopV x v=some st):0≤v.order∧v.order<x.orders.length:=by
 unfold stopV at h
 split at h
 ·cases h
 ·rename_i o ho
  split at ho
  ·rename_i h0
   have:=(List.getElem?_eq_some_iff.1 ho).1
   omega
  ·cases ho
theorem Qp7 {α:Type} (hx:Qcy x) {B:Int→Option (Int⊕(Unit⊕Bool))} (hB:∀ (i:Nat) (a:Qar),x.apart[i]?=some a→B (i:Int)=br (eqI a.x0 v.order) (br (inS (hereL l) a.x1) (some (.inr (.inr false))) (br (eqI a.x1 v.order) (br (inS (hereL l) a.x0) (some (.inr (.inr false))) (some (.inl ((i:Int)+1)))) (some (.inl ((i:Int)+1))))) (br (eqI a.x1 v.order) (br (inS (hereL l) a.x0) (some (.inr (.inr false))) (some (.inl ((i:Int)+1)))) (some (.inl ((i:Int)+1)))))
  (hend:B (x.apart.length:Int)=some (.inr (.inl ()))):loopF B 0=some (if x.apart.any (confB l v)=true then .inr false else .inl ()):=by
 have ha:=hx.apart
 refine QlT (by omega) (confB l v) (fun i a h=>?_) hend
 rw [hB i a h]
 unfold confB
 cases eqI a.x0 v.order <;> cases eqI a.x1 v.order <;> cases inS (hereL l) a.x1 <;> cases inS (hereL l) a.x0 <;> rfl
theorem Qo4 {α:Type} (hx:Qcy x) {B:Int→Option (Int⊕(Unit⊕Bool))} (hB:∀ (i:Nat) (a:Qar),x.before[i]?=some a→B (i:Int)=br (eqI a.x1 v.order) (br (inS l.done.toNat a.x0) (br (inS l.open_.toNat a.x0) (some (.inr (.inr false))) (some (.inl ((i:Int)+1)))) (some (.inr (.inr false)))) (some (.inl ((i:Int)+1))))
  (hend:B (x.before.length:Int)=some (.inr (.inl ()))):loopF B 0=some (if x.before.any (lateL l v)=true then .inr false else .inl ()):=by
 have ha:=hx.before
 refine QlT (by omega) (lateL l v) (fun i a h=>?_) hend
 rw [hB i a h]
 unfold lateL
 cases eqI a.x1 v.order <;> cases inS l.done.toNat a.x0 <;> cases inS l.open_.toNat a.x0 <;> rfl
theorem Qwy (hx:Qcy x) (h:LbI x l) (hv:0≤v.order∧v.order<x.orders.length):Qk7 x l v=some (fitB x l v):=by
 have ha:=hx.apart
 have hb:=hx.before
 obtain ⟨t1,hT⟩:=Qq4 hx h
 obtain ⟨dn,hdn,hdn2⟩:=h.done
 obtain ⟨op,hop,hop2⟩:=h.open_
 obtain ⟨j,hj⟩:∃ j:Nat,v.order=j:=⟨v.order.toNat,by omega⟩
 obtain ⟨o,o1,o2,o3,o4,o5⟩:=QpO hx (i:=j) (by omega)
 have hsk:skO x j=o.skills:=by unfold skO; rw [o1]
 have hoff:offN x j=o.off:=by unfold offN; rw [o1]
 have hor:orK .i64 l.done l.open_=((hereL l:Nat):Int):=by
  unfold hereL; rw [hdn,hop,orN (by omega) (by omega)]; simp
 have hhere:hereL l<9223372036854775808:=by
  have:=Nat.or_lt_two_pow (n:=10) hdn2 hop2
  unfold hereL; rw [hdn,hop]; simp only [Int.toNat_natCast]; omega
 have eD:∀ i,QbZ l.done i=some (inS l.done.toNat i):=fun i=>by rw [hdn]; exact QrU (by omega) i
 have eO:∀ i,QbZ l.open_ i=some (inS l.open_.toNat i):=fun i=>by rw [hop]; exact QrU (by omega) i
 have eH:∀ i,QbZ (orK .i64 l.done l.open_) i=some (inS (hereL l) i):=fun i=>by rw [hor]; exact QrU hhere i
 unfold Qk7 fitB
 rw [show v.order.toNat=j by omega,hj,QaG o1,Qam,hoff]
 cases o.off with
 | true=>rfl
 | false =>
  rw [QbP,t1,Qam,← hsk,(Qs6 hT.skills (sk_ok hx (by omega))).1,Qam,Bool.not_false,Bool.true_and]
  cases ablB (typK0 x l.type_) (skO x j) with
  | false=>rfl
  | true =>
   rw [Qb4,Bool.true_and]
   have L1:loopF (fun s=>QcG x l v o s) 0=some (if x.apart.any (confB l v)=true then .inr false else .inl ()):=Qp7 (α:=Unit) (B:=fun s=>QcG x l v o s) hx (fun i a e=>by
    show QcG x l v o i=_
    unfold QcG
    rw [Qd8 e,eH,eH,Qam,Qam,incL e (by omega)]) (by
    show QcG x l v o x.apart.length=_
    unfold QcG
    rw [QcL])
   have L2:loopF (fun s=>Qcj x l v o s) 0=some (if x.before.any (lateL l v)=true then .inr false else .inl ()):=Qo4 (α:=Unit) (B:=fun s=>Qcj x l v o s) hx (fun i a e=>by
    show Qcj x l v o i=_
    unfold Qcj
    rw [Qd8 e,eD,eO,Qam,Qam,incL e (by omega)]) (by
    show Qcj x l v o x.before.length=_
    unfold Qcj
    rw [QcL])
   have L3:loopF (fun s=>QcH x l v o s) 0=some (if x.apart.any (confB l v)=true then .inr false else .inl ()):=Qp7 (α:=Unit) (B:=fun s=>QcH x l v o s) hx (fun i a e=>by
    show QcH x l v o i=_
    unfold QcH
    rw [Qd8 e,eH,eH,Qam,Qam,incL e (by omega)]) (by
    show QcH x l v o x.apart.length=_
    unfold QcH
    rw [QcL])
   have L4:loopF (fun s=>Qck x l v o s) 0=some (if x.before.any (lateL l v)=true then .inr false else .inl ()):=Qo4 (α:=Unit) (B:=fun s=>Qck x l v o s) hx (fun i a e=>by
    show Qck x l v o i=_
    unfold Qck
    rw [Qd8 e,eD,eO,Qam,Qam,incL e (by omega)]) (by
    show Qck x l v o x.before.length=_
    unfold Qck
    rw [QcL])
   rw [← hj] at *
   cases hd:v.drop with
   | true =>
    rw [Qb4,eO,Qam,if_pos rfl]
    cases inS l.open_.toNat v.order with
    | false=>rfl
    | true =>
     rw [Qb4,Qee L1,Bool.true_and]
     cases x.apart.any (confB l v) with
     | true=>rfl
     | false =>
      rw [if_neg (by decide),Qht,eD,Qam,Bool.not_false,Bool.true_and]
      cases inS l.done.toNat v.order with
      | true=>rfl
      | false =>
       rw [QbP,Qee L2]
       cases x.before.any (lateL l v) <;> rfl
   | false =>
    rw [QbP,eD,Qam,if_neg (by decide)]
    cases hdd:inS l.done.toNat v.order with
    | true=>rfl
    | false =>
     rw [QbP,Qee L3,Bool.not_false,Bool.true_and]
     cases x.apart.any (confB l v) with
     | true=>rfl
     | false =>
      rw [if_neg (by decide),Qht,Qam,QbP,Qee L4]
      cases x.before.any (lateL l v) <;> rfl
theorem Qxf (hx:Qcy x) (h:LbI x l) (hs:stopV x v=some st):Qd6 x (qL l) v=some (fitB x l v):=by
 have ha:=hx.apart
 have hb:=hx.before
 have hv:=QrQ hs
 obtain ⟨t1,hT⟩:=Qq4 hx h
 obtain ⟨dn,hdn,hdn2⟩:=h.done
 obtain ⟨op,hop,hop2⟩:=h.open_
 obtain ⟨j,hj⟩:∃ j:Nat,v.order=j:=⟨v.order.toNat,by omega⟩
 obtain ⟨o,o1,o2,o3,o4,o5⟩:=QpO hx (i:=j) (by omega)
 have hsk:skO x j=o.skills:=by unfold skO; rw [o1]
 have hoff:offN x j=o.off:=by unfold offN; rw [o1]
 have hor:orK .i64 (qL l).done (qL l).open_=((hereL l:Nat):Int):=by
  show orK .i64 l.done l.open_=_
  unfold hereL; rw [hdn,hop,orN (by omega) (by omega)]; simp
 have hhere:hereL l<9223372036854775808:=by
  have:=Nat.or_lt_two_pow (n:=10) hdn2 hop2
  unfold hereL; rw [hdn,hop]; simp only [Int.toNat_natCast]; omega
 have eD:∀ i,QaL (qL l).done i=some (inS l.done.toNat i):=fun i=>by show QaL l.done i=_; rw [hdn]; exact Qmx (by omega) i
 have eO:∀ i,QaL (qL l).open_ i=some (inS l.open_.toNat i):=fun i=>by show QaL l.open_ i=_; rw [hop]; exact Qmx (by omega) i
 have eH:∀ i,QaL (orK .i64 (qL l).done (qL l).open_) i=some (inS (hereL l) i):=fun i=>by rw [hor]; exact Qmx hhere i
 unfold Qd6 fitB
 rw [Qsi hx hs,Qam,Qa2 (by simp),show v.order.toNat=j by omega,hj,QaG o1,Qam,hoff]
 cases o.off with
 | true=>rfl
 | false =>
  have hab:=(Qs6 hT.skills (sk_ok hx (show j<x.orders.length by omega))).2
  rw [QbP,eD,Qam,Bool.not_false,Bool.true_and]
  have scan1:∀ (B:Int→Option (Int⊕(Unit⊕Bool))),(∀ (i:Nat) (a:Qar),x.apart[i]?=some a→B (i:Int)=br (eqI a.x0 v.order) (br (inS (hereL l) a.x1) (some (.inr (.inr false))) (br (eqI a.x1 v.order) (br (inS (hereL l) a.x0) (some (.inr (.inr false))) (some (.inl ((i:Int)+1)))) (some (.inl ((i:Int)+1))))) (br (eqI a.x1 v.order) (br (inS (hereL l) a.x0) (some (.inr (.inr false))) (some (.inl ((i:Int)+1)))) (some (.inl ((i:Int)+1)))))→B (x.apart.length:Int)=some (.inr (.inl ()))→loopF B 0=some (if x.apart.any (confB l v)=true then .inr false else .inl ()):=fun B h1 h2=>Qp7 (α:=Unit) hx h1 h2
  have bloop:∀ (B:Int→Option (Int⊕(Unit⊕Bool))),(∀ (i:Nat) (a:Qar),x.before[i]?=some a→B (i:Int)=br (!inS l.done.toNat v.order) (br (eqI a.x1 v.order) (br (inS l.done.toNat a.x0) (br (inS l.open_.toNat a.x0) (some (.inr (.inr false))) (some (.inl ((i:Int)+1)))) (some (.inr (.inr false)))) (some (.inl ((i:Int)+1)))) (some (.inr (.inl ()))))→B (x.before.length:Int)=some (.inr (.inl ())) →
    loopF B 0=some (if (inS l.done.toNat v.order||!x.before.any (lateL l v))=true then .inl () else .inr false):=fun B h1 h2=>by
   cases hdd:inS l.done.toNat v.order with
   | false =>
    rw [Qo4 (l:=l) (v:=v) (α:=Unit) hx (fun i a e=>by rw [h1 i a e,hdd]; rfl) h2]
    cases x.before.any (lateL l v) <;> rfl
   | true =>
    have:B 0=some (.inr (.inl ())):=by
     cases hbl:x.before with
     | nil=>rw [hbl] at h2; exact h2
     | cons p r =>
      have:=h1 0 p (by rw [hbl]; rfl)
      rw [hdd] at this
      exact this
    rw [Bool.true_or,if_pos rfl]
    exact Qu1 1 (by decide) (by simp only [iterF,this])
  have L1:loopF (fun s=>QbW x (qL l) v o (inS l.done.toNat v.order) s) 0=_:=scan1 _ (fun i a e=>by
   show QbW x (qL l) v o _ i=_
   unfold QbW
   rw [Qd8 e,eH,eH,Qam,Qam,incL e (by omega)]) (by
   show QbW x (qL l) v o _ x.apart.length=_
   unfold QbW
   rw [QcL])
  have L3:loopF (fun s=>QbX x (qL l) v o (inS l.done.toNat v.order) s) 0=_:=scan1 _ (fun i a e=>by
   show QbX x (qL l) v o _ i=_
   unfold QbX
   rw [Qd8 e,eH,eH,Qam,Qam,incL e (by omega)]) (by
   show QbX x (qL l) v o _ x.apart.length=_
   unfold QbX
   rw [QcL])
  have L2:loopF (fun s=>Qbt x (qL l) v o (inS l.done.toNat v.order) s) 0=_:=bloop _ (fun i a e=>by
   have hlt:=(List.getElem?_eq_some_iff.1 e).1
   show Qbt x (qL l) v o _ i=_
   unfold Qbt
   rw [show ltI (i:Int) (lenI x.before)=true by simp [lenI]; omega,Bool.true_and,QaG e,Qam,eD,eO,Qam,Qam,incL e (by omega)]) (by
   show Qbt x (qL l) v o _ x.before.length=_
   unfold Qbt
   rw [show ltI (x.before.length:Int) (lenI x.before)=false by simp [lenI]]; rfl)
  have L4:loopF (fun s=>Qbu x (qL l) v o (inS l.done.toNat v.order) s) 0=_:=bloop _ (fun i a e=>by
   have hlt:=(List.getElem?_eq_some_iff.1 e).1
   show Qbu x (qL l) v o _ i=_
   unfold Qbu
   rw [show ltI (i:Int) (lenI x.before)=true by simp [lenI]; omega,Bool.true_and,QaG e,Qam,eD,eO,Qam,Qam,incL e (by omega)]) (by
   show Qbu x (qL l) v o _ x.before.length=_
   unfold Qbu
   rw [show ltI (x.before.length:Int) (lenI x.before)=false by simp [lenI]]; rfl)
  rw [← hj] at *
  show br (!v.drop&&inS l.done.toNat v.order) _ _=_
  have hTy:getI x.types (qL l).type_=some (typK0 x l.type_):=t1
  rw [hTy]
  simp only [Qam]
  rw [← hsk,hab]
  simp only [Qam]
  generalize hA:ablB (typK0 x l.type_) (skO x j)=A
  cases hd:v.drop with
  | true =>
   rw [Bool.not_true,Bool.false_and,QbP,Qb4,eO,Qam,if_pos rfl]
   cases inS l.open_.toNat v.order with
   | false=>rw [Bool.false_and,Bool.and_false]; rfl
   | true =>
    rw [Qb4,Bool.true_and]
    cases A with
    | false=>rfl
    | true =>
     rw [Qb4,Qee L1,Bool.true_and]
     cases x.apart.any (confB l v) with
     | true=>rfl
     | false =>
      rw [if_neg (by decide),Qht,Qee L2,Bool.not_false,Bool.true_and]
      cases (inS l.done.toNat v.order||!x.before.any (lateL l v)) <;> rfl
  | false =>
   rw [Bool.not_false,Bool.true_and,QbP,if_neg (by decide)]
   cases hdd:inS l.done.toNat v.order with
   | true=>rw [Qb4,Bool.not_true,Bool.false_and,Bool.and_false]
   | false =>
    rw [hdd] at L3 L4
    rw [QbP,Bool.not_false,Bool.true_and]
    cases A with
    | false=>rfl
    | true =>
     rw [Qb4,Qee L3,Bool.true_and]
     cases x.apart.any (confB l v) with
     | true=>rfl
     | false =>
      rw [if_neg (by decide),Qht,Qee L4,Bool.not_false,Bool.true_and]
      cases (false||!x.before.any (lateL l v)) <;> rfl
end
end Go.Proofs.YtfjiafgldchinaaGreatDoor
namespace Go.Proofs.YtfjiafgldchinaaGreatDoor
set_option linter.unusedSimpArgs false
set_option linter.unusedVariables false
set_option linter.unusedSectionVars false
section
variable {x : Qac} {l : Qad} {v : Qab} {st : Qap} {m : Nat}
theorem Qs0 (hx:Qcy x) (h:stopV x v=some st):SOK st:=by
 obtain ⟨h1,h2,h3,h4,h5,h6,h7⟩:=QvJ hx h
 exact ⟨h3,h4,h5,h6,h7⟩
theorem QrT (hs:SOK st) {a:Int} (h0:0≤a) (ha:a≤1048576):QiF st a=some (if st.close<a then (0,14) else (max a st.open_+st.service,0))∧QeR st a=some (if st.close<a then (0,14) else (max a st.open_+st.service,0)):=by
 have h1:=hs.open0; have h2:=hs.open1; have h3:=hs.close; have h4:=hs.serv0; have h5:=hs.serv1
 constructor
 ·unfold QiF QlY
  rw [Qu5,br_if]
  simp only [gtI_t]
  by_cases h:st.close<a
  ·rw [if_pos (by omega),if_pos h,Qam,Qcq (by decide)]
  ·rw [if_neg (by omega),if_neg h,Qam]
   show br (neI 0 0) _ (some (addK .i64 (max a st.open_) st.service,0))=_
   rw [Qa2 (by decide),addI (by omega) (by omega)]
 ·unfold QeR QgQ
  by_cases h:st.close<a
  ·rw [Qcq (by simpa using h),if_pos h,Qam,Qcq (by decide)]
  ·rw [Qa2 (by simpa using h),if_neg h]
   by_cases h6:a<st.open_
   ·rw [Qcq (by simpa using h6),Qam]
    show br (neI 0 0) _ (some (addK .i64 st.open_ st.service,0))=_
    rw [Qa2 (by decide),addI (by omega) (by omega)]
    congr 2; omega
   ·rw [Qa2 (by simpa using h6),Qam]
    show br (neI 0 0) _ (some (addK .i64 a st.service,0))=_
    rw [Qa2 (by decide),addI (by omega) (by omega)]
    congr 2; omega
theorem Qw2 {D:Nat} {f g:Nat→Int} (hD:D≤3) (hf:∀ d,d<D→-4000000000≤f d∧f d≤4000000000) (hg:∀ d,d<D→-4000000000≤g d∧g d≤4000000000):QfB (vecN D f) (vecN D g)=some (vecN D (fun d=>f d+g d),0):=by
 unfold QfB
 rw [Qa2 (by simp [lenI,Qb6])]
 have:=Qgh D (fun k=>(vecN k (fun d=>f d+g d),(k:Int))) (B:=fun q:List Int×Int=>QbJ (vecN D f) (vecN D g) q.1 q.2) (e:=vecN D fun d=>f d+g d) (by omega) (fun k hk=>by
  have h1:=hf k hk
  have h2:=hg k hk
  show QbJ (vecN D f) (vecN D g) (vecN k (fun d=>f d+g d)) (k:Int)=some (Sum.inl (vecN (k+1) (fun d=>f d+g d),((k+1:Nat):Int)))
  have ev:vecN (k+1) (fun d=>f d+g d)=vecN k (fun d=>f d+g d)++[f k+g k]:=by simp [vecN,List.range_succ]
  unfold QbJ
  rw [Qcq (by simp [lenI,Qb6]; omega),QaG (Qe3 hk),QaG (Qe3 hk),Qam,Qam,addI (by omega) (by omega),Qjq (by unfold okN; simp [Qb6]; omega),addI (by omega) (by omega),ev]
  rfl) (by
  show QbJ (vecN D f) (vecN D g) (vecN D (fun d=>f d+g d)) (D:Int)=_
  unfold QbJ
  rw [Qa2 (by simp [lenI,Qb6])])
 rw [Qee (show loopF (fun q:List Int×Int=>QbJ (vecN D f) (vecN D g) q.1 q.2) ([],0)=_ from this)]
theorem Qw6 {D:Nat} {f g:Nat→Int} (hD:D≤3) (hf:∀ d,d<D→-4000000000≤f d∧f d≤4000000000) (hg:∀ d,d<D→-4000000000≤g d∧g d≤4000000000):QeE (vecN D f) (vecN D g)=some (vecN D (fun d=>f d-g d),0):=by
 unfold QeE
 rw [Qa2 (by simp [lenI,Qb6])]
 have:=Qgh D (fun k=>(vecN k (fun d=>f d-g d),(k:Int))) (B:=fun q:List Int×Int=>QbK (vecN D f) (vecN D g) q.1 q.2) (e:=vecN D fun d=>f d-g d) (by omega) (fun k hk=>by
  have h1:=hf k hk
  have h2:=hg k hk
  show QbK (vecN D f) (vecN D g) (vecN k (fun d=>f d-g d)) (k:Int)=some (Sum.inl (vecN (k+1) (fun d=>f d-g d),((k+1:Nat):Int)))
  have ev:vecN (k+1) (fun d=>f d-g d)=vecN k (fun d=>f d-g d)++[f k-g k]:=by simp [vecN,List.range_succ]
  unfold QbK
  rw [Qcq (by simp [lenI,Qb6]; omega),QaG (Qe3 hk),QaG (Qe3 hk),Qam,Qam,subI (by omega) (by omega),Qjq (by unfold okN; simp [Qb6]; omega),addI (by omega) (by omega),ev]
  rfl) (by
  show QbK (vecN D f) (vecN D g) (vecN D (fun d=>f d-g d)) (D:Int)=_
  unfold QbK
  rw [Qa2 (by simp [lenI,Qb6])])
 rw [Qee (show loopF (fun q:List Int×Int=>QbK (vecN D f) (vecN D g) q.1 q.2) ([],0)=_ from this)]
theorem Quv {l:List Qab}:cpyL (List.replicate l.length (Qab.mk 0 false)) l=l:=by simp [cpyL,cpyN]
theorem QuT (hx:Qcy x) (h:LbI x l):l.load=vecN (Qcr x.types) (fun d=>l.load.getD d 0)∧∀ d,-(10000+1000*(l.visits.length:Int))≤l.load.getD d 0∧l.load.getD d 0≤10000+1000*(l.visits.length:Int):=by
 obtain ⟨f,hf,hb⟩:=h.load
 have hg:∀ d,d<Qcr x.types→l.load.getD d 0=f d:=fun d hd=>by rw [hf,List.getD_eq_getElem?_getD,Qe3 hd]; rfl
 refine ⟨?_,fun d=>?_⟩
 ·rw [hf]; exact Qfw fun d hd=>by rw [List.getD_eq_getElem?_getD,Qe3 hd]; rfl
 ·rcases Nat.lt_or_ge d (Qcr x.types) with hd|hd
  ·rw [hg d hd]; exact hb d
  ·rw [hf,List.getD_eq_getElem?_getD,List.getElem?_eq_none (by rw [Qb6]; omega)]
   show -(10000+1000*(l.visits.length:Int))≤0∧(0:Int)≤_
   omega
theorem QuV (hx:Qcy x) (h:LbI x l) (hv:0≤v.order∧v.order<x.orders.length):Qjv x l v=some (loadL x l v):=by
 have hD:=Qpv hx
 have h100:=h.vis
 obtain ⟨j,hj⟩:∃ j:Nat,v.order=j:=⟨v.order.toNat,by omega⟩
 obtain ⟨o,o1,o2,o3,o4,o5⟩:=QpO hx (i:=j) (by omega)
 obtain ⟨l1,l2⟩:=QuT hx h
 have hb:∀ d,d<Qcr x.types→-4000000000≤l.load.getD d 0∧l.load.getD d 0≤4000000000:=fun d _=>by have:=l2 d; omega
 have hb2:∀ d,d<Qcr x.types→-4000000000≤loadO x j d∧loadO x j d≤4000000000:=fun d _=>by have:=o4 d; omega
 unfold Qjv loadL
 rw [show v.order.toNat=j by omega,hj,QaG o1,Qam,Qam,o3]
 cases v.drop with
 | true =>
  rw [Qb4]
  have:=QyF hD.2 hb hb2
  rw [← l1] at this
  rw [this,Qam]
  simp
 | false =>
  rw [QbP]
  have:=QxV hD.2 hb hb2
  rw [← l1] at this
  rw [this,Qam]
  simp
theorem QpY:(loadL x l v).length=Qcr x.types:=Qb6
theorem Qxe (hx:Qcy x) (h:LbI x l) (hs:stopV x v=some st) (hns:slowL x l st=false) :
  (arvL x l st.place).2.2=0∧l.time≤(arvL x l st.place).1∧(arvL x l st.place).1≤st.close∧0≤(arvL x l st.place).2.1∧(arvL x l st.place).2.1≤10000∧l.driven+(arvL x l st.place).1-l.time≤(typK0 x l.type_).drive:=by
 have ht:=h.t0 hx
 unfold slowL at hns
 simp only [Bool.or_eq_false_iff,neI_f,gtI_f] at hns
 have:=Qru hx.net (profile:=(typK0 x l.type_).profile) (a:=l.place) (b:=st.place) (t:=l.time) ⟨ht.1,by omega⟩ hns.1.1
 unfold arvL at *
 omega
theorem Qu8 (hx:Qcy x) (h:LbI x l) (h99:l.visits.length≤99) (hs:stopV x v=some st) (hf:fitB x l v=true) (hns:slowL x l st=false):LbI x (nextL x l v st)∧LbI x (restL (typK0 x l.type_) (nextL x l v st)):=by
 have ht:=h.t0 hx
 obtain ⟨t1,hT⟩:=Qq4 hx h
 have ho:=hT.opn
 have hr:=hT.rest
 have hdr:=hT.drive
 have h10:=hx.orders
 obtain ⟨g1,g2,g3,g4,g5,g6⟩:=Qxe hx h hs hns
 have hS:=Qs0 hx hs
 have s1:=hS.open0; have s2:=hS.open1; have s3:=hS.close; have s4:=hS.serv0; have s5:=hS.serv1
 have hd:=h.driven
 have hm:=h.miles
 have htime:=h.time
 have hv:=QrQ hs
 obtain ⟨j,hj⟩:∃ j:Nat,v.order=j:=⟨v.order.toNat,by omega⟩
 obtain ⟨dn,hdn,hdn2⟩:=h.done
 obtain ⟨op,hop,hop2⟩:=h.open_
 have hj9:v.order.toNat<10:=by omega
 have l2:=(QuT hx h).2
 have hload:∃ f:Nat→Int,loadL x l v=vecN (Qcr x.types) f∧∀ d,-(10000+1000*((l.visits++[v]).length:Int))≤f d∧f d≤10000+1000*((l.visits++[v]).length:Int):=by
  refine ⟨_,rfl,fun d=>?_⟩
  have:=l2 d
  have:=QsG hx v.order.toNat d
  rw [List.length_append,List.length_singleton]
  split <;> omega
 have hdone:∃ n:Nat,((l.done.toNat ||| 2 ^ v.order.toNat:Nat):Int)=n∧n<1024:=⟨_,rfl,or_lt (by rw [hdn,Int.toNat_natCast]; exact hdn2) hj9⟩
 have hopen:∃ n:Nat,((openL x l v:Nat):Int)=n∧n<1024:=⟨_,rfl,by
  have:l.open_.toNat<1024:=by rw [hop,Int.toNat_natCast]; exact hop2
  unfold openL
  split
  ·exact QyW this hj9
  ·split
   ·exact or_lt this hj9
   ·exact this⟩
 have hlen:(l.visits++[v]).length=l.visits.length+1:=by simp
 constructor
 ·exact ⟨h.ty,by show (l.visits++[v]).length≤100; omega,by show _≤max _ _+_∧max _ _+_≤(12288:Int); exact ⟨Int.le_trans htime.1 (by omega),by omega⟩,by show 0≤l.driven+(arvL x l st.place).1-l.time∧l.driven+(arvL x l st.place).1-l.time≤(4096:Int); omega,by show 0≤l.miles+(arvL x l st.place).2.1∧l.miles+(arvL x l st.place).2.1≤10000*((l.visits++[v]).length:Int); omega,hload,hdone,hopen⟩
 ·exact ⟨h.ty,by show (l.visits++[v]).length≤100; omega,by show _≤max _ _+_+(typK0 x l.type_).rest_∧max _ _+_+(typK0 x l.type_).rest_≤(12288:Int); exact ⟨Int.le_trans htime.1 (by omega),by omega⟩,by show (0:Int)≤0∧(0:Int)≤4096; omega,by show 0≤l.miles+(arvL x l st.place).2.1∧l.miles+(arvL x l st.place).2.1≤10000*((l.visits++[v]).length:Int); omega,hload,hdone,hopen⟩
theorem Qs5 (hx:Qcy x) (h:LbI x l) (h99:l.visits.length≤99):Qdw x l v=some (extL x l v):=by
 have ht:=h.t0 hx
 have hd:=h.driven
 have hm:=h.miles
 obtain ⟨t1,hT⟩:=Qq4 hx h
 have hD:=Qpv hx
 have hr:=hT.rest
 unfold Qdw extL
 rw [Qa2 (by rw [Bool.or_eq_false_iff,ltI_f,geI_f,lenI]; have:=h.ty; omega),Qse,Qam]
 cases hs:stopV x v with
 | none =>
  simp only
  rw [Qcq (by split <;> rfl)]
 | some st =>
  have hv:=QrQ hs
  simp only
  rw [Qa2 (by decide),Qwy hx h hv,Qam]
  cases hf:fitB x l v with
  | false=>rfl
  | true =>
   rw [Qb4,if_pos rfl,t1,Qam,go_eq hx.net _ _ _ ⟨ht.1,by omega⟩,Qam]
   have hg:goN x.net (typK0 x l.type_).profile l.place st.place l.time=arvL x l st.place:=rfl
   rw [hg]
   have hsl:((neI (arvL x l st.place).2.2 0||gtI (subK .i64 (addK .i64 l.driven (arvL x l st.place).1) l.time) (typK0 x l.type_).drive)||gtI (arvL x l st.place).1 st.close)=slowL x l st:=by
    unfold slowL
    cases h0:neI (arvL x l st.place).2.2 0 with
    | true=>simp
    | false =>
     rw [neI_f] at h0
     have:=Qru hx.net (profile:=(typK0 x l.type_).profile) (a:=l.place) (b:=st.place) (t:=l.time) ⟨ht.1,by omega⟩ h0
     rw [hg] at this
     rw [addI (by omega) (by omega),subI (by omega) (by omega)]
   rw [hsl]
   cases hns:slowL x l st with
   | true=>rfl
   | false =>
    obtain ⟨g1,g2,g3,g4,g5,g6⟩:=Qxe hx h hs hns
    have hS:=Qs0 hx hs
    have s1:=hS.open0; have s2:=hS.open1; have s3:=hS.close; have s4:=hS.serv0; have s5:=hS.serv1
    obtain ⟨j,hj⟩:∃ j:Nat,v.order=j:=⟨v.order.toNat,by omega⟩
    obtain ⟨o,o1,o2,o3,o4,o5⟩:=QpO hx (i:=j) (by omega)
    obtain ⟨dn,hdn,hdn2⟩:=h.done
    obtain ⟨op,hop,hop2⟩:=h.open_
    have h10:=hx.orders
    have h2j:2 ^ j≤2 ^ 9:=Nat.pow_le_pow_right (by omega) (by omega)
    rw [QbP,if_neg (by decide),(QrT hS (by omega) (by omega)).1,Qam,if_neg (by omega),QuV hx h hv,Qam,Qa2 (show neI (0:Int) 0=false by decide)]
    have hlen:(loadL x l v).length=(typK0 x l.type_).cap.length:=by rw [QpY,hT.cap]
    rw [(Qrc hlen (by rw [QpY]; omega)).1,Qam]
    cases hov:overB (typK0 x l.type_).cap (loadL x l v) with
    | true=>rfl
    | false =>
     rw [Bool.not_false,Qb4,if_neg (by decide)]
     have hmk:mkI (lenI l.visits) (addK .i64 (lenI l.visits) 1) 16 (Qab.mk 0 false)=some (List.replicate l.visits.length (Qab.mk 0 false)):=by
      unfold mkI lenI
      rw [addI (by omega) (by omega),if_pos (by omega)]; rfl
     rw [hmk,Qam,Quv,Qjq (by unfold okN; simp; omega),hj,cvuN (by omega),Qjq (by omega),shlN (by omega)]
     have hfin:∀ q:Nat,openL x l v=q→Qd1 l v (st,0) (typK0 x l.type_) (arvL x l st.place) (max (arvL x l st.place).1 st.open_+st.service,0) (loadL x l v) (List.replicate l.visits.length (Qab.mk 0 false)) (q:Int)=some (withL (typK0 x l.type_) (nextL x l v st)):=fun q hq=>by
      unfold Qd1
      rw [Quv,hj,cvuN (by omega),shlN (by omega)]
      have e1:subK .i64 (addK .i64 l.driven (arvL x l st.place).1) l.time=l.driven+(arvL x l st.place).1-l.time:=by rw [addI (by omega) (by omega),subI (by omega) (by omega)]
      have e2:addK .i64 l.miles (arvL x l st.place).2.1=l.miles+(arvL x l st.place).2.1:=addI (by omega) (by omega)
      have e3:orK .i64 l.done ((2 ^ j:Nat):Int)=((l.done.toNat ||| 2 ^ v.order.toNat:Nat):Int):=by rw [hj,hdn,orN (by omega) (by omega)]; simp
      simp only
      rw [e1,e2,e3,← hq]
      have hn:Qad.mk l.type_ (l.visits++[v]) st.place (max (arvL x l st.place).1 st.open_+st.service) (l.driven+(arvL x l st.place).1-l.time) (l.miles+(arvL x l st.place).2.1) (loadL x l v) ((l.done.toNat ||| 2 ^ v.order.toNat:Nat):Int) ((openL x l v:Nat):Int)=nextL x l v st:=rfl
      rw [hn]
      exact Qee (Qw1 (l:=nextL x l v st) (by show 0≤max (arvL x l st.place).1 st.open_+st.service∧max (arvL x l st.place).1 st.open_+st.service≤1000000; omega) hr)
     cases hdp:v.drop with
     | true =>
      have hb:l.open_.toNat.testBit j=true:=by
       unfold fitB at hf
       simp only [Bool.and_eq_true,hdp,if_pos] at hf
       have:=hf.2.2.1
       rw [hj,Qrd] at this
       exact this
      rw [Qb4]
      rw [hop,Quj hop2 (by omega) (by rw [hop,Int.toNat_natCast] at hb; exact hb)]
      exact hfin _ (by unfold openL; rw [if_pos hdp,hop,hj]; simp)
     | false =>
      rw [QbP,QaG o1,Qam]
      cases hdr:geI o.drop.place 0 with
      | true =>
       rw [Qb4,hop,orN (by omega) (by omega)]
       exact hfin _ (by unfold openL dropP; rw [if_neg (by rw [hdp]; decide),show v.order.toNat=j by omega,o1]; simp only; rw [if_pos hdr,hop]; simp)
      | false =>
       rw [QbP,hop]
       exact hfin _ (by unfold openL dropP; rw [if_neg (by rw [hdp]; decide),show v.order.toNat=j by omega,o1]; simp only; rw [if_neg (by rw [hdr]; decide),hop]; simp)
end
end Go.Proofs.YtfjiafgldchinaaGreatDoor
namespace Go.Proofs.YtfjiafgldchinaaGreatDoor
set_option linter.unusedSimpArgs false
set_option linter.unusedVariables false
set_option linter.unusedSectionVars false
section
variable {x : Qac} {l a b : Qad} {v : Qab} {st : Qap} {m : Nat}
theorem Qvu (hx:Qcy x) (h:LbI x l) (ht:l.time≤12288) {l':Qad} (hty:l'.type_=l.type_) (h1:0≤l'.time∧l'.time≤1000000):Qcu x (qL l')=some ((withL (typK0 x l.type_) l').map qL):=by
 obtain ⟨t1,hT⟩:=Qq4 hx h
 have hr:=hT.rest
 unfold Qcu
 have:getI x.types (qL l').type_=some (typK0 x l.type_):=by show getI x.types l'.type_=_; rw [hty]; exact t1
 rw [this,Qam]
 unfold withL restL qL
 simp only [List.map_cons,List.map_nil]
 rw [addI (by omega) (by omega)]
theorem Qvp (hx:Qcy x) (h:LbI x l) (h99:l.visits.length≤99):Qcs x (qL l) v=some ((extL x l v).map qL):=by
 have ht:=h.t0 hx
 have hd:=h.driven
 have hm:=h.miles
 obtain ⟨t1,hT⟩:=Qq4 hx h
 have hD:=Qpv hx
 have hr:=hT.rest
 unfold Qcs extL
 cases hs:stopV x v with
 | none =>
  obtain ⟨e,e1,e2⟩:=Qvs hx hs
  have:Qd6 x (qL l) v=some false:=by
   unfold Qd6
   rw [e1,Qam,Qcq e2]
  rw [this]; rfl
 | some st =>
  have hv:=QrQ hs
  rw [Qxf hx h hs,Qam]
  simp only
  cases hf:fitB x l v with
  | false=>rfl
  | true =>
   obtain ⟨j,hj⟩:∃ j:Nat,v.order=j:=⟨v.order.toNat,by omega⟩
   obtain ⟨o,o1,o2,o3,o4,o5⟩:=QpO hx (i:=j) (by omega)
   have hTy:getI x.types (qL l).type_=some (typK0 x l.type_):=t1
   rw [Qb4,if_pos rfl,hTy,Qam,hj,QaG o1,Qam,Qsi hx hs,Qam]
   show bnd (Qdi x.net (typK0 x l.type_).profile l.place st.place l.time) _=_
   rw [Qpf hx.net _ _ _ ⟨ht.1,by omega⟩,Qam]
   have hg:goN x.net (typK0 x l.type_).profile l.place st.place l.time=arvL x l st.place:=rfl
   rw [hg]
   show br (neI (arvL x l st.place).2.2 0||gtI (subK .i64 (addK .i64 l.driven (arvL x l st.place).1) l.time) (typK0 x l.type_).drive) _ _=_
   cases h0:neI (arvL x l st.place).2.2 0 with
   | true =>
    rw [Bool.true_or,Qb4,if_pos (by unfold slowL; rw [h0]; rfl)]; rfl
   | false =>
    have hb:=Qru hx.net (profile:=(typK0 x l.type_).profile) (a:=l.place) (b:=st.place) (t:=l.time) ⟨ht.1,by omega⟩ (by rw [hg]; simpa using h0)
    rw [hg] at hb
    rw [Bool.false_or,addI (by omega) (by omega),subI (by omega) (by omega)]
    cases h1:gtI (l.driven+(arvL x l st.place).1-l.time) (typK0 x l.type_).drive with
    | true =>
     rw [Qb4,if_pos (by unfold slowL; rw [h0,h1]; rfl)]; rfl
    | false =>
     have hS:=Qs0 hx hs
     have s1:=hS.open0; have s2:=hS.open1; have s3:=hS.close; have s4:=hS.serv0; have s5:=hS.serv1
     rw [QbP,(QrT hS (by omega) (by omega)).2,Qam]
     cases h2:gtI (arvL x l st.place).1 st.close with
     | true =>
      rw [if_pos (by simpa using h2),Qcq (by decide),if_pos (by unfold slowL; rw [h0,h1,h2]; rfl)]; rfl
     | false =>
      have hns:slowL x l st=false:=by unfold slowL; rw [h0,h1,h2]; rfl
      obtain ⟨g1,g2,g3,g4,g5,g6⟩:=Qxe hx h hs hns
      rw [if_neg (by simpa using h2),Qa2 (show neI (0:Int) 0=false by decide),if_neg (by rw [hns]; decide)]
      obtain ⟨l1,l2⟩:=QuT hx h
      have hbd:∀ d,d<Qcr x.types→-4000000000≤l.load.getD d 0∧l.load.getD d 0≤4000000000:=fun d _=>by have:=l2 d; omega
      have hb2:∀ d,d<Qcr x.types→-4000000000≤loadO x j d∧loadO x j d≤4000000000:=fun d _=>by have:=o4 d; omega
      have hadd:=Qw2 hD.2 hbd hb2
      have hsub:=Qw6 hD.2 hbd hb2
      rw [← l1,← o3] at hadd hsub
      have hjj:v.order.toNat=j:=by omega
      obtain ⟨dn,hdn,hdn2⟩:=h.done
      obtain ⟨op,hop,hop2⟩:=h.open_
      have h10:=hx.orders
      have h2j:2 ^ j≤2 ^ 9:=Nat.pow_le_pow_right (by omega) (by omega)
      have hlen:(loadL x l v).length=(typK0 x l.type_).cap.length:=by rw [QpY,hT.cap]
      have J1:QbH x (qL l) v (typK0 x l.type_) o (st,0) (arvL x l st.place) (max (arvL x l st.place).1 st.open_+st.service,0) (loadL x l v) 0=some ((if overB (typK0 x l.type_).cap (loadL x l v)=true then [] else withL (typK0 x l.type_) (nextL x l v st)).map qL):=by
       unfold QbH
       rw [Qa2 (by decide),(Qrc hlen (by rw [QpY]; omega)).2,Qam]
       cases hov:overB (typK0 x l.type_).cap (loadL x l v) with
       | true=>rfl
       | false =>
        rw [Bool.not_false,Qb4,if_neg (by decide),hj,Qw3 (by omega),Qam]
        show chk (okN l.visits.length 16) (chk (okN (l.visits++[v]).length 16) _)=_
        rw [Qjq (by unfold okN; omega),Qjq (by unfold okN; simp; omega)]
        have hfin:∀ q:Nat,openL x l v=q→Qb7 x (qL l) v (st,0) (arvL x l st.place) (max (arvL x l st.place).1 st.open_+st.service,0) (loadL x l v) ((2 ^ j:Nat):Int) (q:Int)=some ((withL (typK0 x l.type_) (nextL x l v st)).map qL):=fun q hq=>by
         unfold Qb7
         have e1:subK .i64 (addK .i64 (qL l).driven (arvL x l st.place).1) (qL l).time=l.driven+(arvL x l st.place).1-l.time:=by show subK .i64 (addK .i64 l.driven (arvL x l st.place).1) l.time=_; rw [addI (by omega) (by omega),subI (by omega) (by omega)]
         have e2:addK .i64 (qL l).miles (arvL x l st.place).2.1=l.miles+(arvL x l st.place).2.1:=addI (a:=l.miles) (by omega) (by omega)
         have e3:orK .i64 (qL l).done ((2 ^ j:Nat):Int)=((l.done.toNat ||| 2 ^ v.order.toNat:Nat):Int):=by show orK .i64 l.done _=_; rw [hjj,hdn,orN (by omega) (by omega)]; simp
         simp only
         rw [e1,e2,e3,← hq]
         have hn:Qaf.mk (qL l).type_ ((qL l).visits++[v]) st.place (max (arvL x l st.place).1 st.open_+st.service) (l.driven+(arvL x l st.place).1-l.time) (l.miles+(arvL x l st.place).2.1) (loadL x l v) ((l.done.toNat ||| 2 ^ v.order.toNat:Nat):Int) ((openL x l v:Nat):Int)=qL (nextL x l v st):=rfl
         rw [hn,Qvu hx h ht.2 (l':=nextL x l v st) rfl (by show 0≤max (arvL x l st.place).1 st.open_+st.service∧max (arvL x l st.place).1 st.open_+st.service≤1000000; omega),Qam]
        cases hdp:v.drop with
        | true =>
         have hb:l.open_.toNat.testBit j=true:=by
          unfold fitB at hf
          simp only [Bool.and_eq_true,hdp,if_pos] at hf
          have:=hf.2.2.1
          rw [hj,Qrd] at this
          exact this
         rw [Qb4,Qam]
         have hxb:=QyB hb
         have e:subK .i64 (qL l).open_ ((2 ^ j:Nat):Int)=((l.open_.toNat ^^^ 2 ^ j:Nat):Int):=by
          show subK .i64 l.open_ _=_
          have hlo:l.open_=((l.open_.toNat:Nat):Int):=by rw [hop]; simp
          generalize l.open_.toNat ^^^ 2 ^ j=q at hxb ⊢
          generalize 2 ^ j=p at hxb h2j ⊢
          rw [hlo,subI (by omega) (by omega)]
          omega
         rw [e]
         exact hfin _ (by unfold openL; rw [if_pos hdp,hjj])
        | false =>
         rw [QbP]
         cases hdr:geI o.drop.place 0 with
         | true =>
          rw [Qb4,Qam]
          have e:orK .i64 (qL l).open_ ((2 ^ j:Nat):Int)=((l.open_.toNat ||| 2 ^ j:Nat):Int):=by show orK .i64 l.open_ _=_; rw [hop,orN (by omega) (by omega)]; simp
          rw [e]
          exact hfin _ (by unfold openL dropP; rw [if_neg (by rw [hdp]; decide),hjj,o1]; simp only; rw [if_pos hdr])
         | false =>
          rw [QbP]
          have e:(qL l).open_=((l.open_.toNat:Nat):Int):=by show l.open_=_; rw [hop]; simp
          rw [e]
          exact hfin _ (by unfold openL dropP; rw [if_neg (by rw [hdp]; decide),hjj,o1]; simp only; rw [if_neg (by rw [hdr]; decide)])
      show bnd (QfB l.load o.load) _=_
      rw [hadd,Qam]
      cases hdp:v.drop with
      | true =>
       have:bnd (QeE (qL l).load o.load) (fun r5=>QbH x (qL l) v (typK0 x l.type_) o (st,0) (arvL x l st.place) (max (arvL x l st.place).1 st.open_+st.service,0) r5.1 r5.2)=QbH x (qL l) v (typK0 x l.type_) o (st,0) (arvL x l st.place) (max (arvL x l st.place).1 st.open_+st.service,0) (loadL x l v) 0:=by
        show bnd (QeE l.load o.load) _=_
        rw [hsub,Qam]
        simp only
        congr 1
        unfold loadL
        exact Qfw fun d _=>by rw [hdp,if_pos rfl,hjj]
       rw [Qb4,this,J1]
      | false =>
       rw [QbP,← J1]
       simp only
       congr 1
       unfold loadL
       exact Qfw fun d _=>by rw [hdp,if_neg (by decide),hjj]
noncomputable def endL (x:Qac) (l:Qad):Int×Int×Int:=goN x.net (typK0 x l.type_).profile l.place (typK0 x l.type_).to_ l.time
def QnI (l:Qad):Qaw:=Qaw.mk l.type_ 0 [] l.visits
noncomputable def QsW (x:Qac) (l:Qad):QaB:=QaB.mk false 0 [] (endL x l).1 (l.miles+(endL x l).2.1)
def QqV (s:QaK):Int:=((s.cost*16+s.moved)*16+s.other)*65536+s.work
noncomputable def okL (x:Qac) (l:Qad):Bool:=!(eqI (lenI l.visits) 0||neI l.open_ 0)&&!(neI (endL x l).2.2 0||gtI (l.driven+(endL x l).1-l.time) (typK0 x l.type_).drive||gtI (endL x l).1 (typK0 x l.type_).close)
noncomputable def Qur (x:Qac) (l:Qad):Int×Int×Bool :=
 if okL x l=true then ((endL x l).1,QqV (scoS x (QnI l) (QsW x l)),true) else (0,0,false)
theorem QwG {s:QaK} (h1:0≤s.cost∧s.cost≤1073741824) (h2:0≤s.moved∧s.moved≤15) (h3:0≤s.other∧s.other≤15) (h4:0≤s.work∧s.work≤65535):QeM s=some (QqV s,0)∧Qda s=some (QqV s,0):=by
 have key:QeM s=some (QqV s,0):=by
  unfold QeM Qlr QqV
  rw [Qam,Qa2 (by simp; omega),Qa2 (by simp; omega),Qa2 (by simp; omega),Qa2 (by simp; omega),Qa2 (by simp only [Bool.or_eq_false_iff,gtI_f,geI_f]; omega),
   mulI (a:=s.cost) (by omega) (by omega),addI (a:=s.cost*16) (by omega) (by omega),mulI (a:=s.cost*16+s.moved) (by omega) (by omega),addI (a:=(s.cost*16+s.moved)*16) (by omega) (by omega),mulI (a:=(s.cost*16+s.moved)*16+s.other) (by omega) (by omega),addI (a:=((s.cost*16+s.moved)*16+s.other)*65536) (by omega) (by omega)]
 obtain ⟨w,w1,w2⟩:=QvZ s
 rw [key] at w1
 cases w1
 exact ⟨key,w2⟩
theorem Qv8 (hx:Qcy x) (h:LbI x l) (h0:(endL x l).2.2=0) (hc:(endL x l).1≤(typK0 x l.type_).close):(typK0 x l.type_).open_≤(endL x l).1∧l.time≤(endL x l).1∧(endL x l).1≤4096∧0≤(endL x l).2.1∧(endL x l).2.1≤10000:=by
 have ht:=h.t0 hx
 have h1:=h.time
 have hT:=(Qq4 hx h).2
 have:=hT.close
 have hb:=Qru hx.net (profile:=(typK0 x l.type_).profile) (a:=l.place) (b:=(typK0 x l.type_).to_) (t:=l.time) ⟨ht.1,by omega⟩ h0
 unfold endL at *
 omega
theorem QxP {f:Nat→Bool}:∀ n,0≤sumN n (fun i=>bit1 (f i))∧sumN n (fun i=>bit1 (f i))≤n:=fun n=>by
 have:=QvL (f:=fun i=>bit1 (f i)) (c:=1) (by omega) n fun i=>Qq7
 omega
theorem QvB (hx:Qcy x) (h:LbI x l) (h0:(endL x l).2.2=0) (hc:(endL x l).1≤(typK0 x l.type_).close) :
  QeM (scoS x (QnI l) (QsW x l))=some (QqV (scoS x (QnI l) (QsW x l)),0)∧Qda (scoS x (QnI l) (QsW x l))=some (QqV (scoS x (QnI l) (QsW x l)),0):=by
 have hT:=(Qq4 hx h).2
 obtain ⟨e1,e2,e3,e4,e5⟩:=Qv8 hx h h0 hc
 have hm:=h.miles
 have h100:=h.vis
 have ho:=hT.opn
 have h1:=hT.fixed; have h2:=hT.perMile; have h3:=hT.perTick
 have hty:typS x (QnI l)=typK0 x l.type_:=rfl
 have hfew:=QtC (r:=QnI l) hx (QnI l).visits.length (Nat.le_refl _)
 have hbd:=QrE (x:=x) (r:=QnI l) (QnI l).visits.length
 have hn:=hx.orders
 have hs:=QxP (f:=fun i=>hasO ((QnI l).visits.take (QnI l).visits.length) (i:Int)) x.orders.length
 refine QwG ?_ ?_ ?_ ?_
 ·unfold scoS
  simp only
  rw [hty]
  have hmm:0≤(typK0 x l.type_).perMile*(l.miles+(endL x l).2.1)∧(typK0 x l.type_).perMile*(l.miles+(endL x l).2.1)≤100*1010000:=⟨Int.mul_nonneg h2.1 (by omega),Int.mul_le_mul h2.2 (by omega) (by omega) (by omega)⟩
  have htt:0≤(typK0 x l.type_).perTick*((endL x l).1-(typK0 x l.type_).open_)∧(typK0 x l.type_).perTick*((endL x l).1-(typK0 x l.type_).open_)≤100*4096:=⟨Int.mul_nonneg h3.1 (by omega),Int.mul_le_mul h3.2 (by omega) (by omega) (by omega)⟩
  show 0≤addK .i64 (addK .i64 (typK0 x l.type_).fixed (mulK .i64 (typK0 x l.type_).perMile (l.miles+(endL x l).2.1))) (mulK .i64 (typK0 x l.type_).perTick (subK .i64 (endL x l).1 (typK0 x l.type_).open_))∧addK .i64 (addK .i64 (typK0 x l.type_).fixed (mulK .i64 (typK0 x l.type_).perMile (l.miles+(endL x l).2.1))) (mulK .i64 (typK0 x l.type_).perTick (subK .i64 (endL x l).1 (typK0 x l.type_).open_))≤1073741824
  rw [subI (by omega) (by omega),mulI (by omega) (by omega),mulI (by omega) (by omega),addI (a:=(typK0 x l.type_).fixed) (by omega) (by omega),addI (by omega) (by omega)]
  omega
 ·unfold scoS; simp only; omega
 ·unfold scoS; simp only; omega
 ·unfold scoS
  simp only
  rw [hty]
  show 0≤mulK .i64 (quoK .i64 (subK .i64 (endL x l).1 (typK0 x l.type_).open_) 64) (quoK .i64 (subK .i64 (endL x l).1 (typK0 x l.type_).open_) 64)∧mulK .i64 (quoK .i64 (subK .i64 (endL x l).1 (typK0 x l.type_).open_) 64) (quoK .i64 (subK .i64 (endL x l).1 (typK0 x l.type_).open_) 64)≤65535
  rw [subI (by omega) (by omega)]
  obtain ⟨d,hd⟩:∃ d:Nat,(endL x l).1-(typK0 x l.type_).open_=d:=⟨((endL x l).1-(typK0 x l.type_).open_).toNat,by omega⟩
  rw [hd,show (64:Int)=((64:Nat):Int) from rfl,quoN (by omega)]
  have hq:d / 64≤64:=by omega
  have hq2:(d / 64)*(d / 64)≤64*64:=Nat.mul_le_mul hq hq
  generalize d / 64=q at hq hq2
  have e:(q:Int)*(q:Int)=((q*q:Nat):Int):=by simp
  rw [mulI (by rw [e]; omega) (by rw [e]; omega),e]
  omega
theorem Qrm (hx:Qcy x) (h:LbI x l):Qgp x l=some (Qur x l)∧Qfs x (qL l)=some (Qur x l):=by
 have ht:=h.t0 hx
 have hty:=h.ty
 have h100:=h.vis
 have hd:=h.driven
 have hm:=h.miles
 obtain ⟨t1,hT⟩:=Qq4 hx h
 have hTy:getI x.types (qL l).type_=some (typK0 x l.type_):=t1
 have hg:goN x.net (typK0 x l.type_).profile l.place (typK0 x l.type_).to_ l.time=endL x l:=rfl
 have hsl:((neI (endL x l).2.2 0||gtI (subK .i64 (addK .i64 l.driven (endL x l).1) l.time) (typK0 x l.type_).drive)||gtI (endL x l).1 (typK0 x l.type_).close)=((neI (endL x l).2.2 0||gtI (l.driven+(endL x l).1-l.time) (typK0 x l.type_).drive)||gtI (endL x l).1 (typK0 x l.type_).close):=by
  cases h0:neI (endL x l).2.2 0 with
  | true=>simp
  | false =>
   rw [neI_f] at h0
   have:=Qru hx.net (profile:=(typK0 x l.type_).profile) (a:=l.place) (b:=(typK0 x l.type_).to_) (t:=l.time) ⟨ht.1,by omega⟩ h0
   rw [hg] at this
   rw [addI (by omega) (by omega),subI (by omega) (by omega)]
 have hroute:0≤(QnI l).type_∧(QnI l).type_<x.types.length:=hty
 constructor
 ·unfold Qgp Qur okL
  have e0:((((eqI (lenI l.visits) 0)||(neI l.open_ 0))||(ltI l.type_ 0))||(geI l.type_ (lenI x.types)))=(eqI (lenI l.visits) 0||neI l.open_ 0):=by
   rw [show ltI l.type_ 0=false by simp; omega,show geI l.type_ (lenI x.types)=false by simp [lenI]; omega]; simp
  rw [e0]
  cases (eqI (lenI l.visits) 0||neI l.open_ 0) with
  | true=>rfl
  | false =>
   rw [QbP,t1,Qam,go_eq hx.net _ _ _ ⟨ht.1,by omega⟩,Qam,hg,hsl]
   cases hno:((neI (endL x l).2.2 0||gtI (l.driven+(endL x l).1-l.time) (typK0 x l.type_).drive)||gtI (endL x l).1 (typK0 x l.type_).close) with
   | true=>rfl
   | false =>
    simp only [Bool.or_eq_false_iff,neI_f,gtI_f] at hno
    obtain ⟨e1,e2,e3,e4,e5⟩:=Qv8 hx h hno.1.1 hno.2
    rw [QbP,addI (a:=l.miles) (by omega) (by omega)]
    show bnd (Qjp x (QnI l) (QsW x l)) _=_
    rw [Qw5 hx (by show l.visits.length≤_; omega) hroute,Qam,(QvB hx h hno.1.1 hno.2).1,Qam,Qa2 (show neI (0:Int) 0=false by decide)]
    rfl
 ·unfold Qfs Qur okL
  show br (eqI (lenI l.visits) 0||neI l.open_ 0) _ _=_
  cases (eqI (lenI l.visits) 0||neI l.open_ 0) with
  | true=>rfl
  | false =>
   rw [QbP,hTy,Qam]
   show bnd (Qdi x.net (typK0 x l.type_).profile l.place (typK0 x l.type_).to_ l.time) _=_
   rw [Qpf hx.net _ _ _ ⟨ht.1,by omega⟩,Qam,hg]
   show br ((neI (endL x l).2.2 0||gtI (subK .i64 (addK .i64 l.driven (endL x l).1) l.time) (typK0 x l.type_).drive)||gtI (endL x l).1 (typK0 x l.type_).close) _ _=_
   rw [hsl]
   cases hno:((neI (endL x l).2.2 0||gtI (l.driven+(endL x l).1-l.time) (typK0 x l.type_).drive)||gtI (endL x l).1 (typK0 x l.type_).close) with
   | true=>rfl
   | false =>
    simp only [Bool.or_eq_false_iff,neI_f,gtI_f] at hno
    obtain ⟨e1,e2,e3,e4,e5⟩:=Qv8 hx h hno.1.1 hno.2
    rw [QbP]
    have em:addK .i64 (qL l).miles (endL x l).2.1=l.miles+(endL x l).2.1:=addI (a:=l.miles) (by omega) (by omega)
    rw [em]
    show bnd (Qeo x (QnI l) (QsW x l)) _=_
    rw [Qui hx (by show l.visits.length≤_; omega) hroute,Qam,(QvB hx h hno.1.1 hno.2).2,Qam]
    rfl
def domB (a b:Qad):Bool:=!(neI a.type_ b.type_||neI a.place b.place||neI a.done b.done||neI a.open_ b.open_)&&(leI a.time b.time&&leI a.driven b.driven&&leI a.miles b.miles&&!overB b.load a.load)
theorem QyD (ha:a.load.length=b.load.length) (hl:a.load.length≤1048576):Qd0 a b=some (domB a b)∧QdC (qL a) (qL b)=some (domB a b):=by
 constructor
 ·unfold Qd0 domB
  cases (neI a.type_ b.type_||neI a.place b.place||neI a.done b.done||neI a.open_ b.open_) with
  | true=>rfl
  | false =>
   rw [QbP]
   cases (leI a.time b.time&&leI a.driven b.driven&&leI a.miles b.miles) with
   | false=>rfl
   | true=>rw [Qb4,(Qrc ha hl).1]; rfl
 ·have hfit:=(Qrc ha hl).2
  unfold QdC domB
  show br (((((neI a.type_ b.type_)||(neI a.place b.place))||(neI a.done b.done))||(neI a.open_ b.open_))||(neI (lenI a.load) (lenI b.load))) _ _=_
  rw [show neI (lenI a.load) (lenI b.load)=false by simp [lenI,ha],Bool.or_false]
  cases (neI a.type_ b.type_||neI a.place b.place||neI a.done b.done||neI a.open_ b.open_) with
  | true=>rfl
  | false =>
   rw [QbP]
   have hb:overB b.load a.load=true↔∃ k,k<a.load.length∧gtI (a.load.getD k 0) (b.load.getD k 0)=true:=by
    unfold overB
    rw [List.any_eq_true]
    exact ⟨fun ⟨k,hk,h⟩=>⟨k,List.mem_range.1 hk,h⟩,fun ⟨k,hk,h⟩=>⟨k,List.mem_range.2 hk,h⟩⟩
   have g:∀ i,i<a.load.length→a.load[i]?=some (a.load.getD i 0)∧b.load[i]?=some (b.load.getD i 0):=fun i hi=>by
    rw [List.getD_eq_getElem?_getD,List.getD_eq_getElem?_getD,List.getElem?_eq_getElem hi,List.getElem?_eq_getElem (show i<b.load.length by omega)]
    exact ⟨rfl,rfl⟩
   rw [Qee (QvA (B:=fun s=>Qcx (qL a) (qL b) s) hl (fun k=>gtI (a.load.getD k 0) (b.load.getD k 0)) (y:=(.inr false:Unit⊕Bool)) (N:=.inl ()) hb (fun i hi=>by
    show br (ltI (i:Int) (lenI a.load)) (bnd (getI a.load (i:Int)) fun x0=>bnd (getI b.load (i:Int)) fun x1=>_) _=_
    rw [Qd8 (g i hi).1,QaG (g i hi).2,Qam,inc hi hl,brs]) (by
    show br (ltI (a.load.length:Int) (lenI a.load)) _ _=_
    rw [QcL]))]
   cases overB b.load a.load with
   | true=>rw [if_pos rfl]; simp
   | false=>rw [if_neg (by decide)]; simp; rfl
end
end Go.Proofs.YtfjiafgldchinaaGreatDoor
namespace Go.Proofs.YtfjiafgldchinaaGreatDoor
set_option linter.unusedSimpArgs false
set_option linter.unusedVariables false
set_option linter.unusedSectionVars false
section
variable {x : Qac} {l a b : Qad} {v : Qab} {st : Qap} {m : Nat} {kind : Int}
theorem QrV:QbE=some true:=by kernel_rfl
theorem few31 (hI:InstI x):post (QfA x) fun ok=>ok=true→Qcy x∧x.orders.length≤6:=by
 unfold QfA
 refine QaF (fun h6=>QaO (Qsz hI) fun r hr=>QaA.2 fun h=>?_) (fun _=>QaA.2 fun h=>by cases h)
 rw [eqI_t,lenI] at h
 rw [leI_t,lenI] at h6
 exact ⟨hr (List.length_eq_zero_iff.1 (by omega)),by omega⟩
theorem Qv9 (hx:Qcy x) (h:LbI x l) (h99:l.visits.length≤99):extL x l v=[]∨∃ n,extL x l v=withL (typK0 x l.type_) n∧LbI x n∧LbI x (restL (typK0 x l.type_) n)∧n.visits=l.visits++[v]∧n.type_=l.type_:=by
 unfold extL
 cases hs:stopV x v with
 | none=>exact .inl rfl
 | some st =>
  simp only
  cases hf:fitB x l v with
  | false=>exact .inl rfl
  | true =>
   rw [if_pos rfl]
   cases hsl:slowL x l st with
   | true=>exact .inl rfl
   | false =>
    rw [if_neg (by decide)]
    split
    ·exact .inl rfl
    ·obtain ⟨h1,h2⟩:=Qu8 hx h h99 hs hf hsl
     exact .inr ⟨_,rfl,h1,h2,rfl,rfl⟩
theorem Qxa (hx:Qcy x) (hm:mayB x kind m=true):LbI x (baseL x kind m)∧LbI x (restL (typK0 x kind) (baseL x kind m)):=by
 unfold mayB at hm
 rw [Bool.and_eq_true,decide_eq_true_eq] at hm
 obtain ⟨⟨h0,h1,h2,h3⟩,-⟩:=hm
 have hT:=Qs1 hx h0 h1
 have ho:=hT.opn
 have hc:=hT.close
 have hr:=hT.rest
 have h10:=hx.orders
 have hlen:=QkZ (m:=m) x.orders.length
 have hp:2 ^ x.orders.length≤2 ^ 10:=Nat.pow_le_pow_right (by omega) h10
 have hl:∃ f:Nat→Int,(baseL x kind m).load=vecN (Qcr x.types) f∧∀ d,-(10000+1000*(([]:List Qab).length:Int))≤f d∧f d≤10000+1000*(([]:List Qab).length:Int):=⟨_,rfl,fun d=>by
  have:=QtO (f:=stO x d) (l:=memS m x.orders.length) fun a _=>Qys hx d a
  simp only [List.length_nil]
  omega⟩
 have ho2:∃ n:Nat,((openS x m x.orders.length:Nat):Int)=n∧n<1024:=⟨_,rfl,by have:=Qqv (x:=x) (m:=m) x.orders.length; omega⟩
 have hd:∃ n:Nat,(0:Int)=n∧n<1024:=⟨0,rfl,by omega⟩
 exact ⟨⟨⟨h0,h1⟩,Nat.zero_le _,by show (typK0 x kind).open_≤(typK0 x kind).open_∧(typK0 x kind).open_≤12288; omega,by show (0:Int)≤0∧(0:Int)≤4096; omega,by show (0:Int)≤0∧(0:Int)≤10000*(([]:List Qab).length:Int); simp,hl,hd,ho2⟩,
  ⟨⟨h0,h1⟩,Nat.zero_le _,by show (typK0 x kind).open_≤(typK0 x kind).open_+(typK0 x kind).rest_∧(typK0 x kind).open_+(typK0 x kind).rest_≤12288; omega,by show (0:Int)≤0∧(0:Int)≤4096; omega,by show (0:Int)≤0∧(0:Int)≤10000*(([]:List Qab).length:Int); simp,hl,hd,ho2⟩⟩
theorem Qrl (hx:Qcy x):Qsr x kind m=[]∨(Qsr x kind m=withL (typK0 x kind) (baseL x kind m)∧mayB x kind m=true∧LbI x (baseL x kind m)∧LbI x (restL (typK0 x kind) (baseL x kind m))):=by
 unfold Qsr
 by_cases hm:mayB x kind m=true
 ·rw [if_pos hm]
  split
  ·exact .inl rfl
  ·exact .inr ⟨rfl,hm,Qxa hx hm⟩
 ·rw [if_neg hm]; exact .inl rfl
theorem QtQ {α E:Type} {l:List α} {B:Int→Option (Int⊕E)} {N:E} (hl:l.length≤1048576) (hin:∀ (i:Nat) (a:α),l[i]?=some a→B (i:Int)=some (.inl ((i:Int)+1))) (hend:B (l.length:Int)=some (.inr N)):loopF B 0=some N :=
 Qgh l.length (fun k=>(k:Int)) (B:=B) (by omega) (fun i hi=>by rw [hin i _ (List.getElem?_eq_getElem hi)]; rfl) hend
theorem QyE (hv:l.visits.length≤1048576) (hl:l.load.length≤1048576):QeZ (qL l) (qL l)=some true:=by
 unfold QeZ
 have e1:loopF (fun s=>Qdv (qL l) (qL l) s) 0=some (.inl ()):=QtQ (l:=l.visits) (B:=fun s=>Qdv (qL l) (qL l) s) hv (fun i a h=>by
  show br (ltI (i:Int) (lenI l.visits)) (bnd (getI l.visits (i:Int)) fun x0=>bnd (getI l.visits (i:Int)) fun x1=>_) _=_
  rw [Qd8 h,QaG h,Qam,Qcq (by simp),incL h hv]) (by
  show br (ltI (l.visits.length:Int) (lenI l.visits)) _ _=_
  rw [QcL])
 have e2:loopF (fun s=>QcD (qL l) (qL l) s) 0=some (.inl ()):=QtQ (l:=l.load) (B:=fun s=>QcD (qL l) (qL l) s) hl (fun i a h=>by
  show br (ltI (i:Int) (lenI l.load)) (bnd (getI l.load (i:Int)) fun x0=>bnd (getI l.load (i:Int)) fun x1=>_) _=_
  rw [Qd8 h,QaG h,Qam,Qa2 (by simp),incL h hl]) (by
  show br (ltI (l.load.length:Int) (lenI l.load)) _ _=_
  rw [QcL])
 rw [Qa2 (by simp),Qee e1,Qht,Qee e2,Qht]
 simp
theorem LbI.short (hx:Qcy x) (h:LbI x l):l.visits.length≤1048576∧l.load.length≤1048576:=by
 obtain ⟨f,hf,_⟩:=h.load
 have:=h.vis
 have:=(Qpv hx).2
 exact ⟨by omega,by rw [hf,Qb6]; omega⟩
theorem QyQ (hx:Qcy x) {L:List Qad} (hL:∀ l∈L,LbI x l) (hl:L.length≤1048576):QfZ L (L.map qL)=some true:=by
 unfold QfZ
 rw [Qa2 (by simp [lenI]),Qee (QtQ (l:=L) (B:=fun s=>QbS L (L.map qL) s) (N:=(.inl ():Unit⊕Bool)) hl (fun i a h=>by
  have hb:=(hL a (List.mem_of_getElem? h)).short hx
  have h2:(L.map qL)[i]?=some (qL a):=by rw [List.getElem?_map,h]; rfl
  show QbS L (L.map qL) i=_
  unfold QbS QgK
  rw [Qd8 h,Qam,QaG h2,Qam]
  show bnd (QeZ (qL a) (qL a)) _=_
  rw [QyE hb.1 hb.2,Qam,Qb4,incL h hl]) (by
  show QbS L (L.map qL) L.length=_
  unfold QbS
  rw [QcL]))]
 rfl
theorem QuU (h:LbI x l):l.load.length=Qcr x.types:=by
 obtain ⟨f,hf,_⟩:=h.load
 rw [hf,Qb6]
def TwoL (x:Qac) (k:Nat) (L:List Qad):Prop:=L=[]∨∃ a b,L=[a,b]∧LbI x a∧LbI x b∧a.visits.length≤k∧b.visits.length≤k
theorem TwoL.all {k:Nat} {L:List Qad} (h:TwoL x k L):(∀ l∈L,LbI x l)∧L.length≤2:=by
 rcases h with rfl|⟨a,b,rfl,h1,h2,_⟩
 ·exact ⟨fun l hl=>(by cases hl),by simp⟩
 ·refine ⟨fun l hl=>?_,by simp⟩
  rcases List.mem_cons.1 hl with rfl|hl
  ·exact h1
  ·rw [List.mem_singleton.1 hl]; exact h2
theorem QwD (hx:Qcy x):TwoL x 0 (Qsr x kind m):=by
 rcases Qrl (x:=x) (kind:=kind) (m:=m) hx with h|⟨h,_,h1,h2⟩
 ·exact .inl h
 ·exact .inr ⟨_,_,h,h1,h2,Nat.le_refl _,Nat.le_refl _⟩
theorem Qyx (hx:Qcy x) (h:LbI x l) {k:Nat} (hk:l.visits.length≤k) (h99:k≤99):TwoL x (k+1) (extL x l v):=by
 rcases Qv9 (v:=v) hx h (by omega) with h|⟨n,h,h1,h2,h3,_⟩
 ·exact .inl h
 ·exact .inr ⟨_,_,h,h1,h2,by rw [h3]; simp; omega,by show n.visits.length≤_; rw [h3]; simp; omega⟩
theorem QvU (hx:Qcy x) {w:QaC} {L:List Qad} (hL:TwoL x m L) (i:Int):loopF (fun s=>QaS x w L (L.map qL) i s) 0=some (.inl ()):=by
 obtain ⟨hall,h2⟩:=hL.all
 refine QtQ (l:=L) (B:=fun s=>QaS x w L (L.map qL) i s) (by omega) (fun k a e=>?_) (by
  show QaS x w L (L.map qL) i L.length=_
  unfold QaS
  rw [QcL])
 have ha:=hall a (List.mem_of_getElem? e)
 have e2:(L.map qL)[k]?=some (qL a):=by rw [List.getElem?_map,e]; rfl
 show QaS x w L (L.map qL) i k=_
 unfold QaS
 rw [Qd8 e,(Qrm hx ha).1,Qam,QaG e2,Qam,(Qrm hx ha).2,Qam,Qa2 (by simp)]
 obtain ⟨c,hc⟩:∃ c,L[0]?=some c:=by
  have:=(List.getElem?_eq_some_iff.1 e).1
  exact ⟨L[0]'(by omega),List.getElem?_eq_getElem _⟩
 have hcI:=hall c (List.mem_of_getElem? hc)
 have c2:(L.map qL)[0]?=some (qL c):=by rw [List.getElem?_map,hc]; rfl
 have g0:getI L 0=some c:=QaG (k:=0) hc
 have g1:getI (L.map qL) 0=some (qL c):=QaG (k:=0) c2
 have hd:=QyD (a:=a) (b:=c) (by rw [QuU ha,QuU hcI]) (ha.short hx).2
 rw [g0,Qam,hd.1,Qam,g1,Qam,hd.2,Qam,Qcq (by simp),incL e (by omega)]
theorem Qp4 (x:Qac) (hI:InstI x) (at_:Qar) (hs:isI64 at_.x1) (w:QaC):Qea x at_ w=some true:=by
 apply post.eq
 unfold Qea
 rw [QrV]
 refine QaO (few31 hI) fun ok hok=>QaF (fun _=>QaA.2 rfl) (fun h1=>?_)
 simp only [Bool.or_eq_false_iff,Bool.not_eq_false',gtI_f,lenI] at h1
 obtain ⟨hx,h6⟩:=hok h1.1
 have h12:w.visits.length≤12:=by omega
 rw [Qtn hx hs,Qam,Qwx hx hs,Qam]
 refine QaO (R:=fun r=>r=true) ?_ (fun r hr=>QaA.2 hr)
 refine QdH (fun s:List Qad×List Qaf×Int=>∃ (k:Nat) (L:List Qad),s=(L,L.map qL,(k:Int))∧k≤w.visits.length∧TwoL x k L) (fun s=>w.visits.length-s.2.2.toNat) ⟨0,_,rfl,Nat.zero_le _,QwD hx⟩ (by simp; omega) ?_
 rintro _ ⟨k,L,rfl,hk,hL⟩
 obtain ⟨hall,h2⟩:=hL.all
 show post (QbR x w L (L.map qL) (k:Int)) _
 unfold QbR
 rw [QyQ hx hall (by omega),Qam,Qb4,Qee (QvU hx hL _),Qht,QrV]
 refine QaF (fun h=>?_) (fun h=>?_)
 ·refine QaF (fun _=>QcO rfl) (fun h3=>?_)
  rcases hL with rfl|⟨a,b,rfl,_⟩
  ·simp at h3
  ·simp [lenI] at h3
 ·simp only [Bool.or_eq_false_iff,geI_f,neI_f,lenI,List.length_map] at h
  rcases hL with rfl|⟨a,b,rfl,ha,hb,ha2,hb2⟩
  ·simp at h
  have hkl:k<w.visits.length:=by omega
  have ev:getI w.visits (k:Int)=some w.visits[k]:=QaG (List.getElem?_eq_getElem hkl)
  have go:∀ c∈[a,b],∃ r10,Qdw x c w.visits[k]=some r10∧Qcs x (qL c) w.visits[k]=some (r10.map qL)∧TwoL x (k+1) r10:=fun c hc=>by
   have hcI:=hall c hc
   have hcl:c.visits.length≤k:=by
    rcases List.mem_cons.1 hc with rfl|hc
    ·exact ha2
    ·rw [List.mem_singleton.1 hc]; exact hb2
   exact ⟨_,Qs5 hx hcI (by omega),Qvp hx hcI (by omega),Qyx hx hcI hcl (by omega)⟩
  have fin:∀ {r10:List Qad},TwoL x (k+1) r10→post (some (Sum.inl (r10,r10.map qL,addK .i64 (k:Int) 1)):Option ((List Qad×List Qaf×Int)⊕Bool)) fun y=>(∀ s',y=.inl s'→(∃ (k:Nat) (L:List Qad),s'=(L,L.map qL,(k:Int))∧k≤w.visits.length∧TwoL x k L)∧w.visits.length-s'.2.2.toNat<w.visits.length-(k:Int).toNat)∧∀ e,y=.inr e→e=true:=fun hr=>by
   have ek:addK .i64 (k:Int) 1=((k+1:Nat):Int):=(addI (by omega) (by omega)).trans (by omega)
   rw [ek]
   refine QfV ⟨⟨k+1,_,rfl,hkl,hr⟩,?_⟩
   show w.visits.length-((k+1:Nat):Int).toNat<w.visits.length-(k:Int).toNat
   omega
  have g0:getI [a,b] 0=some a:=rfl
  have g1:getI [a,b] 1=some b:=rfl
  have q0:getI ([a,b].map qL) 0=some (qL a):=rfl
  have q1:getI ([a,b].map qL) 1=some (qL b):=rfl
  obtain ⟨ra,ra1,ra2,ra3⟩:=go a (by simp)
  obtain ⟨rb,rb1,rb2,rb3⟩:=go b (by simp)
  refine QaF (fun hr=>?_) (fun hr=>?_)
  ·obtain ⟨c,hc⟩:∃ c,getI w.rests (k:Int)=some c:=⟨_,Qt1 (by simpa [lenI] using hr)⟩
   rw [hc,Qam]
   refine QaF (fun _=>?_) (fun _=>?_)
   ·unfold Qa5
    rw [g1,Qam,ev,Qam,rb1,Qam,q1,Qam,rb2,Qam]
    exact fin rb3
   ·unfold Qa5
    rw [g0,Qam,ev,Qam,ra1,Qam,q0,Qam,ra2,Qam]
    exact fin ra3
  ·rw [g0,Qam,ev,Qam,ra1,Qam,q0,Qam,ra2,Qam]
   exact fin ra3
end
end Go.Proofs.YtfjiafgldchinaaGreatDoor
namespace Go.Proofs.YtfjiafgldchinaaGreatDoor
set_option linter.unusedSimpArgs false
set_option linter.unusedVariables false
set_option linter.unusedSectionVars false
def pickL (t:Qah) (n:Qad) (c:Bool):Qad:=if c=true then restL t n else n
structure LabAt (x:Qac) (kind:Int) (stops:List Qap) (b:List Bool) (n:Qad):Prop where
 ok:okB x.net (typK0 x kind) stops 0 b
 ty:n.type_=kind
 place:n.place=fromP (typK0 x kind) stops b.length
 time:n.time=(lbB x.net (typK0 x kind) stops 0 b).ready
 driven:n.driven=(lbB x.net (typK0 x kind) stops 0 b).since
 miles:n.miles=(lbB x.net (typK0 x kind) stops 0 b).sheet.miles
section
variable {x : Qac} {l n : Qad} {v : Qab} {st : Qap} {m : Nat} {kind : Int} {stops : List Qap} {b : List Bool} {c : Bool}
theorem QoG {t:Qah}:(pickL t n c).type_=n.type_:=by cases c <;> rfl
theorem QoF {t:Qah}:(pickL t n c).place=n.place:=by cases c <;> rfl
theorem Qsf {t:Qah}:(pickL t n c).miles=n.miles:=by cases c <;> rfl
theorem QsM {t:Qah}:(pickL t n c).visits=n.visits:=by cases c <;> rfl
theorem LabAt.ptime (h:LabAt x kind stops b n):(pickL (typK0 x kind) n c).time=depS (typK0 x kind) (lbB x.net (typK0 x kind) stops 0 b) c:=by
 unfold depS
 rw [← h.time]
 cases c with
 | true=>rfl
 | false=>show n.time=n.time+0; omega
theorem LabAt.psince (h:LabAt x kind stops b n):(pickL (typK0 x kind) n c).driven=sinS (lbB x.net (typK0 x kind) stops 0 b) c:=by
 unfold sinS
 rw [← h.driven]
 cases c <;> rfl
theorem Qxp (hx:Qcy x) (h0:0≤kind) (h1:kind<x.types.length):LabAt x kind stops [] (baseL x kind m):=by
 have hT:=(Qs1 hx h0 h1).opn
 refine ⟨rfl,rfl,rfl,?_,rfl,rfl⟩
 show (typK0 x kind).open_=max (typK0 x kind).open_ 0
 omega
noncomputable def legL (x:Qac) (kind:Int) (n:Qad) (c:Bool) (st:Qap):Int×Int×Int:=goN x.net (typK0 x kind).profile n.place st.place (pickL (typK0 x kind) n c).time
theorem QuS (h:LabAt x kind stops b n) (hst:stopK (typK0 x kind) stops b.length=st) :
  okB x.net (typK0 x kind) stops 0 (b++[c])↔(legL x kind n c st).2.2=0∧(legL x kind n c st).1≤st.close∧(pickL (typK0 x kind) n c).driven+(legL x kind n c st).1-(pickL (typK0 x kind) n c).time≤(typK0 x kind).drive:=by
 rw [Qva]
 unfold nxt nxtD legL
 rw [hst,← h.ptime (c:=c),← h.psince (c:=c),← h.place]
 generalize goN x.net (typK0 x kind).profile n.place st.place (pickL (typK0 x kind) n c).time=g
 constructor
 ·rintro ⟨-,h2⟩
  split at h2
  ·exact absurd h2 (by simp)
  ·split at h2
   ·split at h2 <;> simp at h2
   ·split at h2
    ·simp at h2
    ·omega
 ·rintro ⟨h1,h2,h3⟩
  rw [if_neg (by omega),if_neg (by omega),if_neg (by omega)]
  exact ⟨h.ok,rfl⟩
theorem Qyg (h:LabAt x kind stops b n) (hst:stopK (typK0 x kind) stops b.length=st) (hok:okB x.net (typK0 x kind) stops 0 (b++[c])) :
  lbB x.net (typK0 x kind) stops 0 (b++[c])=QaI.mk (max (legL x kind n c st).1 st.open_+st.service) ((pickL (typK0 x kind) n c).driven+(legL x kind n c st).1-(pickL (typK0 x kind) n c).time)
   (shS (typK0 x kind) stops (lbB x.net (typK0 x kind) stops 0 b) b.length c (pickL (typK0 x kind) n c).time (legL x kind n c st)):=by
 have h2:=(QuS h hst).1 hok
 rw [Qxr hok]
 unfold legL at h2 ⊢
 unfold nxt nxtD
 rw [hst,← h.ptime (c:=c),← h.psince (c:=c),← h.place]
 generalize goN x.net (typK0 x kind).profile n.place st.place (pickL (typK0 x kind) n c).time=g at h2
 rw [if_neg (by omega),if_neg (by omega),if_neg (by omega)]
theorem QxL (h:LabAt x kind stops b n) (hst:stopK (typK0 x kind) stops b.length=st):slowL x (pickL (typK0 x kind) n c) st=false↔okB x.net (typK0 x kind) stops 0 (b++[c]):=by
 rw [QuS h hst]
 unfold slowL arvL legL
 rw [QoG,QoF,h.ty]
 simp only [Bool.or_eq_false_iff,neI_f,gtI_f]
 constructor
 ·rintro ⟨⟨h1,h2⟩,h3⟩; exact ⟨h1,by omega,by omega⟩
 ·rintro ⟨h1,h2,h3⟩; exact ⟨⟨h1,by omega⟩,by omega⟩
theorem Qxq (h:LabAt x kind stops b n) (hst:stops[b.length]?=some st) (hs:slowL x (pickL (typK0 x kind) n c) st=false):LabAt x kind stops (b++[c]) (nextL x (pickL (typK0 x kind) n c) v st):=by
 have hk:stopK (typK0 x kind) stops b.length=st:=by unfold stopK; rw [List.getD_eq_getElem?_getD,hst]; rfl
 have hok:=(QxL h hk).1 hs
 have hl:=Qyg h hk hok
 have hg:arvL x (pickL (typK0 x kind) n c) st.place=legL x kind n c st:=by unfold arvL legL; rw [QoG,QoF,h.ty]
 refine ⟨hok,?_,?_,?_,?_,?_⟩
 ·show (pickL (typK0 x kind) n c).type_=kind
  rw [QoG,h.ty]
 ·rw [List.length_append,List.length_singleton]
  show st.place=(stops.getD b.length zStop).place
  rw [List.getD_eq_getElem?_getD,hst]; rfl
 ·rw [hl]; show max (arvL x (pickL (typK0 x kind) n c) st.place).1 st.open_+st.service=_; rw [hg]
 ·rw [hl]; show (pickL (typK0 x kind) n c).driven+(arvL x (pickL (typK0 x kind) n c) st.place).1-_=_; rw [hg]
 ·rw [hl]; show (pickL (typK0 x kind) n c).miles+(arvL x (pickL (typK0 x kind) n c) st.place).2.1=(lbB x.net (typK0 x kind) stops 0 b).sheet.miles+(legL x kind n c st).2.1
  rw [hg,Qsf,h.miles]
theorem Qx6 (h:LabAt x kind stops b n) (hb:b.length=stops.length):okB x.net (typK0 x kind) stops 0 (b++[c]) ↔
  ((endL x (pickL (typK0 x kind) n c)).2.2=0∧(endL x (pickL (typK0 x kind) n c)).1≤(typK0 x kind).close∧(pickL (typK0 x kind) n c).driven+(endL x (pickL (typK0 x kind) n c)).1-(pickL (typK0 x kind) n c).time≤(typK0 x kind).drive):=by
 have hk:stopK (typK0 x kind) stops b.length=endS (typK0 x kind):=Qp2 (by omega)
 rw [QuS h hk]
 have hg:endL x (pickL (typK0 x kind) n c)=legL x kind n c (endS (typK0 x kind)):=by unfold endL legL; rw [QoG,QoF,h.ty]; rfl
 rw [hg]
 rfl
theorem QyJ (h:LabAt x kind stops b n) (hb:b.length=stops.length) (hok:okB x.net (typK0 x kind) stops 0 (b++[c])) :
  (lbB x.net (typK0 x kind) stops 0 (b++[c])).sheet.end_=(endL x (pickL (typK0 x kind) n c)).1∧(lbB x.net (typK0 x kind) stops 0 (b++[c])).sheet.miles=n.miles+(endL x (pickL (typK0 x kind) n c)).2.1:=by
 have hk:stopK (typK0 x kind) stops b.length=endS (typK0 x kind):=Qp2 (by omega)
 have hg:endL x (pickL (typK0 x kind) n c)=legL x kind n c (endS (typK0 x kind)):=by unfold endL legL; rw [QoG,QoF,h.ty]; rfl
 rw [Qyg h hk hok,hg,h.miles]
 refine ⟨?_,rfl⟩
 show (if b.length<stops.length then _ else _:Int)=_
 rw [if_neg (by omega)]
theorem Qym (h:okL x l=true):lenI l.visits≠0∧l.open_=0∧(endL x l).2.2=0∧l.driven+(endL x l).1-l.time≤(typK0 x l.type_).drive∧(endL x l).1≤(typK0 x l.type_).close:=by
 unfold okL at h
 simp only [Bool.and_eq_true,Bool.not_eq_true',Bool.or_eq_false_iff,neI_f,eqI_f,gtI_f] at h
 obtain ⟨⟨h1,h2⟩,⟨h3,h4⟩,h5⟩:=h
 exact ⟨h1,h2,h3,by omega,by omega⟩
def rutL (kind:Int) (l:List Qab):Qaw:=Qaw.mk kind 0 [] l
theorem QxJ {l:List Qab} (h0:0≤kind) (h1:kind<x.types.length) (hl:l.length≤20) (hs:∀ v∈l,(stopV x v).isSome):possS x (rutL kind l)=true:=by
 unfold possS preR
 rw [Bool.and_eq_true,decide_eq_true_eq,List.all_eq_true]
 exact ⟨⟨h0,h1,Int.le_refl _,by show (0:Int)≤4096; omega,by show l.length≤20; omega⟩,hs⟩
theorem Qv6 (hx:Qcy x) {l:List Qab} {rests:List Bool} (hn:LbI x n) (hc:LbI x (pickL (typK0 x kind) n c)) (h:LabAt x kind (QaY x (rutL kind l)) b n) (hl:l.length≤20) (hb:b.length=l.length) (hr:rests=b++[c]) (hs:∀ v∈l,(stopV x v).isSome) :
  QeP x (pickL (typK0 x kind) n c) l rests=some true:=by
 unfold QeP
 rw [(Qrm hx hc).1,Qam]
 unfold Qur
 by_cases hok:okL x (pickL (typK0 x kind) n c)=true
 ·rw [if_pos hok,Qb4]
  obtain ⟨-,-,e1,e2,e3⟩:=Qym hok
  have hty:n.type_=kind:=h.ty
  have hk:0≤kind∧kind<x.types.length:=hty ▸ hn.ty
  have hbl:b.length=(QaY x (rutL kind l)).length:=by rw [Qp3]; exact hb
  rw [QoG,hty] at e2 e3
  have hokB:=(Qx6 h hbl (c:=c)).2 ⟨e1,e3,e2⟩
  obtain ⟨f1,f2⟩:=QyJ h hbl hokB
  have hrun:QfE x (rutL kind l) rests=some ((lbB x.net (typK0 x kind) (QaY x (rutL kind l)) 0 (b++[c])).sheet,0):=by
   rw [Qvt hx (by show l.length≤_; omega)]
   unfold runR
   rw [if_pos ⟨QxJ hk.1 hk.2 hl hs,by rw [hr]; simp [hb]; rfl⟩,hr]
   exact congrArg some (QxI hokB)
  rw [show Qaw.mk (pickL (typK0 x kind) n c).type_ 0 [] l=rutL kind l by rw [QoG,hty]; rfl,hrun,Qam,Qsf]
  rw [f1,f2]
  have:=(Qv8 hx hc e1 (by rw [QoG,hty]; exact e3)).2.2.2.1
  rw [show eqI (0:Int) 0=true by decide]
  simp
  omega
 ·rw [if_neg hok]; rfl
theorem QpC (x:Qac) (hI:InstI x) (at_:Qar) (hs:isI64 at_.x1) (w:QaC) (hw:w.visits.length≤1048576):QdO x at_ w=some true:=by
 apply post.eq
 unfold QdO
 rw [QrV]
 refine QaO (few31 hI) fun ok hok=>QaF (fun _=>QaA.2 rfl) (fun h1=>?_)
 simp only [Bool.or_eq_false_iff,Bool.not_eq_false',gtI_f,lenI,neI_f] at h1
 obtain ⟨⟨h1,h12⟩,hrl⟩:=h1
 obtain ⟨hx,h6⟩:=hok h1
 have h12:w.visits.length≤12:=by omega
 rw [addI (by omega) (by omega)] at hrl
 have hrl':w.rests.length=w.visits.length+1:=by omega
 rw [Qtn hx hs,Qam]
 refine QaO (R:=fun r=>∀ b,r=.inr b→b=true) ?_ (fun r hr=>?_)
 ·refine QdH (fun s:List Qad×Int=>∃ (k:Nat) (L:List Qad),s=(L,(k:Int))∧k≤w.visits.length+1∧(k=w.visits.length+1∨L=[]∨∃ n,L=withL (typK0 x at_.x0) n∧LbI x n∧LbI x (restL (typK0 x at_.x0) n)∧n.visits.length=k∧LabAt x at_.x0 (QaY x (rutL at_.x0 w.visits)) (w.rests.take k) n∧∀ j,j<k→∀ v,w.visits[j]?=some v→(stopV x v).isSome)) (fun s=>w.visits.length+1-s.2.toNat) ⟨0,_,rfl,Nat.zero_le _,.inr ?_⟩ (by simp; omega) ?_
  ·rcases Qrl (x:=x) (kind:=at_.x0) (m:=at_.x1.toNat) hx with h|⟨h,hm,h1,h2⟩
   ·exact .inl h
   ·unfold mayB at hm
    rw [Bool.and_eq_true,decide_eq_true_eq] at hm
    exact .inr ⟨_,h,h1,h2,rfl,Qxp hx hm.1.1 hm.1.2.1,fun j hj=>by omega⟩
  ·rintro _ ⟨k,L,rfl,hk,hL⟩
   show post (QbC x w L (k:Int)) _
   unfold QbC
   rw [QrV]
   refine QaF (fun hkl=>?_) (fun _=>QcO (fun b hb=>by cases hb))
   simp only [leI_t,lenI] at hkl
   rcases hL with hL|rfl|⟨n,rfl,hn,hn2,hnl,hat,hst⟩
   ·omega
   ·exact QcO (fun b hb=>by cases hb; rfl)
   refine QaF (fun h=>absurd h (by unfold withL; simp [lenI])) (fun _=>?_)
   have hkr:k<w.rests.length:=by omega
   have hrk:w.rests.take (k+1)=w.rests.take k++[w.rests[k]]:=by rw [List.take_add_one,List.getElem?_eq_getElem hkr]; rfl
   have htl:(w.rests.take k).length=k:=by rw [List.length_take]; omega
   rw [Qt1 hkr,Qam]
   have hpI:LbI x (pickL (typK0 x at_.x0) n w.rests[k]):=by unfold pickL; split; exact hn2; exact hn
   have hJ:∀ i:Int,getI (withL (typK0 x at_.x0) n) i=some (pickL (typK0 x at_.x0) n w.rests[k])→post (QbB x w (withL (typK0 x at_.x0) n) (k:Int) i) fun y=>(∀ s',y=.inl s'→(∃ (k:Nat) (L:List Qad),s'=(L,(k:Int))∧k≤w.visits.length+1∧(k=w.visits.length+1∨L=[]∨∃ n,L=withL (typK0 x at_.x0) n∧LbI x n∧LbI x (restL (typK0 x at_.x0) n)∧n.visits.length=k∧LabAt x at_.x0 (QaY x (rutL at_.x0 w.visits)) (w.rests.take k) n∧∀ j,j<k→∀ v,w.visits[j]?=some v→(stopV x v).isSome))∧w.visits.length+1-s'.2.toNat<w.visits.length+1-(k:Int).toNat)∧∀ e,y=.inr e→(∀ b,e=.inr b→b=true):=fun i hi=>by
    unfold QbB
    rw [QrV,hi]
    refine QaF (fun he=>?_) (fun hne=>?_)
    ·simp only [eqI_t,lenI] at he
     have hkv:k=w.visits.length:=by omega
     rw [Qam,Qv6 hx hn hpI hat (by omega) (by rw [htl]; exact hkv) (by rw [← hrk,List.take_of_length_le (by omega)]) (fun v hv=>by
      obtain ⟨j,hj⟩:=List.getElem?_of_mem hv
      exact hst j (by have:=(List.getElem?_eq_some_iff.1 hj).1; omega) v hj),Qam,Qb4,Qam]
     exact QcO (fun b hb=>by cases hb; rfl)
    ·simp only [eqI_f,lenI] at hne
     have hkv:k<w.visits.length:=by omega
     have ek:addK .i64 (k:Int) 1=((k+1:Nat):Int):=(addI (by omega) (by omega)).trans (by omega)
     rw [Qam,Qt1 hkv,Qam,Qs5 hx hpI (by rw [QsM]; omega),Qam,ek]
     refine QfV ⟨⟨k+1,_,rfl,by omega,.inr ?_⟩,?_⟩
     ·unfold extL
      cases hsv:stopV x w.visits[k] with
      | none=>exact .inl rfl
      | some st =>
       simp only
       cases hf:fitB x (pickL (typK0 x at_.x0) n w.rests[k]) w.visits[k] with
       | false=>exact .inl rfl
       | true =>
        rw [if_pos rfl]
        cases hsl:slowL x (pickL (typK0 x at_.x0) n w.rests[k]) st with
        | true=>exact .inl rfl
        | false =>
         rw [if_neg (by decide)]
         split
         ·exact .inl rfl
         ·obtain ⟨q1,q2⟩:=Qu8 hx hpI (by rw [QsM]; omega) hsv hf hsl
          have hsk:(QaY x (rutL at_.x0 w.visits))[(w.rests.take k).length]?=some st:=by
           rw [htl]
           unfold QaY rutL
           rw [List.getElem?_map]
           simp only
           rw [List.getElem?_eq_getElem hkv]
           simp [hsv]
          have hnx:=Qxq (v:=w.visits[k]) hat hsk hsl
          rw [QoG,hat.ty] at q2 ⊢
          refine .inr ⟨_,rfl,q1,q2,?_,by rw [hrk]; exact hnx,fun j hj v hv=>?_⟩
          ·show ((pickL (typK0 x at_.x0) n w.rests[k]).visits++[w.visits[k]]).length=k+1
           rw [QsM]; simp; omega
          ·rcases Nat.lt_or_ge j k with h|h
           ·exact hst j h v hv
           ·obtain rfl:j=k:=by omega
            rw [List.getElem?_eq_getElem hkv] at hv
            cases hv
            rw [hsv]; rfl
     ·show w.visits.length+1-((k+1:Nat):Int).toNat<w.visits.length+1-(k:Int).toNat
      omega
   cases hb:w.rests[k] with
   | true=>rw [Qb4]; exact hJ 1 (by rw [hb]; rfl)
   | false=>rw [QbP]; exact hJ 0 (by rw [hb]; rfl)
 ·cases r with
  | inl u=>rw [Qht]; exact QaA.2 rfl
  | inr b=>rw [QqF]; exact QaA.2 (hr b rfl)
end
end Go.Proofs.YtfjiafgldchinaaGreatDoor
