/- Part MX of the proof: texts Lua Lub Luc Lud Lwa Lwb Lwc Lwd Lwe Lwf Lwg Lwh. -/
import Derived.Test.YtfjiafgldchinaaGreatDoorMR
namespace Go.Proofs.YtfjiafgldchinaaGreatDoor
set_option linter.unusedSimpArgs false
set_option linter.unusedVariables false
set_option linter.unusedSectionVars false
def ltV (a b:Qaa):Bool:=ltI a.order b.order||(eqI a.order b.order&&(!a.drop&&b.drop))
theorem QD0 {a b:Qaa}:ltV a b=true↔a.order<b.order∨(a.order=b.order∧a.drop=false∧b.drop=true):=by
 unfold ltV
 simp
theorem QCS {a:Qaa}:ltV a a=false:=by
 rw [Bool.eq_false_iff]
 intro h
 rw [QD0] at h
 rcases h with h|⟨_,h1,h2⟩
 ·omega
 ·rw [h1] at h2; cases h2
theorem QBZ {a b c:Qaa} (h1:ltV a b=true) (h2:ltV b c=true):ltV a c=true:=by
 rw [QD0] at *
 rcases h1 with h1|⟨h1,h3,h4⟩ <;> rcases h2 with h2|⟨h2,h5,h6⟩
 ·exact .inl (by omega)
 ·exact .inl (by omega)
 ·exact .inl (by omega)
 ·rw [h4] at h5; cases h5
theorem QFi (a b:Qaa):a=b∨ltV a b=true∨ltV b a=true:=by
 rcases Int.lt_trichotomy a.order b.order with h|h|h
 ·exact .inr (.inl (QD0.2 (.inl h)))
 ·cases ha:a.drop <;> cases hb:b.drop
  ·exact .inl (by cases a; cases b; simp_all)
  ·exact .inr (.inl (QD0.2 (.inr ⟨h,ha,hb⟩)))
  ·exact .inr (.inr (QD0.2 (.inr ⟨h.symm,hb,ha⟩)))
  ·exact .inl (by cases a; cases b; simp_all)
 ·exact .inr (.inr (QD0.2 (.inl h)))
def QzQ:List Qaa→List Qaa→Bool
 | [],[]=>false
 | [],_ :: _=>true
 | _ :: _,[]=>false
 | a :: l,b :: m=>ltV a b||(decide (a=b)&&QzQ l m)
theorem Qxp:∀ {l:List Qaa},QzQ l l=false
 | []=>rfl
 | a :: l=>by unfold QzQ; rw [QCS,Qxp]; simp
theorem Que:∀ {a b c:List Qaa},QzQ a b=true→QzQ b c=true→QzQ a c=true
 | [],[],_,h,_=>by cases h
 | _ :: _,[],_,h,_=>by cases h
 | [],_ :: _,[],_,h=>by cases h
 | [],_ :: _,_ :: _,_,_=>rfl
 | _ :: _,_ :: _,[],_,h=>by cases h
 | x :: a,y :: b,z :: c,h1,h2=>by
  unfold QzQ at *
  simp only [Bool.or_eq_true,Bool.and_eq_true,decide_eq_true_iff] at *
  rcases h1 with h1|⟨rfl,h1⟩
  ·rcases h2 with h2|⟨rfl,h2⟩
   ·exact .inl (QBZ h1 h2)
   ·exact .inl h1
  ·rcases h2 with h2|⟨rfl,h2⟩
   ·exact .inl h2
   ·exact .inr ⟨rfl,Que h1 h2⟩
theorem Qxq:∀ (a b:List Qaa),a=b∨QzQ a b=true∨QzQ b a=true
 | [],[]=>.inl rfl
 | [],_ :: _=>.inr (.inl rfl)
 | _ :: _,[]=>.inr (.inr rfl)
 | x :: a,y :: b=>by
  unfold QzQ
  simp only [Bool.or_eq_true,Bool.and_eq_true,decide_eq_true_iff]
  rcases QFi x y with rfl|h|h
  ·rcases Qxq a b with rfl|h|h
   ·exact .inl rfl
   ·exact .inr (.inl (.inr ⟨rfl,h⟩))
   ·exact .inr (.inr (.inr ⟨rfl,h⟩))
  ·exact .inr (.inl (.inl h))
  ·exact .inr (.inr (.inl h))
abbrev Ky:=Int×List Qaa
def kLt (k q:Ky):Prop:=k.1<q.1∨(k.1=q.1∧QzQ k.2 q.2=true)
theorem QzG {k:Ky}:¬ kLt k k:=by
 rintro (h|⟨_,h⟩)
 ·omega
 ·rw [Qxp] at h; cases h
theorem QBP {a b c:Ky} (h1:kLt a b) (h2:kLt b c):kLt a c:=by
 rcases h1 with h1|⟨h1,h3⟩ <;> rcases h2 with h2|⟨h2,h4⟩
 ·exact .inl (by omega)
 ·exact .inl (by omega)
 ·exact .inl (by omega)
 ·exact .inr ⟨by omega,Que h3 h4⟩
theorem QFg (a b:Ky):a=b∨kLt a b∨kLt b a:=by
 rcases Int.lt_trichotomy a.1 b.1 with h|h|h
 ·exact .inr (.inl (.inl h))
 ·rcases Qxq a.2 b.2 with h'|h'|h'
  ·exact .inl (Prod.ext h h')
  ·exact .inr (.inl (.inr ⟨h,h'⟩))
  ·exact .inr (.inr (.inr ⟨h.symm,h'⟩))
 ·exact .inr (.inr (.inl h))
theorem QBO {a b c:Ky} (h1:¬ kLt a b) (h2:¬ kLt b c):¬ kLt a c:=fun h=>by
 rcases QFg b c with rfl|h3|h3
 ·exact h1 h
 ·exact h2 h3
 ·exact h1 (QBP h h3)
def Bst (S:Ky→Prop) (s t:Option Ky):Prop:=(∀ k,t=some k→s=some k∨S k)∧(∀ k,(s=some k∨S k)→∃ k',t=some k'∧¬ kLt k k')
theorem Bst.none {S:Ky→Prop} {s:Option Ky} (h:∀ k,¬ S k):Bst S s s :=
 ⟨fun k e=>.inl e,fun k e=>e.elim (fun e=>⟨k,e,QzG⟩) fun e=>absurd e (h k)⟩
theorem Bst.comp {S T:Ky→Prop} {s t u:Option Ky} (h1:Bst S s t) (h2:Bst T t u):Bst (fun k=>S k∨T k) s u:=by
 refine ⟨fun k e=>?_,fun k e=>?_⟩
 ·rcases h2.1 k e with e|e
  ·rcases h1.1 k e with e|e
   ·exact .inl e
   ·exact .inr (.inl e)
  ·exact .inr (.inr e)
 ·have go:(s=some k∨S k)→∃ k',u=some k'∧¬ kLt k k':=fun e=>by
   obtain ⟨a,ha,hl⟩:=h1.2 k e
   obtain ⟨b,hb,hm⟩:=h2.2 a (.inl ha)
   exact ⟨b,hb,QBO hl hm⟩
  rcases e with e|e|e
  ·exact go (.inl e)
  ·exact go (.inr e)
  ·exact h2.2 k (.inr e)
theorem Bst.congr {S T:Ky→Prop} {s t:Option Ky} (h:Bst S s t) (he:∀ k,S k↔T k):Bst T s t :=
 ⟨fun k e=>(h.1 k e).imp id (he k).1,fun k e=>h.2 k (e.imp id (he k).2)⟩
theorem Bst.one {S:Ky→Prop} {k:Ky} (hS:∀ q,S q↔q=k) {s t:Option Ky} (h:(t=some k∧∀ q,s=some q→¬ kLt q k)∨(t=s∧∃ q,s=some q∧¬ kLt k q)):Bst S s t:=by
 rcases h with ⟨rfl,h⟩|⟨rfl,q,rfl,h⟩
 ·refine ⟨fun q e=>.inr ((hS q).2 (Option.some.inj e).symm),fun q e=>⟨k,rfl,?_⟩⟩
  rcases e with e|e
  ·exact h q e
  ·rw [(hS q).1 e]; exact QzG
 ·refine ⟨fun q e=>.inl e,fun q' e=>?_⟩
  rcases e with e|e
  ·exact ⟨q',e,QzG⟩
  ·rw [(hS q').1 e]; exact ⟨q,rfl,h⟩
theorem Bst.nil {S:Ky→Prop} {s:Option Ky} (h:∀ k,¬ S k):Bst S s s:=Bst.none h
theorem Bst.more {α:Type} {T:α→Ky→Prop} {l:List α} {i:Nat} {a:α} {s t u:Option Ky} (h:Bst (fun k=>∃ b∈l.take i,T b k) s t) (ha:l[i]?=some a) (h2:Bst (T a) t u):Bst (fun k=>∃ b∈l.take (i+1),T b k) s u:=by
 refine (h.comp h2).congr fun k=>?_
 rw [take_one ha]
 constructor
 ·rintro (⟨b,hb,h⟩|h)
  ·exact ⟨b,List.mem_append_left _ hb,h⟩
  ·exact ⟨a,by simp,h⟩
 ·rintro ⟨b,hb,h⟩
  rcases List.mem_append.1 hb with hb|hb
  ·exact .inl ⟨b,hb,h⟩
  ·rw [List.mem_singleton.1 hb] at h; exact .inr h
end Go.Proofs.YtfjiafgldchinaaGreatDoor
namespace Go.Proofs.YtfjiafgldchinaaGreatDoor
set_option linter.unusedSimpArgs false
set_option linter.unusedVariables false
set_option linter.unusedSectionVars false
def QpJ (v:Qaa):List Qaa→List Qaa
 | []=>[]
 | w :: r=>if w=v then [] else w :: QpJ v r
def Qnt (x:Qab) (l:List Qaa) (o:Int):Bool:=x.before.all fun p=>!eqI p.x1 o||(visO x p.x0).all fun w=>l.any (isV w)
def QjP (x:Qab) (l:List Qaa) (v:Qaa):Bool:=!l.any (isV v)&&((QpJ v (visO x v.order)).all (fun w=>l.any (isV w))&&Qnt x l v.order)
def offN (x:Qab) (i:Nat):Bool:=match x.orders[i]? with
 | some o=>o.off
 | none=>true
def QkV (x:Qab) (m:Nat) (l:List Qaa):Nat→List Qaa
 | 0=>[]
 | n+1=>QkV x m l n++if (m.testBit n&&!offN x n)=true then (visO x (n:Int)).filter (QjP x l) else []
def QyF (x:Qab) (m:Nat) (l:List Qaa):Nat→List Qaa
 | 0=>[]
 | n+1=>QyF x m l n++if m.testBit n=true then (visO x (n:Int)).filter (fun v=>!l.any (isV v)) else []
structure QA1 (x:Qab) (l:List Qaa):Prop where
 nodup:l.Nodup
 inn:∀ v∈l,0≤v.order∧v.order<x.orders.length
section
variable {x : Qab} {l t : List Qaa} {m : Nat} {v w : Qaa}
theorem QcG {o:Int} (h:v∈visO x o):v.order=o:=by
 unfold visO at h
 split at h
 ·rcases List.mem_append.1 h with h|h <;> (split at h <;> simp at h; rw [h])
 ·cases h
theorem QAU {o:Int}:(visO x o).Pairwise fun a b=>ltV a b=true:=by
 unfold visO
 split
 ·split <;> split <;> simp [ltV]
 ·exact List.Pairwise.nil
theorem Qnq {n:Nat}:v∈QkV x m l n↔∃ i,i<n∧m.testBit i=true∧offN x i=false∧v∈visO x (i:Int)∧QjP x l v=true:=by
 induction n with
 | zero=>simp [QkV]
 | succ n ih =>
  unfold QkV
  rw [List.mem_append,ih]
  constructor
  ·rintro (⟨i,h1,h2⟩|h)
   ·exact ⟨i,by omega,h2⟩
   ·split at h
    ·rename_i hb
     simp only [Bool.and_eq_true,Bool.not_eq_true'] at hb
     obtain ⟨h1,h2⟩:=List.mem_filter.1 h
     exact ⟨n,by omega,hb.1,hb.2,h1,h2⟩
    ·cases h
  ·rintro ⟨i,h1,h2,h3,h4,h5⟩
   rcases Nat.lt_or_eq_of_le (Nat.le_of_lt_succ h1) with h|rfl
   ·exact .inl ⟨i,h,h2,h3,h4,h5⟩
   ·refine .inr ?_
    rw [if_pos (by rw [h2,h3]; rfl)]
    exact List.mem_filter.2 ⟨h4,h5⟩
theorem QD5:(!l.any (isV v))=true↔v ∉ l:=by rw [Bool.not_eq_true',Bool.eq_false_iff,Ne,Qrg]
theorem QxC {n:Nat}:v∈QyF x m l n↔∃ i,i<n∧m.testBit i=true∧v∈visO x (i:Int)∧(v∈l→False):=by
 induction n with
 | zero=>simp [QyF]
 | succ n ih =>
  unfold QyF
  rw [List.mem_append,ih]
  constructor
  ·rintro (⟨i,h1,h2⟩|h)
   ·exact ⟨i,by omega,h2⟩
   ·split at h
    ·rename_i hb
     obtain ⟨h1,h2⟩:=List.mem_filter.1 h
     exact ⟨n,by omega,hb,h1,QD5.1 h2⟩
    ·cases h
  ·rintro ⟨i,h1,h2,h3,h4⟩
   rcases Nat.lt_or_eq_of_le (Nat.le_of_lt_succ h1) with h|rfl
   ·exact .inl ⟨i,h,h2,h3,h4⟩
   ·refine .inr ?_
    rw [if_pos h2]
    exact List.mem_filter.2 ⟨h3,QD5.2 h4⟩
theorem Qts:∀ n,(QyF x m l n).Pairwise fun a b=>ltV a b=true
 | 0=>List.Pairwise.nil
 | n+1=>by
  unfold QyF
  rw [List.pairwise_append]
  refine ⟨Qts n,?_,fun a ha b hb=>?_⟩
  ·split
   ·exact QAU.sublist List.filter_sublist
   ·exact List.Pairwise.nil
  ·obtain ⟨i,h1,_,h2,_⟩:=QxC.1 ha
   split at hb
   ·have h3:=QcG h2
    have h4:=QcG (List.mem_filter.1 hb).1
    exact QD0.2 (.inl (by omega))
   ·cases hb
theorem QqQ (h:QjP x l v=true):v ∉ l:=by
 unfold QjP at h
 simp only [Bool.and_eq_true,Bool.not_eq_true'] at h
 intro hv
 rw [Qrg.2 hv] at h
 cases h.1
theorem QA1.add (h:QA1 x l) (hv:v ∉ l) (h0:0≤v.order∧v.order<x.orders.length):QA1 x (l++[v]):=by
 refine ⟨List.nodup_append.2 ⟨h.nodup,by simp,fun a ha b hb=>?_⟩,fun w hw=>?_⟩
 ·rw [List.mem_singleton.1 hb]; exact fun e=>hv (e ▸ ha)
 ·rcases List.mem_append.1 hw with hw|hw
  ·exact h.inn w hw
  ·rw [List.mem_singleton.1 hw]; exact h0
theorem QB4 (h:QA1 x l) (hv:v∈QkV x m l x.orders.length):QA1 x (l++[v]):=by
 obtain ⟨i,h1,_,_,h2,h3⟩:=Qnq.1 hv
 have:=QcG h2
 exact h.add (QqQ h3) (by omega)
theorem QA1.len (h:QA1 x l):l.length≤2*x.orders.length:=by
 have hm:(l.map fun v:Qaa=>2*v.order.toNat+(if v.drop=true then 1 else 0)).Nodup:=by
  unfold List.Nodup
  rw [List.pairwise_map]
  refine h.nodup.imp_of_mem fun {a b} ha hb hne he=>hne ?_
  have h1:=h.inn a ha
  have h2:=h.inn b hb
  cases a with
  | mk ao ad =>
   cases b with
   | mk bo bd =>
    simp only at h1 h2 he
    have hd:ad=bd∧ao=bo:=by
     cases ad <;> cases bd <;> simp at he ⊢ <;> omega
    rw [hd.1,hd.2]
 have:=QuH (2*x.orders.length) _ hm fun a ha=>by
  obtain ⟨v,hv,rfl⟩:=List.mem_map.1 ha
  have h1:=h.inn v hv
  split <;> omega
 simpa using this
theorem Qnf.good (h:Qnf x l):QA1 x l:=⟨h.nodup,fun v hv=>Qni h.inn hv⟩
theorem Qnf.all (h:Qnf x l) {o:Int} (ho:hasO l o=true) (hw:w∈visO x o):w∈l:=by
 obtain ⟨v,hv,rfl⟩:=Qhy.1 ho
 have hp:=h.pair v hv
 unfold Qwy at hp
 rw [Bool.and_eq_true] at hp
 have hr:=hp.2
 cases hvis:visO x v.order with
 | nil=>rw [hvis] at hw; cases hw
 | cons a r =>
  rw [hvis] at hr hw
  cases r with
  | nil =>
   simp only [rowB,Qqs] at hr
   rw [List.mem_singleton.1 hw]
   exact Qwj.1 hr
  | cons b r =>
   obtain ⟨rfl,_⟩:=Qpc hvis
   simp only [rowB,Qqs,Bool.and_eq_true,Qoi] at hr
   rcases List.mem_cons.1 hw with rfl|hw
   ·exact Qwj.1 hr.1
   ·rw [List.mem_singleton.1 hw]
    exact Qwj.1 (by omega)
theorem Qnf.own (h:Qnf x l) (hv:v∈l):v∈visO x v.order:=by
 have hp:=h.pair v hv
 unfold Qwy at hp
 rw [Bool.and_eq_true] at hp
 exact Qrg.1 hp.1
theorem QFf (h:(l++v :: t).Nodup):ixI (isV v) (l++v :: t)=(l.length:Int):=by
 have h0:=Qwj.2 (show v∈l++v :: t by simp)
 obtain ⟨k,hk⟩:∃ k:Nat,ixI (isV v) (l++v :: t)=k:=⟨(ixI (isV v) (l++v :: t)).toNat,by omega⟩
 obtain ⟨h1,h2⟩:=Qvu hk
 rw [hk]
 rcases Nat.lt_trichotomy k l.length with h3|h3|h3
 ·rw [List.getElem?_append_left h3] at h1
  exact absurd rfl ((List.nodup_append.1 h).2.2 v (List.mem_of_getElem? h1) v (by simp))
 ·rw [h3]
 ·exact absurd (by rw [List.getElem?_append_right (Nat.le_refl _)]; simp) (h2 l.length h3)
theorem QGG (h:ixI (isV w) (l++t)<(l.length:Int)) (h0:0≤ixI (isV w) (l++t)):w∈l:=by
 obtain ⟨k,hk⟩:∃ k:Nat,ixI (isV w) (l++t)=k:=⟨(ixI (isV w) (l++t)).toNat,by omega⟩
 obtain ⟨h1,_⟩:=Qvu hk
 rw [List.getElem?_append_left (by omega)] at h1
 exact List.mem_of_getElem? h1
theorem Qnf.head (h:Qnf x (l++v :: t)) (hw:w∈QpJ v (visO x v.order)):w∈l:=by
 have hp:=h.pair v (by simp)
 unfold Qwy at hp
 rw [Bool.and_eq_true] at hp
 obtain ⟨h1,hr⟩:=hp
 have hv:=Qrg.1 h1
 have hix:=QFf h.nodup
 cases hvis:visO x v.order with
 | nil=>rw [hvis] at hw; cases hw
 | cons a r =>
  rw [hvis] at hr hw hv
  cases r with
  | nil =>
   rw [QpJ,if_pos (List.mem_singleton.1 hv).symm] at hw
   cases hw
  | cons b r =>
   obtain ⟨rfl,hne⟩:=Qpc hvis
   by_cases ha:a=v
   ·rw [QpJ,if_pos ha] at hw; cases hw
   ·have hb:b=v:=by
     rcases List.mem_cons.1 hv with h|h
     ·exact absurd h.symm ha
     ·exact (List.mem_singleton.1 h).symm
    rw [QpJ,if_neg ha,QpJ,if_pos hb] at hw
    rw [List.mem_singleton.1 hw]
    simp only [rowB,Qqs,Bool.and_eq_true,Qoi] at hr
    rw [hb,hix] at hr
    exact QGG hr.2 hr.1
theorem QBj (h:Qnf x (l++v :: t)) {p:Qau} (hp:p∈x.before) (ho:p.x1=v.order) (hw:w∈visO x p.x0):w∈l:=by
 have hb:hasO (l++v :: t) p.x1=true:=Qhy.2 ⟨v,by simp,ho.symm⟩
 have h1:badB (l++v :: t) p=false:=by simpa using List.any_eq_false.1 h.before p hp
 unfold badB at h1
 rw [hb,Bool.true_and] at h1
 simp only [Bool.or_eq_false_iff,Bool.not_eq_false'] at h1
 obtain ⟨h2,h3⟩:=h1
 have hm:=h.all h2 hw
 rcases List.mem_append.1 hm with hm|hm
 ·exact hm
 ·exfalso
  unfold QA8 at h3
  cases e:ixP (isO p.x1) (l++v :: t) with
  | none =>
   have:=Qut e v (by simp)
   rw [Qwh.2 ho.symm] at this
   cases this
  | some k =>
   rw [e] at h3
   simp only at h3
   have hk:k≤l.length:=Nat.le_of_not_lt fun hlt=>by
    have:=(Qok e).2.2 l.length hlt
    rw [List.getElem_append_right (Nat.le_refl _)] at this
    simp only [Nat.sub_self,List.getElem_cons_zero] at this
    rw [Qwh.2 ho.symm] at this
    cases this
   have:hasO ((l++v :: t).drop k) p.x0=true:=Qhy.2 ⟨w,by rw [List.drop_append_of_le_length hk]; exact List.mem_append_right _ hm,QcG hw⟩
   rw [this] at h3
   cases h3
theorem Qnf.ready (h:Qnf x (l++v :: t)):QjP x l v=true:=by
 unfold QjP
 have hn:v ∉ l:=fun hv=>(List.nodup_append.1 h.nodup).2.2 v hv v (by simp) rfl
 have e1:l.any (isV v)=false:=by rw [Bool.eq_false_iff,Ne,Qrg]; exact hn
 rw [e1,Bool.not_false,Bool.true_and,Bool.and_eq_true,List.all_eq_true]
 refine ⟨fun w hw=>Qrg.2 (h.head hw),?_⟩
 unfold Qnt
 rw [List.all_eq_true]
 intro p hp
 by_cases ho:p.x1=v.order
 ·rw [Bool.or_eq_true]
  exact .inr (List.all_eq_true.2 fun w hw=>Qrg.2 (QBj h hp ho hw))
 ·rw [Bool.or_eq_true]
  exact .inl (by simpa using ho)
theorem Qz5 (h:Qnf x (l++v :: t)) (hm:∀ i:Nat,m.testBit i=hasO (l++v :: t) (i:Int)):v∈QkV x m l x.orders.length:=by
 have hv:v∈l++v :: t:=by simp
 have hin:=Qni h.inn hv
 obtain ⟨n,hn⟩:∃ n:Nat,v.order=n:=⟨v.order.toNat,by omega⟩
 have hoff:=List.any_eq_false.1 h.off v hv
 refine Qnq.2 ⟨n,by omega,?_,?_,?_,h.ready⟩
 ·rw [hm,← hn]; exact Qhy.2 ⟨v,hv,rfl⟩
 ·unfold offV at hoff
  unfold offN
  rw [hn,Int.toNat_natCast] at hoff
  rw [List.getElem?_eq_getElem (show n<x.orders.length by omega)] at hoff ⊢
  simpa using hoff
 ·rw [← hn]; exact h.own hv
theorem QD4 (h:Qnf x l) (hm:∀ i:Nat,m.testBit i=hasO l (i:Int)) (n:Nat):QkV x m l n=[]:=by
 refine List.eq_nil_iff_forall_not_mem.2 fun v hv=>?_
 obtain ⟨i,_,h1,_,h2,h3⟩:=Qnq.1 hv
 rw [hm] at h1
 exact QqQ h3 (h.all h1 h2)
end
end Go.Proofs.YtfjiafgldchinaaGreatDoor
namespace Go.Proofs.YtfjiafgldchinaaGreatDoor
set_option linter.unusedSimpArgs false
set_option linter.unusedVariables false
set_option linter.unusedSectionVars false
theorem Qrq {α E:Type} {l:List α} (hl:l.length≤1048576) (p:α→Bool) (N:List α→E) {B:List α×Int→Option ((List α×Int)⊕E)} (s0:List α)
  (hin:∀ (s:List α) (i:Nat) (a:α),l[i]?=some a→s.length≤s0.length+i→B (s,(i:Int))=some (.inl (if p a=true then s++[a] else s,(i:Int)+1)))
  (hend:∀ s,B (s,(l.length:Int))=some (.inr (N s))):QaK B (s0,0)=some (N (s0++l.filter p)):=by
 rw [Qz0 (B:=B) hl (fun s a=>.inl (if p a=true then s++[a] else s)) N (fun i s=>s.length≤s0.length+i) (fun s i a h hi=>⟨hin s i a h hi,fun s' h'=>by
  cases h'
  split
  ·simp; omega
  ·omega⟩) (fun s _=>hend s) (Nat.le_refl _)]
 congr 1
 have key:∀ (l s:List α),QBC (fun s a=>(.inl (if p a=true then s++[a] else s):List α⊕E)) N s l=N (s++l.filter p):=by
  intro l
  induction l with
  | nil=>intro s; simp [QBC]
  | cons a r ih =>
   intro s
   rw [QBD rfl,ih,List.filter_cons]
   split <;> simp
 exact key l s0
section
variable {x : Qab} {l : List Qaa} {m : Nat} {v : Qaa}
theorem QFe {a:Qaa}:(eqI a.order v.order&&(eqB a.drop v.drop&&true))=isV v a:=by
 rw [Bool.eq_iff_iff,Qxl]; cases v; cases a; simp
theorem Qy7 {r:List Qaa}:(!r.any (fun a=>ltI (ixI (isV a) l) 0))=r.all (fun w=>l.any (isV w)):=by
 rw [List.all_eq_not_any_not]
 congr 1
 congr 1
 funext a
 rw [QvB,Qqr]
theorem QCJ:∀ {r:List Qaa},(match ixP (fun a=>isV v a||!l.any (isV a)) r with
  | some k=>(match r[k]? with|some a=>if isV v a=true then (.inl ():Unit⊕Bool) else .inr false|none=>.inl ())
  | none=>.inl ())=if (QpJ v r).all (fun w=>l.any (isV w))=true then .inl () else .inr false
 | []=>rfl
 | a :: r=>by
  unfold ixP QpJ
  by_cases ha:isV v a=true
  ·rw [if_pos (by rw [ha]; rfl),if_pos (Qxl.1 ha)]
   simp only [List.getElem?_cons_zero]
   rw [if_pos ha]
   rfl
  ·rw [if_neg (show ¬ a=v from fun h=>ha (Qxl.2 h))]
   by_cases hl:l.any (isV a)=true
   ·rw [if_neg (by rw [hl]; simpa using ha),List.all_cons,hl,Bool.true_and,← QCJ (r:=r)]
    cases ixP (fun a=>isV v a||!l.any (isV a)) r <;> rfl
   ·rw [if_pos (by simp [hl])]
    simp only [List.getElem?_cons_zero]
    rw [if_neg ha,List.all_cons,if_neg (by simp [hl])]
theorem QEc (hx:QaV x) (hl:l.length≤1048576) (h0:0≤v.order) (h1:v.order<x.orders.length):Qh0 x l v=some (QjP x l v):=by
 unfold Qh0 QjP
 rw [QuO hl,Qaj,Qqr]
 cases hv:l.any (isV v) with
 | true=>rfl
 | false =>
  rw [Qca,Qsy hx h0 h1,Qaj,Bool.not_false,Bool.true_and]
  have h2:=QiO (x:=x) (o:=v.order)
  have l1:=QAz (B:=fun s=>Qcl x l v (visO x v.order) s) (l:=visO x v.order) (by omega) (fun a=>isV v a||!l.any (isV a)) (fun k=>(match (visO x v.order)[k]? with|some a=>if isV v a=true then (.inl ():Unit⊕Bool) else .inr false|none=>.inl ())) (N:=.inl ()) (fun i a h=>by
   show Qcl x l v (visO x v.order) i=_
   unfold Qcl
   rw [Qbz h,QFe,QuO hl,Qaj,QvB,Qqr,incL h (by omega),h]
   cases hv:isV v a with
   | true=>rw [if_pos (by rfl)]; simp only [hv]; rfl
   | false =>
    cases hq:l.any (isV a) with
    | true=>rfl
    | false=>rw [if_pos (by rfl)]; simp only [hv]; rfl) (by
   show Qcl x l v (visO x v.order) (visO x v.order).length=_
   unfold Qcl
   rw [Qa4])
  have l1':QaK (fun s=>Qcl x l v (visO x v.order) s) 0=some (if (QpJ v (visO x v.order)).all (fun w=>l.any (isV w))=true then .inl () else .inr false):=l1.trans (congrArg some QCJ)
  rw [l1',Qaj]
  by_cases hh:(QpJ v (visO x v.order)).all (fun w=>l.any (isV w))=true
  ·rw [if_pos hh,Qdm,hh,Bool.true_and]
   have hb:=hx.before
   have l2:=Qcv (B:=fun s=>Qcm x l v s) (l:=x.before) (by omega) (fun p=>!(!eqI p.x1 v.order||(visO x p.x0).all fun w=>l.any (isV w))) (y:=(.inr false:Unit⊕Bool)) (N:=.inl ()) (fun i p h=>by
    obtain ⟨p0,p1,p2,p3,p4⟩:=hx.befores p (List.mem_of_getElem? h)
    show Qcm x l v i=_
    unfold Qcm
    rw [Qbz h,incL h (by omega)]
    have hne:neI p.x1 v.order=!eqI p.x1 v.order:=rfl
    rw [hne]
    cases eqI p.x1 v.order with
    | false=>rfl
    | true =>
     rw [Bool.not_true,Qca,Qsy hx p0 p1,Qaj,Bool.false_or]
     have h3:=QiO (x:=x) (o:=p.x0)
     have l3:=Qcv (B:=fun s=>QcJ x l v i (visO x p.x0) s) (l:=visO x p.x0) (by omega) (fun w=>ltI (ixI (isV w) l) 0) (y:=(.inr false:Unit⊕Bool)) (N:=.inl ()) (fun j w hw=>by
      show QcJ x l v i (visO x p.x0) j=_
      unfold QcJ
      rw [Qbz hw,QuO hl,Qaj,incL hw (by omega),brs]) (by
      show QcJ x l v i (visO x p.x0) (visO x p.x0).length=_
      unfold QcJ
      rw [Qa4])
     rw [QbW l3,← Qy7]
     cases (visO x p.x0).any (fun w=>ltI (ixI (isV w) l) 0) <;> rfl) (by
    show Qcm x l v x.before.length=_
    unfold Qcm
    rw [Qa4])
   rw [QbW l2]
   unfold Qnt
   rw [List.all_eq_not_any_not]
   cases x.before.any (fun p=>!(!eqI p.x1 v.order||(visO x p.x0).all fun w=>l.any (isV w))) <;> rfl
  ·rw [if_neg hh,Qm6]
   rw [Bool.eq_false_iff.2 hh,Bool.false_and]
theorem Qnr:∀ n,(QkV x m l n).length≤2*n
 | 0=>Nat.le_refl _
 | n+1=>by
  have h1:=Qnr n
  unfold QkV
  rw [List.length_append]
  split
  ·have h2:=List.length_filter_le (QjP x l) (visO x (n:Int))
   have h3:=QiO (x:=x) (o:=(n:Int))
   omega
  ·simp; omega
theorem QEU {i:Nat} (hm:m<1024) (hi:i≤62):eqI (andK .i64 (shrK .i64 (m:Int) (i:Int)) 1) 0=!m.testBit i:=by
 rw [shrN (by omega),show (1:Int)=((1:Nat):Int) from rfl]
 have hd:=Nat.div_le_self m (2 ^ i)
 rw [andN (by omega) (by omega),Nat.and_one_is_mod,Nat.testBit_eq_decide_div_mod_eq]
 generalize m / 2 ^ i=q
 rw [Bool.eq_iff_iff,QrZ,Bool.not_eq_true',decide_eq_false_iff_not]
 omega
theorem QEK (hx:QaV x) (hl:l.length≤1048576) (hm:m<1024):QjS x (m:Int) l=some (QkV x m l x.orders.length):=by
 have h10:=hx.orders
 unfold QjS
 have this:QaK (fun q:List Qaa×Int=>QcF x (m:Int) l q.1 q.2) ([],0)=some (QkV x m l x.orders.length):=Qep x.orders.length (fun k=>(QkV x m l k,(k:Int))) (B:=fun q:List Qaa×Int=>QcF x (m:Int) l q.1 q.2) (e:=QkV x m l x.orders.length) (by omega) (fun k hk=>by
  obtain ⟨o,ho⟩:∃ o,x.orders[k]?=some o:=⟨_,List.getElem?_eq_getElem hk⟩
  show QcF x (m:Int) l (QkV x m l k) (k:Int)=_
  have hlen:=Qnr (x:=x) (m:=m) (l:=l) k
  unfold QcF
  rw [Qbz ho,QaW (by simp; omega),QcL (by omega),QEU hm (by omega),incL ho (by omega)]
  have hoff:offN x k=o.off:=by unfold offN; rw [ho]
  show _=some (Sum.inl (QkV x m l k++(if (m.testBit k&&!offN x k)=true then _ else _),((k+1:Nat):Int)))
  rw [hoff]
  cases hb:m.testBit k with
  | false=>simp
  | true =>
   cases hf:o.off with
   | true=>simp
   | false =>
    rw [Bool.not_true,Bool.false_or,Qca,Qsy hx (by omega) (by omega),Qaj]
    have h2:=QiO (x:=x) (o:=(k:Int))
    rw [QbW (Qrq (B:=fun q:List Qaa×Int=>Qc5 x (m:Int) l (k:Int) (visO x (k:Int)) q.1 q.2) (l:=visO x (k:Int)) (by omega) (QjP x l) id (QkV x m l k) (fun s i a h hs=>by
     have ha:=QcG (List.mem_of_getElem? h)
     show Qc5 x (m:Int) l (k:Int) (visO x (k:Int)) s i=_
     unfold Qc5
     rw [Qbz h,QEc hx hl (by omega) (by omega),Qaj,incL h (by omega),QcL (Qek (by have:=(List.getElem?_eq_some_iff.1 h).1; simp; omega)),brs]
     split <;> rfl) (fun s=>by
     show Qc5 x (m:Int) l (k:Int) (visO x (k:Int)) s (visO x (k:Int)).length=_
     unfold Qc5
     rw [Qa4]; rfl))]
    simp) (by
  show QcF x (m:Int) l (QkV x m l x.orders.length) (x.orders.length:Int)=_
  unfold QcF
  rw [Qa4])
 rw [QbW this]
theorem QvJ (hx:QaV x) (hl:l.length≤1048576) (o:Int):Qfa x o l=some (Qnt x l o):=by
 have hb:=hx.before
 unfold Qfa
 rw [QbW (Qcv (B:=fun s=>Qb9 x o l s) (l:=x.before) (by omega) (fun p=>!(!eqI p.x1 o||(visO x p.x0).all fun w=>l.any (isV w))) (y:=(.inr false:Unit⊕Bool)) (N:=.inl ()) (fun i p h=>by
  obtain ⟨p0,p1,p2,p3,p4⟩:=hx.befores p (List.mem_of_getElem? h)
  show Qb9 x o l i=_
  unfold Qb9
  rw [Qbz h,incL h (by omega)]
  cases eqI p.x1 o with
  | false=>rfl
  | true =>
   rw [QcK,QaW (by simp [lenI]; omega),Qmo hx p0 p1,Qaj,QlI hl QiO,Qaj,Qy7]
   cases (visO x p.x0).all (fun w=>l.any (isV w)) <;> rfl) (by
  show Qb9 x o l x.before.length=_
  unfold Qb9
  rw [Qa4]))]
 unfold Qnt
 rw [List.all_eq_not_any_not]
 cases x.before.any (fun p=>!(!eqI p.x1 o||(visO x p.x0).all fun w=>l.any (isV w))) <;> rfl
theorem Qsx (hx:QaV x) (hl:l.length≤1048576) (hm:m<1024):QeS x (m:Int) l=some (QkV x m l x.orders.length):=by
 have h10:=hx.orders
 unfold QeS
 have this:QaK (fun q:List Qaa×Int=>QbY x (m:Int) l q.1 q.2) ([],0)=some (QkV x m l x.orders.length):=Qep x.orders.length (fun k=>(QkV x m l k,(k:Int))) (B:=fun q:List Qaa×Int=>QbY x (m:Int) l q.1 q.2) (e:=QkV x m l x.orders.length) (by omega) (fun k hk=>by
  obtain ⟨o,ho⟩:∃ o,x.orders[k]?=some o:=⟨_,List.getElem?_eq_getElem hk⟩
  show QbY x (m:Int) l (QkV x m l k) (k:Int)=_
  have hlen:=Qnr (x:=x) (m:=m) (l:=l) k
  unfold QbY
  rw [Qbj (by simp [lenI]; omega),Qrn (by omega) (by omega) (by omega),Qaj,QaR ho,Qaj,QvJ hx hl,Qaj,Qmo hx (by omega) (by omega),Qaj,incL ho (by omega),Int.toNat_natCast]
  have hoff:offN x k=o.off:=by unfold offN; rw [ho]
  show _=some (Sum.inl (QkV x m l k++(if (m.testBit k&&!offN x k)=true then _ else _),((k+1:Nat):Int)))
  rw [hoff]
  cases hb:m.testBit k with
  | false=>simp
  | true =>
   cases hf:o.off with
   | true=>simp
   | false =>
    rw [QcK,Qca]
    cases hr:Qnt x l (k:Int) with
    | false =>
     rw [Qca]
     have:(visO x (k:Int)).filter (QjP x l)=[]:=by
      rw [List.filter_eq_nil_iff]
      intro a ha
      unfold QjP
      rw [QcG ha,hr]
      simp
     simp [this]
    | true =>
     rw [QcK]
     have h2:=QiO (x:=x) (o:=(k:Int))
     rw [QbW (Qrq (B:=fun q:List Qaa×Int=>Qcr x (m:Int) l (k:Int) (visO x (k:Int)) q.1 q.2) (l:=visO x (k:Int)) (by omega) (QjP x l) id (QkV x m l k) (fun s i a h hs=>by
      have ha:=QcG (List.mem_of_getElem? h)
      have hi:=(List.getElem?_eq_some_iff.1 h).1
      show Qcr x (m:Int) l (k:Int) (visO x (k:Int)) s i=_
      unfold Qcr
      have hok:okN (s++[a]).length 16:=Qek (by simp; omega)
      rw [Qbz h,Qk1 hl,Qaj,incL h (by omega),QcL hok,QvB,Qqr]
      try rw [QcL hok]
      have hrv:QjP x l a=(!l.any (isV a)&&(QpJ a (visO x (k:Int))).all (fun w=>l.any (isV w))):=by
       unfold QjP
       rw [ha,hr,Bool.and_true]
      rw [hrv]
      cases l.any (isV a) with
      | true=>rfl
      | false =>
       rw [Bool.not_false,QcK,Bool.true_and]
       cases hvis:visO x (k:Int) with
       | nil=>rw [hvis] at h; simp at h
       | cons c r =>
        rw [hvis] at h
        cases i with
        | zero =>
         simp at h
         subst h
         rw [QpJ,if_pos rfl]
         rfl
        | succ i =>
         cases r with
         | nil=>simp at h
         | cons d r =>
          obtain ⟨rfl,hne⟩:=Qpc hvis
          cases i with
          | succ i=>simp at h
          | zero =>
           simp at h
           subst h
           rw [QpJ,if_neg hne,QpJ,if_pos rfl,List.all_cons,List.all_nil,Bool.and_true]
           show br false _ (bnd (some c) fun x3=>bnd (Qbr l x3) fun r4=>_)=_
           rw [Qca,Qaj,Qk1 hl,Qaj,Qqr]
           cases l.any (isV c) <;> rfl) (fun s=>by
      show Qcr x (m:Int) l (k:Int) (visO x (k:Int)) s (visO x (k:Int)).length=_
      unfold Qcr
      rw [Qa4]; rfl))]
     simp) (by
  show QbY x (m:Int) l (QkV x m l x.orders.length) (x.orders.length:Int)=_
  unfold QbY
  rw [QaW (by simp [lenI])])
 rw [QbW this]
end
end Go.Proofs.YtfjiafgldchinaaGreatDoor
namespace Go.Proofs.YtfjiafgldchinaaGreatDoor
set_option linter.unusedSimpArgs false
set_option linter.unusedVariables false
set_option linter.unusedSectionVars false
def inS (m:Nat) (i:Int):Bool:=decide (0≤i)&&m.testBit i.toNat
def memS (m:Nat):Nat→List Int
 | 0=>[]
 | n+1=>memS m n++(if m.testBit n=true then [(n:Int)] else [])
section
variable {m : Nat}
theorem Qvs {k:Nat}:inS m (k:Int)=m.testBit k:=by simp [inS]
theorem tb63 (hm:m<9223372036854775808) {i:Nat} (hi:63≤i):m.testBit i=false :=
 Nat.testBit_lt_two_pow (Nat.lt_of_lt_of_le hm (show 2 ^ 63≤2 ^ i from Nat.pow_le_pow_right (by omega) hi))
theorem bitA (hm:m<9223372036854775808) {k:Nat} (hk:k≤62):eqI (andK .i64 (shrK .i64 (m:Int) (k:Int)) 1) 1=m.testBit k:=by
 rw [shrN (by omega)]
 have h1:m / 2 ^ k≤m:=Nat.div_le_self ..
 rw [show (1:Int)=((1:Nat):Int) from rfl,andN (by omega) (by omega),Nat.and_one_is_mod,Nat.testBit_eq_decide_div_mod_eq]
 generalize m / 2 ^ k=q
 unfold eqI
 rw [Bool.eq_iff_iff,beq_iff_eq,decide_eq_true_eq]
 omega
theorem Qva (hm:m<9223372036854775808) (i:Int):QbV (m:Int) i=some (inS m i):=by
 unfold QbV
 by_cases h:0≤i∧i≤62
 ·obtain ⟨k,rfl⟩:∃ k:Nat,i=k:=⟨i.toNat,by omega⟩
  rw [Qbj (by simp; omega),QcL (by omega),bitA hm (by omega),Qvs]
 ·rw [QaW (by rw [Bool.and_eq_false_iff,Qys,QEB]; omega)]
  unfold inS
  by_cases h0:0≤i
  ·rw [tb63 hm (by omega)]; simp
  ·simp [h0]
theorem quoN {a b:Nat} (ha:a<9223372036854775808):quoK .i64 (a:Int) (b:Int)=((a / b:Nat):Int):=by
 have h1:(a:Int).tdiv (b:Int)=((a / b:Nat):Int):=by rw [Int.tdiv_eq_ediv_of_nonneg (by omega)]; rfl
 have h2:a / b≤a:=Nat.div_le_self ..
 generalize a / b=q at h1 h2
 rw [quoI (by rw [h1]; omega) (by rw [h1]; omega),h1]
theorem QrC:∀ n,(memS m n).length≤n
 | 0=>Nat.le_refl 0
 | n+1=>by have:=QrC n; unfold memS; split <;> simp <;> omega
theorem QuE {i:Int}:∀ {n:Nat},i∈memS m n↔∃ k:Nat,i=k∧k<n∧m.testBit k=true
 | 0=>by simp [memS]
 | n+1=>by
  unfold memS
  rw [List.mem_append,QuE]
  constructor
  ·rintro (⟨k,h1,h2,h3⟩|h)
   ·exact ⟨k,h1,by omega,h3⟩
   ·split at h
    ·rename_i hb; exact ⟨n,by simpa using h,by omega,hb⟩
    ·cases h
  ·rintro ⟨k,rfl,h2,h3⟩
   rcases Nat.lt_or_eq_of_le (Nat.le_of_lt_succ h2) with h|rfl
   ·exact .inl ⟨k,rfl,h,h3⟩
   ·exact .inr (by rw [if_pos h3]; simp)
theorem QuC {n0:Nat} (h:m<2 ^ n0):∀ {n:Nat},n0≤n→memS m n=memS m n0
 | 0,hn=>by rw [Nat.le_zero.1 hn]
 | n+1,hn=>by
  rcases Nat.lt_or_eq_of_le hn with h1|rfl
  ·rw [memS,QuC h (Nat.le_of_lt_succ h1),if_neg (by rw [Nat.testBit_lt_two_pow (Nat.lt_of_lt_of_le h (Nat.pow_le_pow_right (by omega) (Nat.le_of_lt_succ h1)))]; decide),List.append_nil]
  ·rfl
theorem QvD (hm:m<9223372036854775808):QfE (m:Int)=some (memS m 63):=by
 unfold QfE
 have this:QaK (fun q:List Int×Int=>Qbf (m:Int) q.1 q.2) ([],0)=some (memS m 63):=Qep 63 (fun k=>(memS m k,(k:Int))) (B:=fun q:List Int×Int=>Qbf (m:Int) q.1 q.2) (by omega) (fun k hk=>by
  show Qbf (m:Int) (memS m k) (k:Int)=_
  have:=QrC (m:=m) k
  unfold Qbf
  rw [Qbj (by simp; omega),Qva hm,Qaj,Qvs,addI (by omega) (by omega),QcL (by unfold okN; simp; omega),brs]
  show _=some (Sum.inl (memS m k++(if m.testBit k=true then [(k:Int)] else []),((k+1:Nat):Int)))
  split <;> simp) (by
  show Qbf (m:Int) (memS m 63) ((63:Nat):Int)=_
  unfold Qbf
  rw [QaW (by decide)])
 rw [QbW this]
end
end Go.Proofs.YtfjiafgldchinaaGreatDoor
namespace Go.Proofs.YtfjiafgldchinaaGreatDoor
set_option linter.unusedSimpArgs false
set_option linter.unusedVariables false
set_option linter.unusedSectionVars false
def qL (a:Qad):Qaq:=Qaq.mk a.type_ a.visits a.place a.time a.driven a.miles a.load a.done a.open_
def QEf (t:Qag) (l:Qad):Qad:=Qad.mk l.type_ l.visits l.place (l.time+t.rest_) 0 l.miles l.load l.done l.open_
def QwU (t:Qag) (l:Qad):List Qad:=[l,QEf t l]
noncomputable def ablB (t:Qag) (s:Int):Bool:=match QfJ t s with
 | some b=>b
 | none=>false
def skO (x:Qab) (i:Nat):Int:=match x.orders[i]? with
 | some o=>o.skills
 | none=>0
def Qa7 (x:Qab) (kind:Int):Qag:=x.types.getD kind.toNat QGD
def QyC (x:Qab) (m:Nat):Bool:=!x.apart.any (fun p=>inS m p.x0&&inS m p.x1)&&!x.before.any (fun p=>inS m p.x1&&!inS m p.x0)
def QED (x:Qab) (m:Nat):Bool:=(memS m x.orders.length).any fun i=>offN x i.toNat
noncomputable def QEr (x:Qab) (t:Qag) (m:Nat):Bool:=(memS m x.orders.length).any fun i=>!ablB t (skO x i.toNat)
noncomputable def mayB (x:Qab) (kind:Int) (m:Nat):Bool:=decide (0≤kind∧kind<x.types.length∧0<m∧m<2 ^ x.orders.length)&&(!QED x m&&(QyC x m&&!QEr x (Qa7 x kind) m))
def Qyz (x:Qab) (m:Nat):Nat→Nat
 | 0=>0
 | n+1=>Qyz x m n ||| (if (m.testBit n&&pk0 x n)=true then 2 ^ n else 0)
def stL (x:Qab) (m:Nat) (k d:Nat):Int:=sumF (stO x d) ((memS m x.orders.length).take k)
def Qu5 (x:Qab) (kind:Int) (m:Nat):Qad :=
 Qad.mk kind [] (Qa7 x kind).from_ (Qa7 x kind).open_ 0 0 (vecN (Qdc x.types) fun d=>sumF (stO x d) (memS m x.orders.length)) 0 (Qyz x m x.orders.length:Nat)
noncomputable def Qh2 (x:Qab) (kind:Int) (m:Nat):List Qad :=
 if mayB x kind m=true then (if Qsq (Qa7 x kind).cap (Qu5 x kind m).load=true then [] else QwU (Qa7 x kind) (Qu5 x kind m)) else []
section
variable {x : Qab} {m : Nat} {kind : Int} {t : Qag}
theorem QCp {s:Int} (ht:0≤t.skills∧t.skills≤1073741823) (hs:0≤s∧s≤1073741823):QfJ t s=some (ablB t s)∧QcU t s=some (ablB t s):=by
 obtain ⟨b,h1,h2⟩:=QEN ht hs
 unfold ablB
 rw [h1]
 exact ⟨rfl,h2⟩
theorem QwQ (h0:0≤kind) (h1:kind<x.types.length):getI x.types kind=some (Qa7 x kind)∧Qa7 x kind∈x.types:=by
 unfold Qa7
 rw [Qr0 h0 h1,List.getD_eq_getElem?_getD,List.getElem?_eq_getElem (by omega)]
 exact ⟨rfl,List.getElem_mem _⟩
theorem QxO (i:Nat):∀ n,(Qyz x m n).testBit i=(decide (i<n)&&(m.testBit i&&pk0 x i))
 | 0=>by simp [Qyz]
 | n+1=>by
  unfold Qyz
  rw [Nat.testBit_or,QxO i n]
  by_cases hi:i=n
  ·subst hi
   by_cases hc:(m.testBit i&&pk0 x i)=true
   ·rw [if_pos hc,hc]; simp
   ·rw [if_neg hc]; simp at hc ⊢; exact hc
  ·have h1:(if (m.testBit n&&pk0 x n)=true then 2 ^ n else 0).testBit i=false:=by
    split
    ·rw [Nat.testBit_two_pow]; simp; omega
    ·simp
   rw [h1,Bool.or_false]
   have h2:decide (i<n+1)=decide (i<n):=by rw [Bool.eq_iff_iff]; simp; omega
   rw [h2]
theorem Qwu:∀ n,Qyz x m n<2 ^ n
 | 0=>by simp [Qyz]
 | n+1=>by
  have h1:=Qwu n
  have h2:2 ^ n<2 ^ (n+1):=Nat.pow_lt_pow_right (by omega) (by omega)
  unfold Qyz
  refine Nat.or_lt_two_pow (by omega) ?_
  split
  ·exact h2
  ·exact Nat.pow_pos (by omega)
theorem QCU {n k:Nat} {i:Int} (h:(memS m n)[k]?=some i):∃ j:Nat,i=j∧j<n∧m.testBit j=true∧(memS m n).take k=memS m j∧(memS m n).take (k+1)=memS m (j+1):=by
 induction n with
 | zero=>simp [memS] at h
 | succ n ih =>
  have e:memS m (n+1)=memS m n++(if m.testBit n=true then [(n:Int)] else []):=rfl
  rw [e] at h ⊢
  rcases Nat.lt_or_ge k (memS m n).length with hk|hk
  ·rw [List.getElem?_append_left hk] at h
   obtain ⟨j,h1,h2,h3,h4,h5⟩:=ih h
   refine ⟨j,h1,by omega,h3,?_,?_⟩
   ·rw [List.take_append_of_le_length (by omega)]; exact h4
   ·rw [List.take_append_of_le_length (by omega)]; exact h5
  ·rw [List.getElem?_append_right hk] at h
   split at h
   ·rename_i hb
    have h0:k-(memS m n).length=0:=by
     have:=(List.getElem?_eq_some_iff.1 h).1
     simp at this; omega
    rw [h0] at h
    have hk':k=(memS m n).length:=by omega
    simp at h
    subst hk'
    refine ⟨n,h.symm,by omega,hb,?_,?_⟩
    ·simp
    ·rw [← e]; exact List.take_of_length_le (by rw [e,if_pos hb]; simp)
   ·simp at h
def opL (x:Qab) (l:List Int):Nat:=l.foldl (fun a i=>if pk0 x i.toNat=true then a ||| 2 ^ i.toNat else a) 0
theorem Qwt {l:List Int} {i:Int}:opL x (l++[i])=if pk0 x i.toNat=true then opL x l ||| 2 ^ i.toNat else opL x l:=by simp [opL]
theorem Qws:∀ n,opL x (memS m n)=Qyz x m n
 | 0=>rfl
 | n+1=>by
  have ih:=Qws n
  unfold memS Qyz
  cases hb:m.testBit n with
  | false=>simp [ih]
  | true =>
   rw [if_pos rfl,Qwt,Int.toNat_natCast,ih]
   cases hp:pk0 x n <;> simp
theorem QFA (hx:QaV x) {d:Nat} {k:Nat}:0≤stL x m k d∧stL x m k d≤10000:=by
 have h:=Qx5 (f:=stO x d) (l:=(memS m x.orders.length).take k) fun a _=>QFz hx d a
 have h1:=QrC (m:=m) x.orders.length
 have h2:=hx.orders
 rw [List.length_take] at h
 unfold stL
 omega
theorem QDM (hx:QaV x) {s:Int} (hs:Qyu s):Qmt x s=some (decide (0<s∧s<((2 ^ x.orders.length:Nat):Int))&&!QED x s.toNat):=by
 have h10:=hx.orders
 have hp:2 ^ x.orders.length≤2 ^ 10:=Nat.pow_le_pow_right (by omega) h10
 unfold Qmt
 by_cases h0:s≤0
 ·rw [Qbj (by simpa using h0),show decide (0<s∧s<((2 ^ x.orders.length:Nat):Int))=false by simp; omega]; rfl
 rw [QaW (by simpa using h0),show (lenI x.orders)=((x.orders.length:Nat):Int) from rfl,cvuN (by omega),QcL (by omega),shlN (by omega)]
 by_cases h1:¬ s<((2 ^ x.orders.length:Nat):Int)
 ·rw [Qbj (by simp only [Qqs]; omega),show decide (0<s∧s<((2 ^ x.orders.length:Nat):Int))=false by simp only [decide_eq_false_iff_not]; omega]; rfl
 rw [Decidable.not_not] at h1
 rw [QaW (by simp only [Qys]; omega)]
 obtain ⟨n,rfl⟩:∃ n:Nat,s=n:=⟨s.toNat,by omega⟩
 have hn:n<2 ^ x.orders.length:=by omega
 rw [QvD (by omega),Qaj,QuC hn (by omega),show decide (0<(n:Int)∧(n:Int)<((2 ^ x.orders.length:Nat):Int))=true by simp only [decide_eq_true_eq]; omega,Bool.true_and,Int.toNat_natCast]
 have hl:=QrC (m:=n) x.orders.length
 rw [QbW (Qcv (B:=fun s=>QdX x (memS n x.orders.length) s) (l:=memS n x.orders.length) (by omega) (fun i=>offN x i.toNat) (y:=(.inr false:Unit⊕Bool)) (N:=.inl ()) (fun i a h=>by
  obtain ⟨j,rfl,h2,_⟩:=QCU h
  obtain ⟨o,e,_⟩:=QuJ hx h2
  show QdX x (memS n x.orders.length) i=_
  unfold QdX
  rw [Qbz h,QaR e,Qaj,incL h (by omega),brs,Int.toNat_natCast]
  unfold offN; rw [e]) (by
  show QdX x (memS n x.orders.length) (memS n x.orders.length).length=_
  unfold QdX
  rw [Qa4]))]
 unfold QED
 cases (memS n x.orders.length).any fun i=>offN x i.toNat <;> rfl
theorem Qz1 (hx:QaV x) (hm:m<9223372036854775808):Qk4 x (m:Int)=some (QyC x m):=by
 have ha:=hx.apart
 have hb:=hx.before
 unfold Qk4
 rw [QbW (Qcv (B:=fun s=>Qdo x (m:Int) s) (l:=x.apart) (by omega) (fun p=>inS m p.x0&&inS m p.x1) (y:=(.inr false:Unit⊕Bool)) (N:=.inl ()) (fun i a h=>by
  show Qdo x (m:Int) i=_
  unfold Qdo
  rw [Qbz h,Qva hm,Qaj,Qva hm,Qaj,incL h (by omega)]
  cases inS m a.x0 <;> cases inS m a.x1 <;> rfl) (by
  show Qdo x (m:Int) x.apart.length=_
  unfold Qdo
  rw [Qa4]))]
 unfold QyC
 by_cases h1:(x.apart.any fun p=>inS m p.x0&&inS m p.x1)=true
 ·rw [if_pos h1,h1]; rfl
 have h1':(x.apart.any fun p=>inS m p.x0&&inS m p.x1)=false:=by simpa using h1
 rw [if_neg h1,Qdm,h1',QbW (Qcv (B:=fun s=>QcT x (m:Int) s) (l:=x.before) (by omega) (fun p=>inS m p.x1&&!inS m p.x0) (y:=(.inr false:Unit⊕Bool)) (N:=.inl ()) (fun i a h=>by
  show QcT x (m:Int) i=_
  unfold QcT
  rw [Qbz h,Qva hm,Qaj,Qva hm,Qaj,incL h (by omega)]
  cases inS m a.x1 <;> cases inS m a.x0 <;> rfl) (by
  show QcT x (m:Int) x.before.length=_
  unfold QcT
  rw [Qa4]))]
 cases (x.before.any fun p=>inS m p.x1&&!inS m p.x0) <;> rfl
theorem QC8 {l:Qad} (h:0≤l.time∧l.time≤1000000) (ht:0≤t.rest_∧t.rest_≤4096):Qk5 t l=some (QwU t l):=by
 unfold Qk5 QwU QEf
 rw [addI (by omega) (by omega)]
theorem QwS (hx:QaV x) (h0:0≤kind) (h1:kind<x.types.length):QDf x.net.places.length (Qdc x.types) (Qa7 x kind):=hx.typ _ (QwQ h0 h1).2
theorem QCj {D:Nat}:List.replicate D (0:Int)=vecN D fun _=>0:=by
 refine List.ext_getElem? fun i=>?_
 rcases Nat.lt_or_ge i D with h|h
 ·rw [QfG h]; simp [h]
 ·rw [List.getElem?_eq_none (by simp; omega),List.getElem?_eq_none (by rw [QdV]; omega)]
theorem QAK {k:Nat} {i:Int} {d:Nat} (h:(memS m x.orders.length)[k]?=some i):stL x m (k+1) d=stL x m k d+stO x d i:=Qx6 h
theorem QGC (hx:QaV x) {i:Nat} (hi:i<x.orders.length):0≤skO x i∧skO x i≤1073741823:=by
 obtain ⟨o,e,hm,_⟩:=QuJ hx hi
 unfold skO
 rw [e]
 exact (hx.ord o hm).skills
end
end Go.Proofs.YtfjiafgldchinaaGreatDoor
namespace Go.Proofs.YtfjiafgldchinaaGreatDoor
set_option linter.unusedSimpArgs false
set_option linter.unusedVariables false
set_option linter.unusedSectionVars false
section
variable {x : Qab} {m : Nat} {kind : Int} {t : Qag}
theorem Qyx (hx:QaV x) (h0:0≤kind) (h1:kind<x.types.length) (hm:m<2 ^ x.orders.length) :
  QaK (fun s:Int×Int×List Int×Int×Int=>Qfo x kind (Qa7 x kind) (List.replicate (Qdc x.types) 0) (memS m x.orders.length) s.1 s.2.1 s.2.2.1 s.2.2.2.1 s.2.2.2.2) ((Qa7 x kind).open_,(Qa7 x kind).open_,List.replicate (Qdc x.types) 0,0,0) =
   some (if QEr x (Qa7 x kind) m=true then .inr [] else .inl ((Qa7 x kind).open_,(Qa7 x kind).open_,vecN (Qdc x.types) (fun d=>sumF (stO x d) (memS m x.orders.length)),((Qyz x m x.orders.length:Nat):Int))):=by
 have hT:=QwS hx h0 h1
 have hD:=QsU hx
 have h10:=hx.orders
 have hp:2 ^ x.orders.length≤2 ^ 10:=Nat.pow_le_pow_right (by omega) h10
 have hlen:=QrC (m:=m) x.orders.length
 generalize hTT:Qa7 x kind=T at hT ⊢
 apply post.eq
 refine Qct (fun s:Int×Int×List Int×Int×Int=>∃ k:Nat,s=(T.open_,T.open_,vecN (Qdc x.types) (stL x m k),((opL x ((memS m x.orders.length).take k):Nat):Int),(k:Int))∧k≤(memS m x.orders.length).length∧∀ a∈(memS m x.orders.length).take k,ablB T (skO x a.toNat)=true)
  (fun s=>(memS m x.orders.length).length-s.2.2.2.2.toNat) ⟨0,by rw [QCj]; rfl,Nat.zero_le _,fun a h=>by simp at h⟩ (by simp; omega) ?_
 rintro _ ⟨k,rfl,hk,hab⟩
 show post (Qfo x kind T (List.replicate (Qdc x.types) 0) (memS m x.orders.length) T.open_ T.open_ (vecN (Qdc x.types) (stL x m k)) ((opL x ((memS m x.orders.length).take k):Nat):Int) (k:Int)) _
 unfold Qfo
 rcases Nat.lt_or_ge k (memS m x.orders.length).length with h|h
 ·have e:(memS m x.orders.length)[k]?=some (memS m x.orders.length)[k]:=List.getElem?_eq_getElem h
  generalize (memS m x.orders.length)[k]=i at e
  obtain ⟨j,rfl,j1,j2,j3,j4⟩:=QCU e
  obtain ⟨o,o1,o2,o3,o4,o5⟩:=QuJ hx j1
  have hsk:skO x j=o.skills:=by unfold skO; rw [o1]
  have hso:=QGC hx j1
  rw [Qbz e,QaR o1,Qaj,← hsk]
  have hab1:QfJ (Qag.mk T.name T.count T.from_ T.to_ T.cap T.skills T.profile T.open_ T.close T.drive T.rest_ T.fixed T.perMile T.perTick) (skO x j)=some (ablB T (skO x j)):=(QCp hT.skills hso).1
  rw [hab1,Qaj]
  have hopl:opL x ((memS m x.orders.length).take k)<1024:=by
   rw [j3,Qws]
   have h1:=Qwu (x:=x) (m:=m) j
   have h2:2 ^ j≤2 ^ 10:=Nat.pow_le_pow_right (by omega) (by omega)
   omega
  refine QaE (fun hb=>?_) (fun hb=>?_)
  ·have hnext:∀ a∈(memS m x.orders.length).take (k+1),ablB T (skO x a.toNat)=true:=fun a ha=>by
    rw [take_one e] at ha
    rcases List.mem_append.1 ha with ha|ha
    ·exact hab a ha
    ·rw [List.mem_singleton.1 ha,Int.toNat_natCast]; exact hb
   refine QaE (fun hpk=>?_) (fun hpk=>?_)
   ·have hp0:pk0 x j=true:=by rw [o5]; simpa using hpk
    have hb1:∀ d,-4000000000≤stL x m k d∧stL x m k d≤4000000000:=fun d=>by have:=QFA hx (m:=m) (d:=d) (k:=k); omega
    have h2:2 ^ j≤2 ^ 9:=Nat.pow_le_pow_right (by omega) (by omega)
    rw [o3,QEH hD.2 (fun d _=>hb1 d) (fun d _=>by have:=o4 d; omega),Qaj,cvuN (by omega),QcL (by omega),shlN (by omega),orN (by omega) (by omega),incL e (by omega)]
    refine Qc4 ⟨⟨k+1,?_,h,hnext⟩,by simp; omega⟩
    have e1:opL x ((memS m x.orders.length).take (k+1))=opL x ((memS m x.orders.length).take k) ||| 2 ^ j:=by rw [take_one e,Qwt,Int.toNat_natCast,if_pos hp0]
    have e2:vecN (Qdc x.types) (stL x m (k+1))=vecN (Qdc x.types) (fun d=>stL x m k d+QsF x j d):=Qgy fun d _=>by
     rw [QAK e]; unfold stO; rw [Int.toNat_natCast,if_pos hp0]
    rw [e1,e2]; rfl
   ·have hp0:pk0 x j=false:=by rw [o5]; simpa using hpk
    rw [incL e (by omega)]
    refine Qc4 ⟨⟨k+1,?_,h,hnext⟩,by simp; omega⟩
    have e1:opL x ((memS m x.orders.length).take (k+1))=opL x ((memS m x.orders.length).take k):=by rw [take_one e,Qwt,Int.toNat_natCast,hp0]; simp
    have e2:vecN (Qdc x.types) (stL x m (k+1))=vecN (Qdc x.types) (stL x m k):=Qgy fun d _=>by
     rw [QAK e]; unfold stO; rw [Int.toNat_natCast,hp0]; simp
    rw [e1,e2]; rfl
  ·have:QEr x T m=true:=List.any_eq_true.2 ⟨(j:Int),List.mem_of_getElem? e,by rw [Int.toNat_natCast,hb]; rfl⟩
   rw [if_pos this]
   exact Qcg rfl
 ·obtain rfl:k=(memS m x.orders.length).length:=by omega
  rw [Qa4]
  rw [List.take_length] at hab ⊢
  have:QEr x T m=false:=by
   unfold QEr
   rw [List.any_eq_false]
   intro a ha
   rw [hab a ha]; decide
  rw [if_neg (by rw [this]; decide),Qws]
  refine Qcg ?_
  congr 4
  refine Qgy fun d _=>?_
  unfold stL
  rw [List.take_length]
theorem QBR (hx:QaV x) {s:Int} (hs:Qyu s):QkU x kind s=some (Qh2 x kind s.toNat):=by
 have h10:=hx.orders
 have hp:2 ^ x.orders.length≤2 ^ 10:=Nat.pow_le_pow_right (by omega) h10
 have hD:=QsU hx
 unfold QkU Qh2 mayB
 by_cases hk:¬ (0≤kind∧kind<x.types.length)
 ·rw [Qbj (by rw [Bool.or_eq_true,Qoi,Qqs,lenI]; omega),decide_eq_false (by omega)]; rfl
 obtain ⟨h0,h1⟩:=Decidable.not_not.1 hk
 rw [QaW (by rw [Bool.or_eq_false_iff,QoX,Qys,lenI]; omega),QDM hx hs,Qaj]
 by_cases hs0:¬ (0<s∧s<((2 ^ x.orders.length:Nat):Int))
 ·rw [QaW (by rw [decide_eq_false hs0]; rfl),decide_eq_false (by omega)]; rfl
 have hs1:=Decidable.not_not.1 hs0
 obtain ⟨m,rfl⟩:∃ m:Nat,s=m:=⟨s.toNat,by omega⟩
 rw [decide_eq_true hs1,Bool.true_and,Int.toNat_natCast,decide_eq_true (by omega),Bool.true_and]
 have hm:m<2 ^ x.orders.length:=by omega
 cases QED x m with
 | true=>rfl
 | false =>
  rw [Bool.not_false,QcK,Qz1 hx (by omega),Qaj,Bool.true_and]
  cases QyC x m with
  | false=>rfl
  | true =>
   obtain ⟨t1,t2⟩:=QwQ h0 h1
   have hT:=QwS hx h0 h1
   rw [QcK,t1,Qaj,Bool.true_and]
   have hmk:mkI (lenI (Qa7 x kind).cap) (lenI (Qa7 x kind).cap) 8 (0:Int)=some (List.replicate (Qdc x.types) 0):=by
    unfold mkI lenI
    rw [hT.cap,if_pos (by omega)]; rfl
   rw [hmk,Qaj,QvD (by omega),Qaj,QuC hm (by omega),QbW (Qyx hx h0 h1 hm)]
   cases hu:QEr x (Qa7 x kind) m with
   | true=>rfl
   | false =>
    rw [if_neg (by decide),Qdm,Bool.not_false,if_pos rfl]
    have hL:vecN (Qdc x.types) (fun d=>sumF (stO x d) (memS m x.orders.length))=(Qu5 x kind m).load:=rfl
    have hlen:(Qu5 x kind m).load.length=(Qa7 x kind).cap.length:=by rw [← hL,QdV,hT.cap]
    rw [hL]
    show bnd (QhB (Qu5 x kind m).load (Qa7 x kind).cap) _=_
    rw [(Qvn hlen (by rw [← hL,QdV]; omega)).1,Qaj]
    cases Qsq (Qa7 x kind).cap (Qu5 x kind m).load with
    | true=>rfl
    | false =>
     rw [Bool.not_false,QcK,if_neg (by decide)]
     have ho:=hT.opn
     have hc:=hT.close
     exact QbW (QC8 (l:=Qu5 x kind m) (by show 0≤(Qa7 x kind).open_∧(Qa7 x kind).open_≤1000000; omega) hT.rest)
end
end Go.Proofs.YtfjiafgldchinaaGreatDoor
namespace Go.Proofs.YtfjiafgldchinaaGreatDoor
set_option linter.unusedSimpArgs false
set_option linter.unusedVariables false
set_option linter.unusedSectionVars false
structure LbI (x:Qab) (l:Qad):Prop where
 ty:0≤l.type_∧l.type_<x.types.length
 vis:l.visits.length≤100
 time:(Qa7 x l.type_).open_≤l.time∧l.time≤12288
 driven:0≤l.driven∧l.driven≤4096
 miles:0≤l.miles∧l.miles≤10000*l.visits.length
 load:∃ f:Nat→Int,l.load=vecN (Qdc x.types) f∧∀ d,-(10000+1000*(l.visits.length:Int))≤f d∧f d≤10000+1000*(l.visits.length:Int)
 done:∃ n:Nat,l.done=n∧n<1024
 open_:∃ n:Nat,l.open_=n∧n<1024
def Qxj (l:Qad):Nat:=l.done.toNat ||| l.open_.toNat
def QBt (l:Qad) (v:Qaa) (p:Qau):Bool:=(eqI p.x0 v.order&&inS (Qxj l) p.x1)||(eqI p.x1 v.order&&inS (Qxj l) p.x0)
def QBS (l:Qad) (v:Qaa) (p:Qau):Bool:=eqI p.x1 v.order&&!(inS l.done.toNat p.x0&&!inS l.open_.toNat p.x0)
noncomputable def fitB (x:Qab) (l:Qad) (v:Qaa):Bool :=
 !offN x v.order.toNat&&(ablB (Qa7 x l.type_) (skO x v.order.toNat)&&((if v.drop=true then inS l.open_.toNat v.order else !inS l.done.toNat v.order)&&(!x.apart.any (QBt l v)&&(inS l.done.toNat v.order||!x.before.any (QBS l v)))))
def arvL (x:Qab) (l:Qad) (place:Int):Int×Int×Int:=goN x.net (Qa7 x l.type_).profile l.place place l.time
def QyJ (x:Qab) (l:Qad) (st:Qar):Bool:=neI (arvL x l st.place).2.2 0||gtI (l.driven+(arvL x l st.place).1-l.time) (Qa7 x l.type_).drive||gtI (arvL x l st.place).1 st.close
def Qwm (x:Qab) (l:Qad) (v:Qaa):List Int:=vecN (Qdc x.types) fun d=>if v.drop=true then l.load.getD d 0-QsF x v.order.toNat d else l.load.getD d 0+QsF x v.order.toNat d
def Qvl (x:Qab) (i:Nat):Bool:=match x.orders[i]? with
 | some o=>geI o.drop.place 0
 | none=>false
def Qz8 (x:Qab) (l:Qad) (v:Qaa):Nat :=
 if v.drop=true then l.open_.toNat ^^^ 2 ^ v.order.toNat else if Qvl x v.order.toNat=true then l.open_.toNat ||| 2 ^ v.order.toNat else l.open_.toNat
def QB3 (x:Qab) (l:Qad) (v:Qaa) (st:Qar):Qad :=
 Qad.mk l.type_ (l.visits++[v]) st.place (max (arvL x l st.place).1 st.open_+st.service) (l.driven+(arvL x l st.place).1-l.time) (l.miles+(arvL x l st.place).2.1) (Qwm x l v) ((l.done.toNat ||| 2 ^ v.order.toNat:Nat):Int) ((Qz8 x l v:Nat):Int)
noncomputable def extL (x:Qab) (l:Qad) (v:Qaa):List Qad:=match Qq7 x v with
 | none=>[]
 | some st=>if fitB x l v=true then (if QyJ x l st=true then [] else if Qsq (Qa7 x l.type_).cap (Qwm x l v)=true then [] else QwU (Qa7 x l.type_) (QB3 x l v st)) else []
section
variable {x : Qab} {l : Qad} {v : Qaa} {st : Qar} {m : Nat}
theorem QwR (hx:QaV x) (h:LbI x l):getI x.types l.type_=some (Qa7 x l.type_)∧QDf x.net.places.length (Qdc x.types) (Qa7 x l.type_):=⟨(QwQ h.ty.1 h.ty.2).1,QwS hx h.ty.1 h.ty.2⟩
theorem LbI.t0 (hx:QaV x) (h:LbI x l):0≤l.time∧l.time≤12288:=by
 have h1:=(QwR hx h).2.opn
 have h2:=h.time
 omega
theorem Qy6 {a i:Nat} (ha:a<1024) (hi:i≤62) (h:a.testBit i=true):QpI .i64 (a:Int) ((2 ^ i:Nat):Int)=((a ^^^ 2 ^ i:Nat):Int):=by
 show IntKind.i64.wrap (((BitVec.ofInt 64 (a:Int) &&& ~~~BitVec.ofInt 64 ((2 ^ i:Nat):Int)).toNat:Nat):Int)=_
 rw [BitVec.ofInt_natCast,BitVec.ofInt_natCast]
 have hle:(BitVec.ofNat 64 a &&& ~~~BitVec.ofNat 64 (2 ^ i)).toNat<9223372036854775808:=by
  rw [BitVec.toNat_and,BitVec.toNat_ofNat,Nat.mod_eq_of_lt (by omega)]
  exact Nat.lt_of_le_of_lt Nat.and_le_left (by omega)
 rw [QFG hle]
 congr 1
 apply Nat.eq_of_testBit_eq
 intro j
 rw [BitVec.testBit_toNat,BitVec.getLsbD_and,BitVec.getLsbD_not,BitVec.getLsbD_ofNat,BitVec.getLsbD_ofNat,Nat.testBit_xor,Nat.testBit_two_pow]
 rcases Nat.lt_or_ge j 64 with hj|hj
 ·by_cases hij:i=j
  ·subst hij; simp [hj,h]
  ·simp [hj,hij]
 ·have h1:a.testBit j=false:=Nat.testBit_lt_two_pow (Nat.lt_of_lt_of_le (show a<2 ^ 10 by omega) (Nat.pow_le_pow_right (by omega) (by omega)))
  have:i≠j:=by omega
  simp [h1,this]
theorem QGn {a i:Nat} (ha:a<1024) (hi:i<10):a ^^^ 2 ^ i<1024:=Nat.xor_lt_two_pow (n:=10) ha (Nat.pow_lt_pow_right (by omega) hi)
theorem QGz {a i:Nat} (ha:a<1024) (hi:i<10):a ||| 2 ^ i<1024:=Nat.or_lt_two_pow (n:=10) ha (Nat.pow_lt_pow_right (by omega) hi)
theorem QAM (h:Qq7 x v=some st):0≤v.order∧v.order<x.orders.length:=by
 unfold Qq7 at h
 split at h
 ·cases h
 ·rename_i o ho
  split at ho
  ·rename_i h0
   have:=(List.getElem?_eq_some_iff.1 ho).1
   omega
  ·cases ho
theorem Qvd {α:Type} (hx:QaV x) {B:Int→Option (Int⊕(Unit⊕Bool))} (hB:∀ (i:Nat) (a:Qau),x.apart[i]?=some a→B (i:Int)=br (eqI a.x0 v.order) (br (inS (Qxj l) a.x1) (some (.inr (.inr false))) (br (eqI a.x1 v.order) (br (inS (Qxj l) a.x0) (some (.inr (.inr false))) (some (.inl ((i:Int)+1)))) (some (.inl ((i:Int)+1))))) (br (eqI a.x1 v.order) (br (inS (Qxj l) a.x0) (some (.inr (.inr false))) (some (.inl ((i:Int)+1)))) (some (.inl ((i:Int)+1)))))
  (hend:B (x.apart.length:Int)=some (.inr (.inl ()))):QaK B 0=some (if x.apart.any (QBt l v)=true then .inr false else .inl ()):=by
 have ha:=hx.apart
 refine Qcv (by omega) (QBt l v) (fun i a h=>?_) hend
 rw [hB i a h]
 unfold QBt
 cases eqI a.x0 v.order <;> cases eqI a.x1 v.order <;> cases inS (Qxj l) a.x1 <;> cases inS (Qxj l) a.x0 <;> rfl
theorem Qt6 {α:Type} (hx:QaV x) {B:Int→Option (Int⊕(Unit⊕Bool))} (hB:∀ (i:Nat) (a:Qau),x.before[i]?=some a→B (i:Int)=br (eqI a.x1 v.order) (br (inS l.done.toNat a.x0) (br (inS l.open_.toNat a.x0) (some (.inr (.inr false))) (some (.inl ((i:Int)+1)))) (some (.inr (.inr false)))) (some (.inl ((i:Int)+1))))
  (hend:B (x.before.length:Int)=some (.inr (.inl ()))):QaK B 0=some (if x.before.any (QBS l v)=true then .inr false else .inl ()):=by
 have ha:=hx.before
 refine Qcv (by omega) (QBS l v) (fun i a h=>?_) hend
 rw [hB i a h]
 unfold QBS
 cases eqI a.x1 v.order <;> cases inS l.done.toNat a.x0 <;> cases inS l.open_.toNat a.x0 <;> rfl
theorem QCb (hx:QaV x) (h:LbI x l) (hv:0≤v.order∧v.order<x.orders.length):Qmw x l v=some (fitB x l v):=by
 have ha:=hx.apart
 have hb:=hx.before
 obtain ⟨t1,hT⟩:=QwR hx h
 obtain ⟨dn,hdn,hdn2⟩:=h.done
 obtain ⟨op,hop,hop2⟩:=h.open_
 obtain ⟨j,hj⟩:∃ j:Nat,v.order=j:=⟨v.order.toNat,by omega⟩
 obtain ⟨o,o1,o2,o3,o4,o5⟩:=QuJ hx (i:=j) (by omega)
 have hsk:skO x j=o.skills:=by unfold skO; rw [o1]
 have hoff:offN x j=o.off:=by unfold offN; rw [o1]
 have hor:orK .i64 l.done l.open_=((Qxj l:Nat):Int):=by
  unfold Qxj; rw [hdn,hop,orN (by omega) (by omega)]; simp
 have hhere:Qxj l<9223372036854775808:=by
  have:=Nat.or_lt_two_pow (n:=10) hdn2 hop2
  unfold Qxj; rw [hdn,hop]; simp only [Int.toNat_natCast]; omega
 have eD:∀ i,QbV l.done i=some (inS l.done.toNat i):=fun i=>by rw [hdn]; exact Qva (by omega) i
 have eO:∀ i,QbV l.open_ i=some (inS l.open_.toNat i):=fun i=>by rw [hop]; exact Qva (by omega) i
 have eH:∀ i,QbV (orK .i64 l.done l.open_) i=some (inS (Qxj l) i):=fun i=>by rw [hor]; exact Qva hhere i
 unfold Qmw fitB
 rw [show v.order.toNat=j by omega,hj,QaR o1,Qaj,hoff]
 cases o.off with
 | true=>rfl
 | false =>
  rw [Qca,t1,Qaj,← hsk,(QCp hT.skills (QGC hx (by omega))).1,Qaj,Bool.not_false,Bool.true_and]
  cases ablB (Qa7 x l.type_) (skO x j) with
  | false=>rfl
  | true =>
   rw [QcK,Bool.true_and]
   have L1:QaK (fun s=>Qdp x l v o s) 0=some (if x.apart.any (QBt l v)=true then .inr false else .inl ()):=Qvd (α:=Unit) (B:=fun s=>Qdp x l v o s) hx (fun i a e=>by
    show Qdp x l v o i=_
    unfold Qdp
    rw [Qbz e,eH,eH,Qaj,Qaj,incL e (by omega)]) (by
    show Qdp x l v o x.apart.length=_
    unfold Qdp
    rw [Qa4])
   have L2:QaK (fun s=>Qc0 x l v o s) 0=some (if x.before.any (QBS l v)=true then .inr false else .inl ()):=Qt6 (α:=Unit) (B:=fun s=>Qc0 x l v o s) hx (fun i a e=>by
    show Qc0 x l v o i=_
    unfold Qc0
    rw [Qbz e,eD,eO,Qaj,Qaj,incL e (by omega)]) (by
    show Qc0 x l v o x.before.length=_
    unfold Qc0
    rw [Qa4])
   have L3:QaK (fun s=>Qdq x l v o s) 0=some (if x.apart.any (QBt l v)=true then .inr false else .inl ()):=Qvd (α:=Unit) (B:=fun s=>Qdq x l v o s) hx (fun i a e=>by
    show Qdq x l v o i=_
    unfold Qdq
    rw [Qbz e,eH,eH,Qaj,Qaj,incL e (by omega)]) (by
    show Qdq x l v o x.apart.length=_
    unfold Qdq
    rw [Qa4])
   have L4:QaK (fun s=>Qc1 x l v o s) 0=some (if x.before.any (QBS l v)=true then .inr false else .inl ()):=Qt6 (α:=Unit) (B:=fun s=>Qc1 x l v o s) hx (fun i a e=>by
    show Qc1 x l v o i=_
    unfold Qc1
    rw [Qbz e,eD,eO,Qaj,Qaj,incL e (by omega)]) (by
    show Qc1 x l v o x.before.length=_
    unfold Qc1
    rw [Qa4])
   rw [← hj] at *
   cases hd:v.drop with
   | true =>
    rw [QcK,eO,Qaj,if_pos rfl]
    cases inS l.open_.toNat v.order with
    | false=>rfl
    | true =>
     rw [QcK,QbW L1,Bool.true_and]
     cases x.apart.any (QBt l v) with
     | true=>rfl
     | false =>
      rw [if_neg (by decide),Qdm,eD,Qaj,Bool.not_false,Bool.true_and]
      cases inS l.done.toNat v.order with
      | true=>rfl
      | false =>
       rw [Qca,QbW L2]
       cases x.before.any (QBS l v) <;> rfl
   | false =>
    rw [Qca,eD,Qaj,if_neg (by decide)]
    cases hdd:inS l.done.toNat v.order with
    | true=>rfl
    | false =>
     rw [Qca,QbW L3,Bool.not_false,Bool.true_and]
     cases x.apart.any (QBt l v) with
     | true=>rfl
     | false =>
      rw [if_neg (by decide),Qdm,Qaj,Qca,QbW L4]
      cases x.before.any (QBS l v) <;> rfl
end
end Go.Proofs.YtfjiafgldchinaaGreatDoor
namespace Go.Proofs.YtfjiafgldchinaaGreatDoor
set_option linter.unusedSimpArgs false
set_option linter.unusedVariables false
set_option linter.unusedSectionVars false
section
variable {x : Qab} {l : Qad} {v : Qaa} {st : Qar} {m : Nat}
theorem QAO (hx:QaV x) (h:Qq7 x v=some st):SOK st:=by
 obtain ⟨h1,h2,h3,h4,h5,h6,h7⟩:=QAN hx h
 exact ⟨h3,h4,h5,h6,h7⟩
theorem QyY (hs:SOK st) {a:Int} (h0:0≤a) (ha:a≤1048576):QjV st a=some (if st.close<a then (0,14) else (max a st.open_+st.service,0))∧QjX st a=some (if st.close<a then (0,14) else (max a st.open_+st.service,0)):=by
 have h1:=hs.open0; have h2:=hs.open1; have h3:=hs.close; have h4:=hs.serv0; have h5:=hs.serv1
 constructor
 ·unfold QjV Qnz
  rw [Qxz,QCu]
  simp only [Qwg]
  by_cases h:st.close<a
  ·rw [if_pos (by omega),if_pos h,Qaj,Qbj (by decide)]
  ·rw [if_neg (by omega),if_neg h,Qaj]
   show br (neI 0 0) _ (some (addK .i64 (max a st.open_) st.service,0))=_
   rw [QaW (by decide),addI (by omega) (by omega)]
 ·unfold QjX QoB
  by_cases h:st.close<a
  ·rw [Qbj (by simpa using h),if_pos h,Qaj,Qbj (by decide)]
  ·rw [QaW (by simpa using h),if_neg h]
   by_cases h6:a<st.open_
   ·rw [Qbj (by simpa using h6),Qaj]
    show br (neI 0 0) _ (some (addK .i64 st.open_ st.service,0))=_
    rw [QaW (by decide),addI (by omega) (by omega)]
    congr 2; omega
   ·rw [QaW (by simpa using h6),Qaj]
    show br (neI 0 0) _ (some (addK .i64 a st.service,0))=_
    rw [QaW (by decide),addI (by omega) (by omega)]
    congr 2; omega
theorem Qzj {l:List Qaa}:cpyL (List.replicate l.length (Qaa.mk 0 false)) l=l:=by simp [cpyL,cpyN]
theorem QCO (hx:QaV x) (h:LbI x l):l.load=vecN (Qdc x.types) (fun d=>l.load.getD d 0)∧∀ d,-(10000+1000*(l.visits.length:Int))≤l.load.getD d 0∧l.load.getD d 0≤10000+1000*(l.visits.length:Int):=by
 obtain ⟨f,hf,hb⟩:=h.load
 have hg:∀ d,d<Qdc x.types→l.load.getD d 0=f d:=fun d hd=>by rw [hf,List.getD_eq_getElem?_getD,QfG hd]; rfl
 refine ⟨?_,fun d=>?_⟩
 ·rw [hf]; exact Qgy fun d hd=>by rw [List.getD_eq_getElem?_getD,QfG hd]; rfl
 ·rcases Nat.lt_or_ge d (Qdc x.types) with hd|hd
  ·rw [hg d hd]; exact hb d
  ·rw [hf,List.getD_eq_getElem?_getD,List.getElem?_eq_none (by rw [QdV]; omega)]
   show -(10000+1000*(l.visits.length:Int))≤0∧(0:Int)≤_
   omega
theorem QzS (hx:QaV x) (h:LbI x l) (hv:0≤v.order∧v.order<x.orders.length):Qk3 x l v=some (Qwm x l v):=by
 have hD:=QsU hx
 have h100:=h.vis
 obtain ⟨j,hj⟩:∃ j:Nat,v.order=j:=⟨v.order.toNat,by omega⟩
 obtain ⟨o,o1,o2,o3,o4,o5⟩:=QuJ hx (i:=j) (by omega)
 obtain ⟨l1,l2⟩:=QCO hx h
 have hb:∀ d,d<Qdc x.types→-4000000000≤l.load.getD d 0∧l.load.getD d 0≤4000000000:=fun d _=>by have:=l2 d; omega
 have hb2:∀ d,d<Qdc x.types→-4000000000≤QsF x j d∧QsF x j d≤4000000000:=fun d _=>by have:=o4 d; omega
 unfold Qk3 Qwm
 rw [show v.order.toNat=j by omega,hj,QaR o1,Qaj,Qaj,o3]
 cases v.drop with
 | true =>
  rw [QcK]
  have:=QFW hD.2 hb hb2
  rw [← l1] at this
  rw [this,Qaj]
  simp
 | false =>
  rw [Qca]
  have:=QEH hD.2 hb hb2
  rw [← l1] at this
  rw [this,Qaj]
  simp
theorem Qxr:(Qwm x l v).length=Qdc x.types:=QdV
theorem QE3 (hx:QaV x) (h:LbI x l) (hs:Qq7 x v=some st) (hns:QyJ x l st=false) :
  (arvL x l st.place).2.2=0∧l.time≤(arvL x l st.place).1∧(arvL x l st.place).1≤st.close∧0≤(arvL x l st.place).2.1∧(arvL x l st.place).2.1≤10000∧l.driven+(arvL x l st.place).1-l.time≤(Qa7 x l.type_).drive:=by
 have ht:=h.t0 hx
 unfold QyJ at hns
 simp only [Bool.or_eq_false_iff,QvF,Qqt] at hns
 have:=QtT hx.net (profile:=(Qa7 x l.type_).profile) (a:=l.place) (b:=st.place) (t:=l.time) ⟨ht.1,by omega⟩ hns.1.1
 unfold arvL at *
 omega
theorem Qwq (hx:QaV x) (h:LbI x l) (h99:l.visits.length≤99) (hs:Qq7 x v=some st) (hf:fitB x l v=true) (hns:QyJ x l st=false):LbI x (QB3 x l v st)∧LbI x (QEf (Qa7 x l.type_) (QB3 x l v st)):=by
 have ht:=h.t0 hx
 obtain ⟨t1,hT⟩:=QwR hx h
 have ho:=hT.opn
 have hr:=hT.rest
 have hdr:=hT.drive
 have h10:=hx.orders
 obtain ⟨g1,g2,g3,g4,g5,g6⟩:=QE3 hx h hs hns
 have hS:=QAO hx hs
 have s1:=hS.open0; have s2:=hS.open1; have s3:=hS.close; have s4:=hS.serv0; have s5:=hS.serv1
 have hd:=h.driven
 have hm:=h.miles
 have htime:=h.time
 have hv:=QAM hs
 obtain ⟨j,hj⟩:∃ j:Nat,v.order=j:=⟨v.order.toNat,by omega⟩
 obtain ⟨dn,hdn,hdn2⟩:=h.done
 obtain ⟨op,hop,hop2⟩:=h.open_
 have hj9:v.order.toNat<10:=by omega
 have l2:=(QCO hx h).2
 have hload:∃ f:Nat→Int,Qwm x l v=vecN (Qdc x.types) f∧∀ d,-(10000+1000*((l.visits++[v]).length:Int))≤f d∧f d≤10000+1000*((l.visits++[v]).length:Int):=by
  refine ⟨_,rfl,fun d=>?_⟩
  have:=l2 d
  have:=Qwn hx v.order.toNat d
  rw [List.length_append,List.length_singleton]
  split <;> omega
 have hdone:∃ n:Nat,((l.done.toNat ||| 2 ^ v.order.toNat:Nat):Int)=n∧n<1024:=⟨_,rfl,QGz (by rw [hdn,Int.toNat_natCast]; exact hdn2) hj9⟩
 have hopen:∃ n:Nat,((Qz8 x l v:Nat):Int)=n∧n<1024:=⟨_,rfl,by
  have:l.open_.toNat<1024:=by rw [hop,Int.toNat_natCast]; exact hop2
  unfold Qz8
  split
  ·exact QGn this hj9
  ·split
   ·exact QGz this hj9
   ·exact this⟩
 have hlen:(l.visits++[v]).length=l.visits.length+1:=by simp
 constructor
 ·exact ⟨h.ty,by show (l.visits++[v]).length≤100; omega,by show _≤max _ _+_∧max _ _+_≤(12288:Int); exact ⟨Int.le_trans htime.1 (by omega),by omega⟩,by show 0≤l.driven+(arvL x l st.place).1-l.time∧l.driven+(arvL x l st.place).1-l.time≤(4096:Int); omega,by show 0≤l.miles+(arvL x l st.place).2.1∧l.miles+(arvL x l st.place).2.1≤10000*((l.visits++[v]).length:Int); omega,hload,hdone,hopen⟩
 ·exact ⟨h.ty,by show (l.visits++[v]).length≤100; omega,by show _≤max _ _+_+(Qa7 x l.type_).rest_∧max _ _+_+(Qa7 x l.type_).rest_≤(12288:Int); exact ⟨Int.le_trans htime.1 (by omega),by omega⟩,by show (0:Int)≤0∧(0:Int)≤4096; omega,by show 0≤l.miles+(arvL x l st.place).2.1∧l.miles+(arvL x l st.place).2.1≤10000*((l.visits++[v]).length:Int); omega,hload,hdone,hopen⟩
theorem QBc (hx:QaV x) (h:LbI x l) (h99:l.visits.length≤99):QiB x l v=some (extL x l v):=by
 have ht:=h.t0 hx
 have hd:=h.driven
 have hm:=h.miles
 obtain ⟨t1,hT⟩:=QwR hx h
 have hD:=QsU hx
 have hr:=hT.rest
 unfold QiB extL
 rw [QaW (by rw [Bool.or_eq_false_iff,QoX,Qys,lenI]; have:=h.ty; omega),QvG,Qaj]
 cases hs:Qq7 x v with
 | none =>
  simp only
  rw [Qbj (by split <;> rfl)]
 | some st =>
  have hv:=QAM hs
  simp only
  rw [QaW (by decide),QCb hx h hv,Qaj]
  cases hf:fitB x l v with
  | false=>rfl
  | true =>
   rw [QcK,if_pos rfl,t1,Qaj,go_eq hx.net _ _ _ ⟨ht.1,by omega⟩,Qaj]
   have hg:goN x.net (Qa7 x l.type_).profile l.place st.place l.time=arvL x l st.place:=rfl
   rw [hg]
   have hsl:((neI (arvL x l st.place).2.2 0||gtI (subK .i64 (addK .i64 l.driven (arvL x l st.place).1) l.time) (Qa7 x l.type_).drive)||gtI (arvL x l st.place).1 st.close)=QyJ x l st:=by
    unfold QyJ
    cases h0:neI (arvL x l st.place).2.2 0 with
    | true=>simp
    | false =>
     rw [QvF] at h0
     have:=QtT hx.net (profile:=(Qa7 x l.type_).profile) (a:=l.place) (b:=st.place) (t:=l.time) ⟨ht.1,by omega⟩ h0
     rw [hg] at this
     rw [addI (by omega) (by omega),subI (by omega) (by omega)]
   rw [hsl]
   cases hns:QyJ x l st with
   | true=>rfl
   | false =>
    obtain ⟨g1,g2,g3,g4,g5,g6⟩:=QE3 hx h hs hns
    have hS:=QAO hx hs
    have s1:=hS.open0; have s2:=hS.open1; have s3:=hS.close; have s4:=hS.serv0; have s5:=hS.serv1
    obtain ⟨j,hj⟩:∃ j:Nat,v.order=j:=⟨v.order.toNat,by omega⟩
    obtain ⟨o,o1,o2,o3,o4,o5⟩:=QuJ hx (i:=j) (by omega)
    obtain ⟨dn,hdn,hdn2⟩:=h.done
    obtain ⟨op,hop,hop2⟩:=h.open_
    have h10:=hx.orders
    have h2j:2 ^ j≤2 ^ 9:=Nat.pow_le_pow_right (by omega) (by omega)
    rw [Qca,if_neg (by decide),(QyY hS (by omega) (by omega)).1,Qaj,if_neg (by omega),QzS hx h hv,Qaj,QaW (show neI (0:Int) 0=false by decide)]
    have hlen:(Qwm x l v).length=(Qa7 x l.type_).cap.length:=by rw [Qxr,hT.cap]
    rw [(Qvn hlen (by rw [Qxr]; omega)).1,Qaj]
    cases hov:Qsq (Qa7 x l.type_).cap (Qwm x l v) with
    | true=>rfl
    | false =>
     rw [Bool.not_false,QcK,if_neg (by decide)]
     have hmk:mkI (lenI l.visits) (addK .i64 (lenI l.visits) 1) 16 (Qaa.mk 0 false)=some (List.replicate l.visits.length (Qaa.mk 0 false)):=by
      unfold mkI lenI
      rw [addI (by omega) (by omega),if_pos (by omega)]; rfl
     rw [hmk,Qaj,Qzj,QcL (by unfold okN; simp; omega),hj,cvuN (by omega),QcL (by omega),shlN (by omega)]
     have hfin:∀ q:Nat,Qz8 x l v=q→QeM l v (st,0) (Qa7 x l.type_) (arvL x l st.place) (max (arvL x l st.place).1 st.open_+st.service,0) (Qwm x l v) (List.replicate l.visits.length (Qaa.mk 0 false)) (q:Int)=some (QwU (Qa7 x l.type_) (QB3 x l v st)):=fun q hq=>by
      unfold QeM
      rw [Qzj,hj,cvuN (by omega),shlN (by omega)]
      have e1:subK .i64 (addK .i64 l.driven (arvL x l st.place).1) l.time=l.driven+(arvL x l st.place).1-l.time:=by rw [addI (by omega) (by omega),subI (by omega) (by omega)]
      have e2:addK .i64 l.miles (arvL x l st.place).2.1=l.miles+(arvL x l st.place).2.1:=addI (by omega) (by omega)
      have e3:orK .i64 l.done ((2 ^ j:Nat):Int)=((l.done.toNat ||| 2 ^ v.order.toNat:Nat):Int):=by rw [hj,hdn,orN (by omega) (by omega)]; simp
      simp only
      rw [e1,e2,e3,← hq]
      have hn:Qad.mk l.type_ (l.visits++[v]) st.place (max (arvL x l st.place).1 st.open_+st.service) (l.driven+(arvL x l st.place).1-l.time) (l.miles+(arvL x l st.place).2.1) (Qwm x l v) ((l.done.toNat ||| 2 ^ v.order.toNat:Nat):Int) ((Qz8 x l v:Nat):Int)=QB3 x l v st:=rfl
      rw [hn]
      exact QbW (QC8 (l:=QB3 x l v st) (by show 0≤max (arvL x l st.place).1 st.open_+st.service∧max (arvL x l st.place).1 st.open_+st.service≤1000000; omega) hr)
     cases hdp:v.drop with
     | true =>
      have hb:l.open_.toNat.testBit j=true:=by
       unfold fitB at hf
       simp only [Bool.and_eq_true,hdp,if_pos] at hf
       have:=hf.2.2.1
       rw [hj,Qvs] at this
       exact this
      rw [QcK]
      rw [hop,Qy6 hop2 (by omega) (by rw [hop,Int.toNat_natCast] at hb; exact hb)]
      exact hfin _ (by unfold Qz8; rw [if_pos hdp,hop,hj]; simp)
     | false =>
      rw [Qca,QaR o1,Qaj]
      cases hdr:geI o.drop.place 0 with
      | true =>
       rw [QcK,hop,orN (by omega) (by omega)]
       exact hfin _ (by unfold Qz8 Qvl; rw [if_neg (by rw [hdp]; decide),show v.order.toNat=j by omega,o1]; simp only; rw [if_pos hdr,hop]; simp)
      | false =>
       rw [Qca,hop]
       exact hfin _ (by unfold Qz8 Qvl; rw [if_neg (by rw [hdp]; decide),show v.order.toNat=j by omega,o1]; simp only; rw [if_neg (by rw [hdr]; decide),hop]; simp)
end
end Go.Proofs.YtfjiafgldchinaaGreatDoor
namespace Go.Proofs.YtfjiafgldchinaaGreatDoor
set_option linter.unusedSimpArgs false
set_option linter.unusedVariables false
set_option linter.unusedSectionVars false
section
variable {x : Qab} {l a b : Qad} {v : Qaa} {st : Qar} {m : Nat}
noncomputable def endL (x:Qab) (l:Qad):Int×Int×Int:=goN x.net (Qa7 x l.type_).profile l.place (Qa7 x l.type_).to_ l.time
def Qj2 (l:Qad):Qam:=Qam.mk l.type_ 0 [] l.visits
noncomputable def Qq3 (x:Qab) (l:Qad):Qap:=Qap.mk false 0 [] (endL x l).1 (l.miles+(endL x l).2.1)
def Qme (s:Qay):Int:=((s.cost*16+s.moved)*16+s.other)*65536+s.work
noncomputable def okL (x:Qab) (l:Qad):Bool:=!(eqI (lenI l.visits) 0||neI l.open_ 0)&&!(neI (endL x l).2.2 0||gtI (l.driven+(endL x l).1-l.time) (Qa7 x l.type_).drive||gtI (endL x l).1 (Qa7 x l.type_).close)
noncomputable def Qn3 (x:Qab) (l:Qad):Int×Int×Bool :=
 if okL x l=true then ((endL x l).1,Qme (scoS x (Qj2 l) (Qq3 x l)),true) else (0,0,false)
theorem Qyb {s:Qay} (h1:0≤s.cost∧s.cost≤1073741824) (h2:0≤s.moved∧s.moved≤15) (h3:0≤s.other∧s.other≤15) (h4:0≤s.work∧s.work≤65535):QfC s=some (Qme s,0)∧QcI s=some (Qme s,0):=by
 have key:QfC s=some (Qme s,0):=by
  unfold QfC QmX Qme
  rw [Qaj,QaW (by simp; omega),QaW (by simp; omega),QaW (by simp; omega),QaW (by simp; omega),QaW (by simp only [Bool.or_eq_false_iff,Qqt,Qys]; omega),
   mulI (a:=s.cost) (by omega) (by omega),addI (a:=s.cost*16) (by omega) (by omega),mulI (a:=s.cost*16+s.moved) (by omega) (by omega),addI (a:=(s.cost*16+s.moved)*16) (by omega) (by omega),mulI (a:=(s.cost*16+s.moved)*16+s.other) (by omega) (by omega),addI (a:=((s.cost*16+s.moved)*16+s.other)*65536) (by omega) (by omega)]
 obtain ⟨w,w1,w2⟩:=QBe s
 rw [key] at w1
 cases w1
 exact ⟨key,w2⟩
theorem QBw (hx:QaV x) (h:LbI x l) (h0:(endL x l).2.2=0) (hc:(endL x l).1≤(Qa7 x l.type_).close):(Qa7 x l.type_).open_≤(endL x l).1∧l.time≤(endL x l).1∧(endL x l).1≤4096∧0≤(endL x l).2.1∧(endL x l).2.1≤10000:=by
 have ht:=h.t0 hx
 have h1:=h.time
 have hT:=(QwR hx h).2
 have:=hT.close
 have hb:=QtT hx.net (profile:=(Qa7 x l.type_).profile) (a:=l.place) (b:=(Qa7 x l.type_).to_) (t:=l.time) ⟨ht.1,by omega⟩ h0
 unfold endL at *
 omega
theorem QEo {f:Nat→Bool}:∀ n,0≤sumN n (fun i=>bit1 (f i))∧sumN n (fun i=>bit1 (f i))≤n:=fun n=>by
 have:=QvV (f:=fun i=>bit1 (f i)) (c:=1) (by omega) n fun i=>QsR
 omega
theorem QAB (hx:QaV x) (h:LbI x l) (h0:(endL x l).2.2=0) (hc:(endL x l).1≤(Qa7 x l.type_).close) :
  QfC (scoS x (Qj2 l) (Qq3 x l))=some (Qme (scoS x (Qj2 l) (Qq3 x l)),0)∧QcI (scoS x (Qj2 l) (Qq3 x l))=some (Qme (scoS x (Qj2 l) (Qq3 x l)),0):=by
 have hT:=(QwR hx h).2
 obtain ⟨e1,e2,e3,e4,e5⟩:=QBw hx h h0 hc
 have hm:=h.miles
 have h100:=h.vis
 have ho:=hT.opn
 have h1:=hT.fixed; have h2:=hT.perMile; have h3:=hT.perTick
 have hty:typS x (Qj2 l)=Qa7 x l.type_:=rfl
 have hfew:=QuL (r:=Qj2 l) hx (Qj2 l).visits.length (Nat.le_refl _)
 have hbd:=Qtk (x:=x) (r:=Qj2 l) (Qj2 l).visits.length
 have hn:=hx.orders
 have hs:=QEo (f:=fun i=>hasO ((Qj2 l).visits.take (Qj2 l).visits.length) (i:Int)) x.orders.length
 refine Qyb ?_ ?_ ?_ ?_
 ·unfold scoS
  simp only
  rw [hty]
  have hmm:0≤(Qa7 x l.type_).perMile*(l.miles+(endL x l).2.1)∧(Qa7 x l.type_).perMile*(l.miles+(endL x l).2.1)≤100*1010000:=⟨Int.mul_nonneg h2.1 (by omega),Int.mul_le_mul h2.2 (by omega) (by omega) (by omega)⟩
  have htt:0≤(Qa7 x l.type_).perTick*((endL x l).1-(Qa7 x l.type_).open_)∧(Qa7 x l.type_).perTick*((endL x l).1-(Qa7 x l.type_).open_)≤100*4096:=⟨Int.mul_nonneg h3.1 (by omega),Int.mul_le_mul h3.2 (by omega) (by omega) (by omega)⟩
  show 0≤addK .i64 (addK .i64 (Qa7 x l.type_).fixed (mulK .i64 (Qa7 x l.type_).perMile (l.miles+(endL x l).2.1))) (mulK .i64 (Qa7 x l.type_).perTick (subK .i64 (endL x l).1 (Qa7 x l.type_).open_))∧addK .i64 (addK .i64 (Qa7 x l.type_).fixed (mulK .i64 (Qa7 x l.type_).perMile (l.miles+(endL x l).2.1))) (mulK .i64 (Qa7 x l.type_).perTick (subK .i64 (endL x l).1 (Qa7 x l.type_).open_))≤1073741824
  rw [subI (by omega) (by omega),mulI (by omega) (by omega),mulI (by omega) (by omega),addI (a:=(Qa7 x l.type_).fixed) (by omega) (by omega),addI (by omega) (by omega)]
  omega
 ·unfold scoS; simp only; omega
 ·unfold scoS; simp only; omega
 ·unfold scoS
  simp only
  rw [hty]
  show 0≤mulK .i64 (quoK .i64 (subK .i64 (endL x l).1 (Qa7 x l.type_).open_) 64) (quoK .i64 (subK .i64 (endL x l).1 (Qa7 x l.type_).open_) 64)∧mulK .i64 (quoK .i64 (subK .i64 (endL x l).1 (Qa7 x l.type_).open_) 64) (quoK .i64 (subK .i64 (endL x l).1 (Qa7 x l.type_).open_) 64)≤65535
  rw [subI (by omega) (by omega)]
  obtain ⟨d,hd⟩:∃ d:Nat,(endL x l).1-(Qa7 x l.type_).open_=d:=⟨((endL x l).1-(Qa7 x l.type_).open_).toNat,by omega⟩
  rw [hd,show (64:Int)=((64:Nat):Int) from rfl,quoN (by omega)]
  have hq:d / 64≤64:=by omega
  have hq2:(d / 64)*(d / 64)≤64*64:=Nat.mul_le_mul hq hq
  generalize d / 64=q at hq hq2
  have e:(q:Int)*(q:Int)=((q*q:Nat):Int):=by simp
  rw [mulI (by rw [e]; omega) (by rw [e]; omega),e]
  omega
theorem QwW (hx:QaV x) (h:LbI x l):Qiz x l=some (Qn3 x l)∧Qlp x (qL l)=some (Qn3 x l):=by
 have ht:=h.t0 hx
 have hty:=h.ty
 have h100:=h.vis
 have hd:=h.driven
 have hm:=h.miles
 obtain ⟨t1,hT⟩:=QwR hx h
 have hTy:getI x.types (qL l).type_=some (Qa7 x l.type_):=t1
 have hg:goN x.net (Qa7 x l.type_).profile l.place (Qa7 x l.type_).to_ l.time=endL x l:=rfl
 have hsl:((neI (endL x l).2.2 0||gtI (subK .i64 (addK .i64 l.driven (endL x l).1) l.time) (Qa7 x l.type_).drive)||gtI (endL x l).1 (Qa7 x l.type_).close)=((neI (endL x l).2.2 0||gtI (l.driven+(endL x l).1-l.time) (Qa7 x l.type_).drive)||gtI (endL x l).1 (Qa7 x l.type_).close):=by
  cases h0:neI (endL x l).2.2 0 with
  | true=>simp
  | false =>
   rw [QvF] at h0
   have:=QtT hx.net (profile:=(Qa7 x l.type_).profile) (a:=l.place) (b:=(Qa7 x l.type_).to_) (t:=l.time) ⟨ht.1,by omega⟩ h0
   rw [hg] at this
   rw [addI (by omega) (by omega),subI (by omega) (by omega)]
 have hroute:0≤(Qj2 l).type_∧(Qj2 l).type_<x.types.length:=hty
 constructor
 ·unfold Qiz Qn3 okL
  have e0:((((eqI (lenI l.visits) 0)||(neI l.open_ 0))||(ltI l.type_ 0))||(geI l.type_ (lenI x.types)))=(eqI (lenI l.visits) 0||neI l.open_ 0):=by
   rw [show ltI l.type_ 0=false by simp; omega,show geI l.type_ (lenI x.types)=false by simp [lenI]; omega]; simp
  rw [e0]
  cases (eqI (lenI l.visits) 0||neI l.open_ 0) with
  | true=>rfl
  | false =>
   rw [Qca,t1,Qaj,go_eq hx.net _ _ _ ⟨ht.1,by omega⟩,Qaj,hg,hsl]
   cases hno:((neI (endL x l).2.2 0||gtI (l.driven+(endL x l).1-l.time) (Qa7 x l.type_).drive)||gtI (endL x l).1 (Qa7 x l.type_).close) with
   | true=>rfl
   | false =>
    simp only [Bool.or_eq_false_iff,QvF,Qqt] at hno
    obtain ⟨e1,e2,e3,e4,e5⟩:=QBw hx h hno.1.1 hno.2
    rw [Qca,addI (a:=l.miles) (by omega) (by omega)]
    show bnd (QkX x (Qj2 l) (Qq3 x l)) _=_
    rw [QDe hx (by show l.visits.length≤_; omega) hroute,Qaj,(QAB hx h hno.1.1 hno.2).1,Qaj,QaW (show neI (0:Int) 0=false by decide)]
    rfl
 ·unfold Qlp Qn3 okL
  show br (eqI (lenI l.visits) 0||neI l.open_ 0) _ _=_
  cases (eqI (lenI l.visits) 0||neI l.open_ 0) with
  | true=>rfl
  | false =>
   rw [Qca,hTy,Qaj]
   show bnd (Qey x.net (Qa7 x l.type_).profile l.place (Qa7 x l.type_).to_ l.time) _=_
   rw [Quj hx.net _ _ _ ⟨ht.1,by omega⟩,Qaj,hg]
   show br ((neI (endL x l).2.2 0||gtI (subK .i64 (addK .i64 l.driven (endL x l).1) l.time) (Qa7 x l.type_).drive)||gtI (endL x l).1 (Qa7 x l.type_).close) _ _=_
   rw [hsl]
   cases hno:((neI (endL x l).2.2 0||gtI (l.driven+(endL x l).1-l.time) (Qa7 x l.type_).drive)||gtI (endL x l).1 (Qa7 x l.type_).close) with
   | true=>rfl
   | false =>
    simp only [Bool.or_eq_false_iff,QvF,Qqt] at hno
    obtain ⟨e1,e2,e3,e4,e5⟩:=QBw hx h hno.1.1 hno.2
    rw [Qca]
    have em:addK .i64 (qL l).miles (endL x l).2.1=l.miles+(endL x l).2.1:=addI (a:=l.miles) (by omega) (by omega)
    rw [em]
    show bnd (Qdy x (Qj2 l) (Qq3 x l)) _=_
    rw [Qvb hx (by show l.visits.length≤_; omega) hroute,Qaj,(QAB hx h hno.1.1 hno.2).2,Qaj]
    rfl
def domB (a b:Qad):Bool:=!(neI a.type_ b.type_||neI a.place b.place||neI a.done b.done||neI a.open_ b.open_)&&(leI a.time b.time&&leI a.driven b.driven&&leI a.miles b.miles&&!Qsq b.load a.load)
theorem QFV (ha:a.load.length=b.load.length) (hl:a.load.length≤1048576):QeL a b=some (domB a b)∧Qej (qL a) (qL b)=some (domB a b):=by
 constructor
 ·unfold QeL domB
  cases (neI a.type_ b.type_||neI a.place b.place||neI a.done b.done||neI a.open_ b.open_) with
  | true=>rfl
  | false =>
   rw [Qca]
   cases (leI a.time b.time&&leI a.driven b.driven&&leI a.miles b.miles) with
   | false=>rfl
   | true=>rw [QcK,(Qvn ha hl).1]; rfl
 ·have hfit:=(Qvn ha hl).2
  unfold Qej domB
  show br (((((neI a.type_ b.type_)||(neI a.place b.place))||(neI a.done b.done))||(neI a.open_ b.open_))||(neI (lenI a.load) (lenI b.load))) _ _=_
  rw [show neI (lenI a.load) (lenI b.load)=false by simp [lenI,ha],Bool.or_false]
  cases (neI a.type_ b.type_||neI a.place b.place||neI a.done b.done||neI a.open_ b.open_) with
  | true=>rfl
  | false =>
   rw [Qca]
   have hb:Qsq b.load a.load=true↔∃ k,k<a.load.length∧gtI (a.load.getD k 0) (b.load.getD k 0)=true:=by
    unfold Qsq
    rw [List.any_eq_true]
    exact ⟨fun ⟨k,hk,h⟩=>⟨k,List.mem_range.1 hk,h⟩,fun ⟨k,hk,h⟩=>⟨k,List.mem_range.2 hk,h⟩⟩
   have g:∀ i,i<a.load.length→a.load[i]?=some (a.load.getD i 0)∧b.load[i]?=some (b.load.getD i 0):=fun i hi=>by
    rw [List.getD_eq_getElem?_getD,List.getD_eq_getElem?_getD,List.getElem?_eq_getElem hi,List.getElem?_eq_getElem (show i<b.load.length by omega)]
    exact ⟨rfl,rfl⟩
   rw [QbW (Qty (B:=fun s=>Qiv (qL a) (qL b) s) hl (fun k=>gtI (a.load.getD k 0) (b.load.getD k 0)) (y:=(.inr false:Unit⊕Bool)) (N:=.inl ()) hb (fun i hi=>by
    show br (ltI (i:Int) (lenI a.load)) (bnd (getI a.load (i:Int)) fun x0=>bnd (getI b.load (i:Int)) fun x1=>_) _=_
    rw [Qbz (g i hi).1,QaR (g i hi).2,Qaj,inc hi hl,brs]) (by
    show br (ltI (a.load.length:Int) (lenI a.load)) _ _=_
    rw [Qa4]))]
   cases Qsq b.load a.load with
   | true=>rw [if_pos rfl]; simp
   | false=>rw [if_neg (by decide)]; simp; rfl
end
end Go.Proofs.YtfjiafgldchinaaGreatDoor
namespace Go.Proofs.YtfjiafgldchinaaGreatDoor
set_option linter.unusedSimpArgs false
set_option linter.unusedVariables false
set_option linter.unusedSectionVars false
section
variable {x : Qab} {l a b : Qad} {v : Qaa} {st : Qar} {m : Nat} {kind : Int}
theorem QET:Qdw=some true:=by kernel_rfl
theorem QGE (hI:QFI x):post (QhE x) fun ok=>ok=true→QaV x∧x.orders.length≤6:=by
 unfold QhE
 refine QaE (fun h6=>QaP (Qv7 hI) fun r hr=>Qaw.2 fun h=>?_) (fun _=>Qaw.2 fun h=>by cases h)
 rw [QrZ,lenI] at h
 rw [QBT,lenI] at h6
 exact ⟨hr (List.length_eq_zero_iff.1 (by omega)),by omega⟩
theorem QBA (hx:QaV x) (h:LbI x l) (h99:l.visits.length≤99):extL x l v=[]∨∃ n,extL x l v=QwU (Qa7 x l.type_) n∧LbI x n∧LbI x (QEf (Qa7 x l.type_) n)∧n.visits=l.visits++[v]∧n.type_=l.type_:=by
 unfold extL
 cases hs:Qq7 x v with
 | none=>exact .inl rfl
 | some st =>
  simp only
  cases hf:fitB x l v with
  | false=>exact .inl rfl
  | true =>
   rw [if_pos rfl]
   cases hsl:QyJ x l st with
   | true=>exact .inl rfl
   | false =>
    rw [if_neg (by decide)]
    split
    ·exact .inl rfl
    ·obtain ⟨h1,h2⟩:=Qwq hx h h99 hs hf hsl
     exact .inr ⟨_,rfl,h1,h2,rfl,rfl⟩
theorem Qv3 (hx:QaV x) (hm:mayB x kind m=true):LbI x (Qu5 x kind m)∧LbI x (QEf (Qa7 x kind) (Qu5 x kind m)):=by
 unfold mayB at hm
 rw [Bool.and_eq_true,decide_eq_true_eq] at hm
 obtain ⟨⟨h0,h1,h2,h3⟩,-⟩:=hm
 have hT:=QwS hx h0 h1
 have ho:=hT.opn
 have hc:=hT.close
 have hr:=hT.rest
 have h10:=hx.orders
 have hlen:=QrC (m:=m) x.orders.length
 have hp:2 ^ x.orders.length≤2 ^ 10:=Nat.pow_le_pow_right (by omega) h10
 have hl:∃ f:Nat→Int,(Qu5 x kind m).load=vecN (Qdc x.types) f∧∀ d,-(10000+1000*(([]:List Qaa).length:Int))≤f d∧f d≤10000+1000*(([]:List Qaa).length:Int):=⟨_,rfl,fun d=>by
  have:=Qx5 (f:=stO x d) (l:=memS m x.orders.length) fun a _=>QFz hx d a
  simp only [List.length_nil]
  omega⟩
 have ho2:∃ n:Nat,((Qyz x m x.orders.length:Nat):Int)=n∧n<1024:=⟨_,rfl,by have:=Qwu (x:=x) (m:=m) x.orders.length; omega⟩
 have hd:∃ n:Nat,(0:Int)=n∧n<1024:=⟨0,rfl,by omega⟩
 exact ⟨⟨⟨h0,h1⟩,Nat.zero_le _,by show (Qa7 x kind).open_≤(Qa7 x kind).open_∧(Qa7 x kind).open_≤12288; omega,by show (0:Int)≤0∧(0:Int)≤4096; omega,by show (0:Int)≤0∧(0:Int)≤10000*(([]:List Qaa).length:Int); simp,hl,hd,ho2⟩,
  ⟨⟨h0,h1⟩,Nat.zero_le _,by show (Qa7 x kind).open_≤(Qa7 x kind).open_+(Qa7 x kind).rest_∧(Qa7 x kind).open_+(Qa7 x kind).rest_≤12288; omega,by show (0:Int)≤0∧(0:Int)≤4096; omega,by show (0:Int)≤0∧(0:Int)≤10000*(([]:List Qaa).length:Int); simp,hl,hd,ho2⟩⟩
theorem QyR (hx:QaV x):Qh2 x kind m=[]∨(Qh2 x kind m=QwU (Qa7 x kind) (Qu5 x kind m)∧mayB x kind m=true∧LbI x (Qu5 x kind m)∧LbI x (QEf (Qa7 x kind) (Qu5 x kind m))):=by
 unfold Qh2
 by_cases hm:mayB x kind m=true
 ·rw [if_pos hm]
  split
  ·exact .inl rfl
  ·exact .inr ⟨rfl,hm,Qv3 hx hm⟩
 ·rw [if_neg hm]; exact .inl rfl
theorem LbI.short (hx:QaV x) (h:LbI x l):l.visits.length≤1048576∧l.load.length≤1048576:=by
 obtain ⟨f,hf,_⟩:=h.load
 have:=h.vis
 have:=(QsU hx).2
 exact ⟨by omega,by rw [hf,QdV]; omega⟩
theorem Qux (h:LbI x l):l.load.length=Qdc x.types:=by
 obtain ⟨f,hf,_⟩:=h.load
 rw [hf,QdV]
def TwoL (x:Qab) (k:Nat) (L:List Qad):Prop:=L=[]∨∃ a b,L=[a,b]∧LbI x a∧LbI x b∧a.visits.length≤k∧b.visits.length≤k
theorem TwoL.all {k:Nat} {L:List Qad} (h:TwoL x k L):(∀ l∈L,LbI x l)∧L.length≤2:=by
 rcases h with rfl|⟨a,b,rfl,h1,h2,_⟩
 ·exact ⟨fun l hl=>(by cases hl),by simp⟩
 ·refine ⟨fun l hl=>?_,by simp⟩
  rcases List.mem_cons.1 hl with rfl|hl
  ·exact h1
  ·rw [List.mem_singleton.1 hl]; exact h2
end
end Go.Proofs.YtfjiafgldchinaaGreatDoor
namespace Go.Proofs.YtfjiafgldchinaaGreatDoor
set_option linter.unusedSimpArgs false
set_option linter.unusedVariables false
set_option linter.unusedSectionVars false
def QiK (t:Qag) (n:Qad) (c:Bool):Qad:=if c=true then QEf t n else n
structure QwX (x:Qab) (kind:Int) (stops:List Qar) (b:List Bool) (n:Qad):Prop where
 ok:okB x.net (Qa7 x kind) stops 0 b
 ty:n.type_=kind
 place:n.place=Qrd (Qa7 x kind) stops b.length
 time:n.time=(lbB x.net (Qa7 x kind) stops 0 b).ready
 driven:n.driven=(lbB x.net (Qa7 x kind) stops 0 b).since
 miles:n.miles=(lbB x.net (Qa7 x kind) stops 0 b).sheet.miles
section
variable {x : Qab} {l n : Qad} {v : Qaa} {st : Qar} {m : Nat} {kind : Int} {stops : List Qar} {b : List Bool} {c : Bool}
theorem QqM {t:Qag}:(QiK t n c).type_=n.type_:=by cases c <;> rfl
theorem QqL {t:Qag}:(QiK t n c).place=n.place:=by cases c <;> rfl
theorem Qtm {t:Qag}:(QiK t n c).miles=n.miles:=by cases c <;> rfl
theorem QAh {t:Qag}:(QiK t n c).visits=n.visits:=by cases c <;> rfl
theorem QwX.ptime (h:QwX x kind stops b n):(QiK (Qa7 x kind) n c).time=depS (Qa7 x kind) (lbB x.net (Qa7 x kind) stops 0 b) c:=by
 unfold depS
 rw [← h.time]
 cases c with
 | true=>rfl
 | false=>show n.time=n.time+0; omega
theorem QwX.psince (h:QwX x kind stops b n):(QiK (Qa7 x kind) n c).driven=sinS (lbB x.net (Qa7 x kind) stops 0 b) c:=by
 unfold sinS
 rw [← h.driven]
 cases c <;> rfl
theorem QzK (hx:QaV x) (h0:0≤kind) (h1:kind<x.types.length):QwX x kind stops [] (Qu5 x kind m):=by
 have hT:=(QwS hx h0 h1).opn
 refine ⟨rfl,rfl,rfl,?_,rfl,rfl⟩
 show (Qa7 x kind).open_=max (Qa7 x kind).open_ 0
 omega
noncomputable def legL (x:Qab) (kind:Int) (n:Qad) (c:Bool) (st:Qar):Int×Int×Int:=goN x.net (Qa7 x kind).profile n.place st.place (QiK (Qa7 x kind) n c).time
theorem QzO (h:QwX x kind stops b n) (hst:stopK (Qa7 x kind) stops b.length=st) :
  okB x.net (Qa7 x kind) stops 0 (b++[c])↔(legL x kind n c st).2.2=0∧(legL x kind n c st).1≤st.close∧(QiK (Qa7 x kind) n c).driven+(legL x kind n c st).1-(QiK (Qa7 x kind) n c).time≤(Qa7 x kind).drive:=by
 rw [Qp8]
 unfold nxt nxtD legL
 rw [hst,← h.ptime (c:=c),← h.psince (c:=c),← h.place]
 generalize goN x.net (Qa7 x kind).profile n.place st.place (QiK (Qa7 x kind) n c).time=g
 constructor
 ·rintro ⟨-,h2⟩
  split at h2
  ·exact absurd h2 (by simp)
  ·split at h2
   ·split at h2 <;> simp at h2
   ·split at h2
    ·simp at h2
    ·omega
 ·rintro ⟨h1,h2,h3⟩
  rw [if_neg (by omega),if_neg (by omega),if_neg (by omega)]
  exact ⟨h.ok,rfl⟩
theorem QFh (h:QwX x kind stops b n) (hst:stopK (Qa7 x kind) stops b.length=st) (hok:okB x.net (Qa7 x kind) stops 0 (b++[c])) :
  lbB x.net (Qa7 x kind) stops 0 (b++[c])=QaJ.mk (max (legL x kind n c st).1 st.open_+st.service) ((QiK (Qa7 x kind) n c).driven+(legL x kind n c st).1-(QiK (Qa7 x kind) n c).time)
   (shS (Qa7 x kind) stops (lbB x.net (Qa7 x kind) stops 0 b) b.length c (QiK (Qa7 x kind) n c).time (legL x kind n c st)):=by
 have h2:=(QzO h hst).1 hok
 rw [Quw hok]
 unfold legL at h2 ⊢
 unfold nxt nxtD
 rw [hst,← h.ptime (c:=c),← h.psince (c:=c),← h.place]
 generalize goN x.net (Qa7 x kind).profile n.place st.place (QiK (Qa7 x kind) n c).time=g at h2
 rw [if_neg (by omega),if_neg (by omega),if_neg (by omega)]
theorem QAG (h:QwX x kind stops b n) (hst:stopK (Qa7 x kind) stops b.length=st):QyJ x (QiK (Qa7 x kind) n c) st=false↔okB x.net (Qa7 x kind) stops 0 (b++[c]):=by
 rw [QzO h hst]
 unfold QyJ arvL legL
 rw [QqM,QqL,h.ty]
 simp only [Bool.or_eq_false_iff,QvF,Qqt]
 constructor
 ·rintro ⟨⟨h1,h2⟩,h3⟩; exact ⟨h1,by omega,by omega⟩
 ·rintro ⟨h1,h2,h3⟩; exact ⟨⟨h1,by omega⟩,by omega⟩
theorem QzL (h:QwX x kind stops b n) (hst:stops[b.length]?=some st) (hs:QyJ x (QiK (Qa7 x kind) n c) st=false):QwX x kind stops (b++[c]) (QB3 x (QiK (Qa7 x kind) n c) v st):=by
 have hk:stopK (Qa7 x kind) stops b.length=st:=by unfold stopK; rw [List.getD_eq_getElem?_getD,hst]; rfl
 have hok:=(QAG h hk).1 hs
 have hl:=QFh h hk hok
 have hg:arvL x (QiK (Qa7 x kind) n c) st.place=legL x kind n c st:=by unfold arvL legL; rw [QqM,QqL,h.ty]
 refine ⟨hok,?_,?_,?_,?_,?_⟩
 ·show (QiK (Qa7 x kind) n c).type_=kind
  rw [QqM,h.ty]
 ·rw [List.length_append,List.length_singleton]
  show st.place=(stops.getD b.length QBa).place
  rw [List.getD_eq_getElem?_getD,hst]; rfl
 ·rw [hl]; show max (arvL x (QiK (Qa7 x kind) n c) st.place).1 st.open_+st.service=_; rw [hg]
 ·rw [hl]; show (QiK (Qa7 x kind) n c).driven+(arvL x (QiK (Qa7 x kind) n c) st.place).1-_=_; rw [hg]
 ·rw [hl]; show (QiK (Qa7 x kind) n c).miles+(arvL x (QiK (Qa7 x kind) n c) st.place).2.1=(lbB x.net (Qa7 x kind) stops 0 b).sheet.miles+(legL x kind n c st).2.1
  rw [hg,Qtm,h.miles]
theorem QCB (h:QwX x kind stops b n) (hb:b.length=stops.length):okB x.net (Qa7 x kind) stops 0 (b++[c]) ↔
  ((endL x (QiK (Qa7 x kind) n c)).2.2=0∧(endL x (QiK (Qa7 x kind) n c)).1≤(Qa7 x kind).close∧(QiK (Qa7 x kind) n c).driven+(endL x (QiK (Qa7 x kind) n c)).1-(QiK (Qa7 x kind) n c).time≤(Qa7 x kind).drive):=by
 have hk:stopK (Qa7 x kind) stops b.length=endS (Qa7 x kind):=Qq6 (by omega)
 rw [QzO h hk]
 have hg:endL x (QiK (Qa7 x kind) n c)=legL x kind n c (endS (Qa7 x kind)):=by unfold endL legL; rw [QqM,QqL,h.ty]; rfl
 rw [hg]
 rfl
theorem QE1 (h:QwX x kind stops b n) (hb:b.length=stops.length) (hok:okB x.net (Qa7 x kind) stops 0 (b++[c])) :
  (lbB x.net (Qa7 x kind) stops 0 (b++[c])).sheet.end_=(endL x (QiK (Qa7 x kind) n c)).1∧(lbB x.net (Qa7 x kind) stops 0 (b++[c])).sheet.miles=n.miles+(endL x (QiK (Qa7 x kind) n c)).2.1:=by
 have hk:stopK (Qa7 x kind) stops b.length=endS (Qa7 x kind):=Qq6 (by omega)
 have hg:endL x (QiK (Qa7 x kind) n c)=legL x kind n c (endS (Qa7 x kind)):=by unfold endL legL; rw [QqM,QqL,h.ty]; rfl
 rw [QFh h hk hok,hg,h.miles]
 refine ⟨?_,rfl⟩
 show (if b.length<stops.length then _ else _:Int)=_
 rw [if_neg (by omega)]
theorem Qz6 (h:okL x l=true):lenI l.visits≠0∧l.open_=0∧(endL x l).2.2=0∧l.driven+(endL x l).1-l.time≤(Qa7 x l.type_).drive∧(endL x l).1≤(Qa7 x l.type_).close:=by
 unfold okL at h
 simp only [Bool.and_eq_true,Bool.not_eq_true',Bool.or_eq_false_iff,QvF,Qv9,Qqt] at h
 obtain ⟨⟨h1,h2⟩,⟨h3,h4⟩,h5⟩:=h
 exact ⟨h1,h2,h3,by omega,by omega⟩
def rutL (kind:Int) (l:List Qaa):Qam:=Qam.mk kind 0 [] l
theorem QEg {l:List Qaa} (h0:0≤kind) (h1:kind<x.types.length) (hl:l.length≤20) (hs:∀ v∈l,(Qq7 x v).isSome):QtX x (rutL kind l)=true:=by
 unfold QtX preR
 rw [Bool.and_eq_true,decide_eq_true_eq,List.all_eq_true]
 exact ⟨⟨h0,h1,Int.le_refl _,by show (0:Int)≤4096; omega,by show l.length≤20; omega⟩,hs⟩
end
end Go.Proofs.YtfjiafgldchinaaGreatDoor
