/- Part MX of the proof: texts Xua Xub Xuc Xud Xue Xuf Xug Xuh Xui Xuj Xuk Xum Xul Xun Xuo Xup Xuq. -/
import Derived.Test.YtoedkepcaigkeaaGreatDoorMR
namespace Go.Proofs.YtoedkepcaigkeaaGreatDoor
set_option linter.unusedSimpArgs false
set_option linter.unusedVariables false
set_option linter.unusedSectionVars false
def ltV (a b:Qaa):Bool:=ltI a.order b.order||(eqI a.order b.order&&(!a.drop&&b.drop))
theorem QE5 {a b:Qaa}:ltV a b=true↔a.order<b.order∨(a.order=b.order∧a.drop=false∧b.drop=true):=by
 unfold ltV
 simp
theorem QyF {a:Qaa}:ltV a a=false:=by
 rw [Bool.eq_false_iff]
 intro h
 rw [QE5] at h
 rcases h with h|⟨_,h1,h2⟩
 ·omega
 ·rw [h1] at h2; cases h2
theorem QAo {a b c:Qaa} (h1:ltV a b=true) (h2:ltV b c=true):ltV a c=true:=by
 rw [QE5] at *
 rcases h1 with h1|⟨h1,h3,h4⟩ <;> rcases h2 with h2|⟨h2,h5,h6⟩
 ·exact .inl (by omega)
 ·exact .inl (by omega)
 ·exact .inl (by omega)
 ·rw [h4] at h5; cases h5
theorem QHe (a b:Qaa):a=b∨ltV a b=true∨ltV b a=true:=by
 rcases Int.lt_trichotomy a.order b.order with h|h|h
 ·exact .inr (.inl (QE5.2 (.inl h)))
 ·cases ha:a.drop <;> cases hb:b.drop
  ·exact .inl (by cases a; cases b; simp_all)
  ·exact .inr (.inl (QE5.2 (.inr ⟨h,ha,hb⟩)))
  ·exact .inr (.inr (QE5.2 (.inr ⟨h.symm,hb,ha⟩)))
  ·exact .inl (by cases a; cases b; simp_all)
 ·exact .inr (.inr (QE5.2 (.inl h)))
def Qv9:List Qaa→List Qaa→Bool
 | [],[]=>false
 | [],_ :: _=>true
 | _ :: _,[]=>false
 | a :: l,b :: m=>ltV a b||(decide (a=b)&&Qv9 l m)
theorem QAg:∀ {l:List Qaa},Qv9 l l=false
 | []=>rfl
 | a :: l=>by unfold Qv9; rw [QyF,QAg]; simp
theorem Qxj:∀ {a b c:List Qaa},Qv9 a b=true→Qv9 b c=true→Qv9 a c=true
 | [],[],_,h,_=>by cases h
 | _ :: _,[],_,h,_=>by cases h
 | [],_ :: _,[],_,h=>by cases h
 | [],_ :: _,_ :: _,_,_=>rfl
 | _ :: _,_ :: _,[],_,h=>by cases h
 | x :: a,y :: b,z :: c,h1,h2=>by
  unfold Qv9 at *
  simp only [Bool.or_eq_true,Bool.and_eq_true,decide_eq_true_iff] at *
  rcases h1 with h1|⟨rfl,h1⟩
  ·rcases h2 with h2|⟨rfl,h2⟩
   ·exact .inl (QAo h1 h2)
   ·exact .inl h1
  ·rcases h2 with h2|⟨rfl,h2⟩
   ·exact .inl h2
   ·exact .inr ⟨rfl,Qxj h1 h2⟩
theorem QAi:∀ (a b:List Qaa),a=b∨Qv9 a b=true∨Qv9 b a=true
 | [],[]=>.inl rfl
 | [],_ :: _=>.inr (.inl rfl)
 | _ :: _,[]=>.inr (.inr rfl)
 | x :: a,y :: b=>by
  unfold Qv9
  simp only [Bool.or_eq_true,Bool.and_eq_true,decide_eq_true_iff]
  rcases QHe x y with rfl|h|h
  ·rcases QAi a b with rfl|h|h
   ·exact .inl rfl
   ·exact .inr (.inl (.inr ⟨rfl,h⟩))
   ·exact .inr (.inr (.inr ⟨rfl,h⟩))
  ·exact .inr (.inl (.inl h))
  ·exact .inr (.inr (.inl h))
theorem QAh:∀ {l a b:List Qaa},Qv9 (l++a) (l++b)=Qv9 a b
 | [],_,_=>rfl
 | x :: l,a,b=>by
  rw [List.cons_append,List.cons_append,Qv9,QyF,QAh]
  simp
abbrev Ky:=Int×List Qaa
def kLt (k q:Ky):Prop:=k.1<q.1∨(k.1=q.1∧Qv9 k.2 q.2=true)
theorem QAd {k:Ky}:¬ kLt k k:=by
 rintro (h|⟨_,h⟩)
 ·omega
 ·rw [QAg] at h; cases h
theorem QAe {a b c:Ky} (h1:kLt a b) (h2:kLt b c):kLt a c:=by
 rcases h1 with h1|⟨h1,h3⟩ <;> rcases h2 with h2|⟨h2,h4⟩
 ·exact .inl (by omega)
 ·exact .inl (by omega)
 ·exact .inl (by omega)
 ·exact .inr ⟨by omega,Qxj h3 h4⟩
theorem QEZ (a b:Ky):a=b∨kLt a b∨kLt b a:=by
 rcases Int.lt_trichotomy a.1 b.1 with h|h|h
 ·exact .inr (.inl (.inl h))
 ·rcases QAi a.2 b.2 with h'|h'|h'
  ·exact .inl (Prod.ext h h')
  ·exact .inr (.inl (.inr ⟨h,h'⟩))
  ·exact .inr (.inr (.inr ⟨h.symm,h'⟩))
 ·exact .inr (.inr (.inl h))
theorem QEd {a b c:Ky} (h1:¬ kLt a b) (h2:¬ kLt b c):¬ kLt a c:=fun h=>by
 rcases QEZ b c with rfl|h3|h3
 ·exact h1 h
 ·exact h2 h3
 ·exact h1 (QAe h h3)
def Bst (S:Ky→Prop) (s t:Option Ky):Prop:=(∀ k,t=some k→s=some k∨S k)∧(∀ k,(s=some k∨S k)→∃ k',t=some k'∧¬ kLt k k')
theorem Bst.none {S:Ky→Prop} {s:Option Ky} (h:∀ k,¬ S k):Bst S s s :=
 ⟨fun k e=>.inl e,fun k e=>e.elim (fun e=>⟨k,e,QAd⟩) fun e=>absurd e (h k)⟩
theorem Bst.comp {S T:Ky→Prop} {s t u:Option Ky} (h1:Bst S s t) (h2:Bst T t u):Bst (fun k=>S k∨T k) s u:=by
 refine ⟨fun k e=>?_,fun k e=>?_⟩
 ·rcases h2.1 k e with e|e
  ·rcases h1.1 k e with e|e
   ·exact .inl e
   ·exact .inr (.inl e)
  ·exact .inr (.inr e)
 ·have go:(s=some k∨S k)→∃ k',u=some k'∧¬ kLt k k':=fun e=>by
   obtain ⟨a,ha,hl⟩:=h1.2 k e
   obtain ⟨b,hb,hm⟩:=h2.2 a (.inl ha)
   exact ⟨b,hb,QEd hl hm⟩
  rcases e with e|e|e
  ·exact go (.inl e)
  ·exact go (.inr e)
  ·exact h2.2 k (.inr e)
theorem Bst.congr {S T:Ky→Prop} {s t:Option Ky} (h:Bst S s t) (he:∀ k,S k↔T k):Bst T s t :=
 ⟨fun k e=>(h.1 k e).imp id (he k).1,fun k e=>h.2 k (e.imp id (he k).2)⟩
theorem Bst.uniq {S:Ky→Prop} {s t u:Option Ky} (h1:Bst S s t) (h2:Bst S s u):t=u:=by
 cases t with
 | none =>
  cases u with
  | none=>rfl
  | some k=>obtain ⟨k',e,_⟩:=h1.2 k (h2.1 k rfl); cases e
 | some k =>
  obtain ⟨k',e,h3⟩:=h2.2 k (h1.1 k rfl)
  obtain ⟨k'',e',h4⟩:=h1.2 k' (h2.1 k' e)
  cases e'
  rcases QEZ k k' with rfl|h|h
  ·exact e.symm
  ·exact absurd h h3
  ·exact absurd h h4
theorem Bst.one {S:Ky→Prop} {k:Ky} (hS:∀ q,S q↔q=k) {s t:Option Ky} (h:(t=some k∧∀ q,s=some q→¬ kLt q k)∨(t=s∧∃ q,s=some q∧¬ kLt k q)):Bst S s t:=by
 rcases h with ⟨rfl,h⟩|⟨rfl,q,rfl,h⟩
 ·refine ⟨fun q e=>.inr ((hS q).2 (Option.some.inj e).symm),fun q e=>⟨k,rfl,?_⟩⟩
  rcases e with e|e
  ·exact h q e
  ·rw [(hS q).1 e]; exact QAd
 ·refine ⟨fun q e=>.inl e,fun q' e=>?_⟩
  rcases e with e|e
  ·exact ⟨q',e,QAd⟩
  ·rw [(hS q').1 e]; exact ⟨q,rfl,h⟩
theorem Bst.nil {S:Ky→Prop} {s:Option Ky} (h:∀ k,¬ S k):Bst S s s:=Bst.none h
theorem Bst.more {α:Type} {T:α→Ky→Prop} {l:List α} {i:Nat} {a:α} {s t u:Option Ky} (h:Bst (fun k=>∃ b∈l.take i,T b k) s t) (ha:l[i]?=some a) (h2:Bst (T a) t u):Bst (fun k=>∃ b∈l.take (i+1),T b k) s u:=by
 refine (h.comp h2).congr fun k=>?_
 rw [Qpz ha]
 constructor
 ·rintro (⟨b,hb,h⟩|h)
  ·exact ⟨b,List.mem_append_left _ hb,h⟩
  ·exact ⟨a,by simp,h⟩
 ·rintro ⟨b,hb,h⟩
  rcases List.mem_append.1 hb with hb|hb
  ·exact .inl ⟨b,hb,h⟩
  ·rw [List.mem_singleton.1 hb] at h; exact .inr h
end Go.Proofs.YtoedkepcaigkeaaGreatDoor
namespace Go.Proofs.YtoedkepcaigkeaaGreatDoor
set_option linter.unusedSimpArgs false
set_option linter.unusedVariables false
set_option linter.unusedSectionVars false
def QBy (v:Qaa):List Qaa→List Qaa
 | []=>[]
 | w :: r=>if w=v then [] else w :: QBy v r
def QGd (x:Qad) (l:List Qaa) (o:Int):Bool:=x.before.all fun p=>!eqI p.x1 o||(visO x p.x0).all fun w=>l.any (isV w)
def Qw1 (x:Qad) (l:List Qaa) (v:Qaa):Bool:=!l.any (isV v)&&((QBy v (visO x v.order)).all (fun w=>l.any (isV w))&&QGd x l v.order)
def offN (x:Qad) (i:Nat):Bool:=match x.orders[i]? with
 | some o=>o.off
 | none=>true
def QtY (x:Qad) (m:Nat) (l:List Qaa):Nat→List Qaa
 | 0=>[]
 | n+1=>QtY x m l n++if (m.testBit n&&!offN x n)=true then (visO x (n:Int)).filter (Qw1 x l) else []
def Qqo (x:Qad) (m:Nat) (l:List Qaa):Nat→List Qaa
 | 0=>[]
 | n+1=>Qqo x m l n++if m.testBit n=true then (visO x (n:Int)).filter (fun v=>!l.any (isV v)) else []
structure Qsy (x:Qad) (l:List Qaa):Prop where
 nodup:l.Nodup
 inn:∀ v∈l,0≤v.order∧v.order<x.orders.length
section
variable {x : Qad} {l t : List Qaa} {m : Nat} {v w : Qaa}
theorem Qoy {o:Int} (h:v∈visO x o):v.order=o:=by
 unfold visO at h
 split at h
 ·rcases List.mem_append.1 h with h|h <;> (split at h <;> simp at h; rw [h])
 ·cases h
theorem QEE {o:Int} (h:Qaa.mk o false∈visO x o):∃ r,visO x o=Qaa.mk o false :: r:=by
 unfold visO at h ⊢
 split
 ·rename_i q hq
  rw [hq] at h
  simp only at h
  by_cases hp:0≤q.pick.place
  ·rw [if_pos hp]; exact ⟨_,rfl⟩
  ·rw [if_neg hp,List.nil_append] at h
   split at h
   ·simp at h
   ·cases h
 ·rename_i hq
  rw [hq] at h
  cases h
theorem QDu {o:Int}:(visO x o).Pairwise fun a b=>ltV a b=true:=by
 unfold visO
 split
 ·split <;> split <;> simp [ltV]
 ·exact List.Pairwise.nil
theorem QxQ {n:Nat}:v∈QtY x m l n↔∃ i,i<n∧m.testBit i=true∧offN x i=false∧v∈visO x (i:Int)∧Qw1 x l v=true:=by
 induction n with
 | zero=>simp [QtY]
 | succ n ih =>
  unfold QtY
  rw [List.mem_append,ih]
  constructor
  ·rintro (⟨i,h1,h2⟩|h)
   ·exact ⟨i,by omega,h2⟩
   ·split at h
    ·rename_i hb
     simp only [Bool.and_eq_true,Bool.not_eq_true'] at hb
     obtain ⟨h1,h2⟩:=List.mem_filter.1 h
     exact ⟨n,by omega,hb.1,hb.2,h1,h2⟩
    ·cases h
  ·rintro ⟨i,h1,h2,h3,h4,h5⟩
   rcases Nat.lt_or_eq_of_le (Nat.le_of_lt_succ h1) with h|rfl
   ·exact .inl ⟨i,h,h2,h3,h4,h5⟩
   ·refine .inr ?_
    rw [if_pos (by rw [h2,h3]; rfl)]
    exact List.mem_filter.2 ⟨h4,h5⟩
theorem QHi:(!l.any (isV v))=true↔v ∉ l:=by rw [Bool.not_eq_true',Bool.eq_false_iff,Ne,QzQ]
theorem Quk {n:Nat}:v∈Qqo x m l n↔∃ i,i<n∧m.testBit i=true∧v∈visO x (i:Int)∧(v∈l→False):=by
 induction n with
 | zero=>simp [Qqo]
 | succ n ih =>
  unfold Qqo
  rw [List.mem_append,ih]
  constructor
  ·rintro (⟨i,h1,h2⟩|h)
   ·exact ⟨i,by omega,h2⟩
   ·split at h
    ·rename_i hb
     obtain ⟨h1,h2⟩:=List.mem_filter.1 h
     exact ⟨n,by omega,hb,h1,QHi.1 h2⟩
    ·cases h
  ·rintro ⟨i,h1,h2,h3,h4⟩
   rcases Nat.lt_or_eq_of_le (Nat.le_of_lt_succ h1) with h|rfl
   ·exact .inl ⟨i,h,h2,h3,h4⟩
   ·refine .inr ?_
    rw [if_pos h2]
    exact List.mem_filter.2 ⟨h3,QHi.2 h4⟩
theorem Qww:∀ n,(Qqo x m l n).Pairwise fun a b=>ltV a b=true
 | 0=>List.Pairwise.nil
 | n+1=>by
  unfold Qqo
  rw [List.pairwise_append]
  refine ⟨Qww n,?_,fun a ha b hb=>?_⟩
  ·split
   ·exact QDu.sublist List.filter_sublist
   ·exact List.Pairwise.nil
  ·obtain ⟨i,h1,_,h2,_⟩:=Quk.1 ha
   split at hb
   ·have h3:=Qoy h2
    have h4:=Qoy (List.mem_filter.1 hb).1
    exact QE5.2 (.inl (by omega))
   ·cases hb
theorem Qwt (h:Qw1 x l v=true):v ∉ l:=by
 unfold Qw1 at h
 simp only [Bool.and_eq_true,Bool.not_eq_true'] at h
 intro hv
 rw [QzQ.2 hv] at h
 cases h.1
theorem Qsy.add (h:Qsy x l) (hv:v ∉ l) (h0:0≤v.order∧v.order<x.orders.length):Qsy x (l++[v]):=by
 refine ⟨List.nodup_append.2 ⟨h.nodup,by simp,fun a ha b hb=>?_⟩,fun w hw=>?_⟩
 ·rw [List.mem_singleton.1 hb]; exact fun e=>hv (e ▸ ha)
 ·rcases List.mem_append.1 hw with hw|hw
  ·exact h.inn w hw
  ·rw [List.mem_singleton.1 hw]; exact h0
theorem QEl (h:Qsy x l) (hv:v∈QtY x m l x.orders.length):Qsy x (l++[v]):=by
 obtain ⟨i,h1,_,_,h2,h3⟩:=QxQ.1 hv
 have:=Qoy h2
 exact h.add (Qwt h3) (by omega)
theorem QEt (h:Qsy x l) (hv:v∈Qqo x m l x.orders.length):Qsy x (l++[v]):=by
 obtain ⟨i,h1,_,h2,h3⟩:=Quk.1 hv
 have:=Qoy h2
 exact h.add h3 (by omega)
theorem Qsy.len (h:Qsy x l):l.length≤2*x.orders.length:=by
 have hm:(l.map fun v:Qaa=>2*v.order.toNat+(if v.drop=true then 1 else 0)).Nodup:=by
  unfold List.Nodup
  rw [List.pairwise_map]
  refine h.nodup.imp_of_mem fun {a b} ha hb hne he=>hne ?_
  have h1:=h.inn a ha
  have h2:=h.inn b hb
  cases a with
  | mk ao ad =>
   cases b with
   | mk bo bd =>
    simp only at h1 h2 he
    have hd:ad=bd∧ao=bo:=by
     cases ad <;> cases bd <;> simp at he ⊢ <;> omega
    rw [hd.1,hd.2]
 have:=QxU (2*x.orders.length) _ hm fun a ha=>by
  obtain ⟨v,hv,rfl⟩:=List.mem_map.1 ha
  have h1:=h.inn v hv
  split <;> omega
 simpa using this
theorem Qu7.good (h:Qu7 x l):Qsy x l:=⟨h.nodup,fun v hv=>QoB h.inn hv⟩
theorem Qu7.all (h:Qu7 x l) {o:Int} (ho:hasO l o=true) (hw:w∈visO x o):w∈l:=by
 obtain ⟨v,hv,rfl⟩:=QrH.1 ho
 have hp:=h.pair v hv
 unfold QxY at hp
 rw [Bool.and_eq_true] at hp
 have hr:=hp.2
 cases hvis:visO x v.order with
 | nil=>rw [hvis] at hw; cases hw
 | cons a r =>
  rw [hvis] at hr hw
  cases r with
  | nil =>
   simp only [rowB,QtX] at hr
   rw [List.mem_singleton.1 hw]
   exact QCt.1 hr
  | cons b r =>
   obtain ⟨rfl,_⟩:=QzN hvis
   simp only [rowB,QtX,Bool.and_eq_true,Qrq] at hr
   rcases List.mem_cons.1 hw with rfl|hw
   ·exact QCt.1 hr.1
   ·rw [List.mem_singleton.1 hw]
    exact QCt.1 (by omega)
theorem Qu7.own (h:Qu7 x l) (hv:v∈l):v∈visO x v.order:=by
 have hp:=h.pair v hv
 unfold QxY at hp
 rw [Bool.and_eq_true] at hp
 exact QzQ.1 hp.1
theorem QIa (h:(l++v :: t).Nodup):ixI (isV v) (l++v :: t)=(l.length:Int):=by
 have h0:=QCt.2 (show v∈l++v :: t by simp)
 obtain ⟨k,hk⟩:∃ k:Nat,ixI (isV v) (l++v :: t)=k:=⟨(ixI (isV v) (l++v :: t)).toNat,by omega⟩
 obtain ⟨h1,h2⟩:=Qyz hk
 rw [hk]
 rcases Nat.lt_trichotomy k l.length with h3|h3|h3
 ·rw [List.getElem?_append_left h3] at h1
  exact absurd rfl ((List.nodup_append.1 h).2.2 v (List.mem_of_getElem? h1) v (by simp))
 ·rw [h3]
 ·exact absurd (by rw [List.getElem?_append_right (Nat.le_refl _)]; simp) (h2 l.length h3)
theorem QIK (h:ixI (isV w) (l++t)<(l.length:Int)) (h0:0≤ixI (isV w) (l++t)):w∈l:=by
 obtain ⟨k,hk⟩:∃ k:Nat,ixI (isV w) (l++t)=k:=⟨(ixI (isV w) (l++t)).toNat,by omega⟩
 obtain ⟨h1,_⟩:=Qyz hk
 rw [List.getElem?_append_left (by omega)] at h1
 exact List.mem_of_getElem? h1
theorem Qu7.head (h:Qu7 x (l++v :: t)) (hw:w∈QBy v (visO x v.order)):w∈l:=by
 have hp:=h.pair v (by simp)
 unfold QxY at hp
 rw [Bool.and_eq_true] at hp
 obtain ⟨h1,hr⟩:=hp
 have hv:=QzQ.1 h1
 have hix:=QIa h.nodup
 cases hvis:visO x v.order with
 | nil=>rw [hvis] at hw; cases hw
 | cons a r =>
  rw [hvis] at hr hw hv
  cases r with
  | nil =>
   rw [QBy,if_pos (List.mem_singleton.1 hv).symm] at hw
   cases hw
  | cons b r =>
   obtain ⟨rfl,hne⟩:=QzN hvis
   by_cases ha:a=v
   ·rw [QBy,if_pos ha] at hw; cases hw
   ·have hb:b=v:=by
     rcases List.mem_cons.1 hv with h|h
     ·exact absurd h.symm ha
     ·exact (List.mem_singleton.1 h).symm
    rw [QBy,if_neg ha,QBy,if_pos hb] at hw
    rw [List.mem_singleton.1 hw]
    simp only [rowB,QtX,Bool.and_eq_true,Qrq] at hr
    rw [hb,hix] at hr
    exact QIK hr.2 hr.1
theorem QDP (h:Qu7 x (l++v :: t)) {p:QaO} (hp:p∈x.before) (ho:p.x1=v.order) (hw:w∈visO x p.x0):w∈l:=by
 have hb:hasO (l++v :: t) p.x1=true:=QrH.2 ⟨v,by simp,ho.symm⟩
 have h1:badB (l++v :: t) p=false:=by simpa using List.any_eq_false.1 h.before p hp
 unfold badB at h1
 rw [hb,Bool.true_and] at h1
 simp only [Bool.or_eq_false_iff,Bool.not_eq_false'] at h1
 obtain ⟨h2,h3⟩:=h1
 have hm:=h.all h2 hw
 rcases List.mem_append.1 hm with hm|hm
 ·exact hm
 ·exfalso
  unfold QEe at h3
  cases e:ixP (isO p.x1) (l++v :: t) with
  | none =>
   have:=QxL e v (by simp)
   rw [QCp.2 ho.symm] at this
   cases this
  | some k =>
   rw [e] at h3
   simp only at h3
   have hk:k≤l.length:=Nat.le_of_not_lt fun hlt=>by
    have:=(QrJ e).2.2 l.length hlt
    rw [List.getElem_append_right (Nat.le_refl _)] at this
    simp only [Nat.sub_self,List.getElem_cons_zero] at this
    rw [QCp.2 ho.symm] at this
    cases this
   have:hasO ((l++v :: t).drop k) p.x0=true:=QrH.2 ⟨w,by rw [List.drop_append_of_le_length hk]; exact List.mem_append_right _ hm,Qoy hw⟩
   rw [this] at h3
   cases h3
theorem Qu7.ready (h:Qu7 x (l++v :: t)):Qw1 x l v=true:=by
 unfold Qw1
 have hn:v ∉ l:=fun hv=>(List.nodup_append.1 h.nodup).2.2 v hv v (by simp) rfl
 have e1:l.any (isV v)=false:=by rw [Bool.eq_false_iff,Ne,QzQ]; exact hn
 rw [e1,Bool.not_false,Bool.true_and,Bool.and_eq_true,List.all_eq_true]
 refine ⟨fun w hw=>QzQ.2 (h.head hw),?_⟩
 unfold QGd
 rw [List.all_eq_true]
 intro p hp
 by_cases ho:p.x1=v.order
 ·rw [Bool.or_eq_true]
  exact .inr (List.all_eq_true.2 fun w hw=>QzQ.2 (QDP h hp ho hw))
 ·rw [Bool.or_eq_true]
  exact .inl (by simpa using ho)
theorem QHh (h:Qu7 x (l++v :: t)) (hm:∀ i:Nat,m.testBit i=hasO (l++v :: t) (i:Int)):v∈QtY x m l x.orders.length:=by
 have hv:v∈l++v :: t:=by simp
 have hin:=QoB h.inn hv
 obtain ⟨n,hn⟩:∃ n:Nat,v.order=n:=⟨v.order.toNat,by omega⟩
 have hoff:=List.any_eq_false.1 h.off v hv
 refine QxQ.2 ⟨n,by omega,?_,?_,?_,h.ready⟩
 ·rw [hm,← hn]; exact QrH.2 ⟨v,hv,rfl⟩
 ·unfold offV at hoff
  unfold offN
  rw [hn,Int.toNat_natCast] at hoff
  rw [List.getElem?_eq_getElem (show n<x.orders.length by omega)] at hoff ⊢
  simpa using hoff
 ·rw [← hn]; exact h.own hv
theorem QGa (h:Qu7 x l) (hm:∀ i:Nat,m.testBit i=hasO l (i:Int)) (n:Nat):QtY x m l n=[]:=by
 refine List.eq_nil_iff_forall_not_mem.2 fun v hv=>?_
 obtain ⟨i,_,h1,_,h2,h3⟩:=QxQ.1 hv
 rw [hm] at h1
 exact Qwt h3 (h.all h1 h2)
theorem QHw (h:Qu7 x (l++v :: t)) (hm:∀ i:Nat,m.testBit i=hasO (l++v :: t) (i:Int)):v∈Qqo x m l x.orders.length∧(v.drop=true→Qaa.mk v.order false ∉ Qqo x m l x.orders.length):=by
 have hv:v∈l++v :: t:=by simp
 have hin:=QoB h.inn hv
 obtain ⟨n,hn⟩:∃ n:Nat,v.order=n:=⟨v.order.toNat,by omega⟩
 have hown:=h.own hv
 refine ⟨Quk.2 ⟨n,by omega,?_,?_,Qwt h.ready⟩,fun hd hr=>?_⟩
 ·rw [hm,← hn]; exact QrH.2 ⟨v,hv,rfl⟩
 ·rw [← hn]; exact hown
 ·obtain ⟨i,_,_,h2,h3⟩:=Quk.1 hr
  have hi:=Qoy h2
  simp only at hi
  rw [← hi] at h2
  refine h3 (h.head ?_)
  -- the pickup lies ahead of the delivery
  have hvd:v=Qaa.mk v.order true:=by cases v; simp only at hd; rw [hd]
  obtain ⟨r,hr⟩:=QEE h2
  rw [hr,QBy,if_neg (by rw [hvd]; simp)]
  exact List.mem_cons_self ..
theorem QGh (h:Qu7 x l) (hm:∀ i:Nat,m.testBit i=hasO l (i:Int)) (n:Nat):Qqo x m l n=[]:=by
 refine List.eq_nil_iff_forall_not_mem.2 fun v hv=>?_
 obtain ⟨i,_,h1,h2,h3⟩:=Quk.1 hv
 rw [hm] at h1
 exact h3 (h.all h1 h2)
end
end Go.Proofs.YtoedkepcaigkeaaGreatDoor
namespace Go.Proofs.YtoedkepcaigkeaaGreatDoor
set_option linter.unusedSimpArgs false
set_option linter.unusedVariables false
set_option linter.unusedSectionVars false
theorem Qxm {α E:Type} {l:List α} (hl:l.length≤1048576) (p:α→Bool) (N:List α→E) {B:List α×Int→Option ((List α×Int)⊕E)} (s0:List α)
  (hin:∀ (s:List α) (i:Nat) (a:α),l[i]?=some a→s.length≤s0.length+i→B (s,(i:Int))=some (.inl (if p a=true then s++[a] else s,(i:Int)+1)))
  (hend:∀ s,B (s,(l.length:Int))=some (.inr (N s))):QaW B (s0,0)=some (N (s0++l.filter p)):=by
 rw [QyE (B:=B) hl (fun s a=>.inl (if p a=true then s++[a] else s)) N (fun i s=>s.length≤s0.length+i) (fun s i a h hi=>⟨hin s i a h hi,fun s' h'=>by
  cases h'
  split
  ·simp; omega
  ·omega⟩) (fun s _=>hend s) (Nat.le_refl _)]
 congr 1
 have key:∀ (l s:List α),QA5 (fun s a=>(.inl (if p a=true then s++[a] else s):List α⊕E)) N s l=N (s++l.filter p):=by
  intro l
  induction l with
  | nil=>intro s; simp [QA5]
  | cons a r ih =>
   intro s
   rw [QxH rfl,ih,List.filter_cons]
   split <;> simp
 exact key l s0
section
variable {x : Qad} {l : List Qaa} {m : Nat} {v : Qaa}
theorem QCq {a:Qaa}:(eqI a.order v.order&&(eqB a.drop v.drop&&true))=isV v a:=by
 rw [Bool.eq_iff_iff,QDE]; cases v; cases a; simp
theorem QGI {r:List Qaa}:(!r.any (fun a=>ltI (ixI (isV a) l) 0))=r.all (fun w=>l.any (isV w)):=by
 rw [List.all_eq_not_any_not]
 congr 1
 congr 1
 funext a
 rw [QAn,QoL]
theorem QEX:∀ {r:List Qaa},(match ixP (fun a=>isV v a||!l.any (isV a)) r with
  | some k=>(match r[k]? with|some a=>if isV v a=true then (.inl ():Unit⊕Bool) else .inr false|none=>.inl ())
  | none=>.inl ())=if (QBy v r).all (fun w=>l.any (isV w))=true then .inl () else .inr false
 | []=>rfl
 | a :: r=>by
  unfold ixP QBy
  by_cases ha:isV v a=true
  ·rw [if_pos (by rw [ha]; rfl),if_pos (QDE.1 ha)]
   simp only [List.getElem?_cons_zero]
   rw [if_pos ha]
   rfl
  ·rw [if_neg (show ¬ a=v from fun h=>ha (QDE.2 h))]
   by_cases hl:l.any (isV a)=true
   ·rw [if_neg (by rw [hl]; simpa using ha),List.all_cons,hl,Bool.true_and,← QEX (r:=r)]
    cases ixP (fun a=>isV v a||!l.any (isV a)) r <;> rfl
   ·rw [if_pos (by simp [hl])]
    simp only [List.getElem?_cons_zero]
    rw [if_neg ha,List.all_cons,if_neg (by simp [hl])]
theorem QGe (hx:Qe2 x) (hl:l.length≤1048576) (h0:0≤v.order) (h1:v.order<x.orders.length):Qkl x l v=some (Qw1 x l v):=by
 unfold Qkl Qw1
 rw [QsF hl,Qaj,QoL]
 cases hv:l.any (isV v) with
 | true=>rfl
 | false =>
  rw [QgV,QvD hx h0 h1,Qaj,Bool.not_false,Bool.true_and]
  have h2:=QqH (x:=x) (o:=v.order)
  have l1:=Qtp (B:=fun s=>Qdc x l v (visO x v.order) s) (l:=visO x v.order) (by omega) (fun a=>isV v a||!l.any (isV a)) (fun k=>(match (visO x v.order)[k]? with|some a=>if isV v a=true then (.inl ():Unit⊕Bool) else .inr false|none=>.inl ())) (N:=.inl ()) (fun i a h=>by
   show Qdc x l v (visO x v.order) i=_
   unfold Qdc
   rw [QbP h,QCq,QsF hl,Qaj,QAn,QoL,incL h (by omega),h]
   cases hv:isV v a with
   | true=>rw [if_pos (by rfl)]; simp only [hv]; rfl
   | false =>
    cases hq:l.any (isV a) with
    | true=>rfl
    | false=>rw [if_pos (by rfl)]; simp only [hv]; rfl) (by
   show Qdc x l v (visO x v.order) (visO x v.order).length=_
   unfold Qdc
   rw [Qbj])
  have l1':QaW (fun s=>Qdc x l v (visO x v.order) s) 0=some (if (QBy v (visO x v.order)).all (fun w=>l.any (isV w))=true then .inl () else .inr false):=l1.trans (congrArg some QEX)
  rw [l1',Qaj]
  by_cases hh:(QBy v (visO x v.order)).all (fun w=>l.any (isV w))=true
  ·rw [if_pos hh,Qf9,hh,Bool.true_and]
   have hb:=hx.before
   have l2:=QeX (B:=fun s=>Qdd x l v s) (l:=x.before) (by omega) (fun p=>!(!eqI p.x1 v.order||(visO x p.x0).all fun w=>l.any (isV w))) (y:=(.inr false:Unit⊕Bool)) (N:=.inl ()) (fun i p h=>by
    obtain ⟨p0,p1,p2,p3,p4⟩:=hx.befores p (List.mem_of_getElem? h)
    show Qdd x l v i=_
    unfold Qdd
    rw [QbP h,incL h (by omega)]
    have hne:neI p.x1 v.order=!eqI p.x1 v.order:=rfl
    rw [hne]
    cases eqI p.x1 v.order with
    | false=>rfl
    | true =>
     rw [Bool.not_true,QgV,QvD hx p0 p1,Qaj,Bool.false_or]
     have h3:=QqH (x:=x) (o:=p.x0)
     have l3:=QeX (B:=fun s=>QdO x l v i (visO x p.x0) s) (l:=visO x p.x0) (by omega) (fun w=>ltI (ixI (isV w) l) 0) (y:=(.inr false:Unit⊕Bool)) (N:=.inl ()) (fun j w hw=>by
      show QdO x l v i (visO x p.x0) j=_
      unfold QdO
      rw [QbP hw,QsF hl,Qaj,incL hw (by omega),brs]) (by
      show QdO x l v i (visO x p.x0) (visO x p.x0).length=_
      unfold QdO
      rw [Qbj])
     rw [Qch l3,← QGI]
     cases (visO x p.x0).any (fun w=>ltI (ixI (isV w) l) 0) <;> rfl) (by
    show Qdd x l v x.before.length=_
    unfold Qdd
    rw [Qbj])
   rw [Qch l2]
   unfold QGd
   rw [List.all_eq_not_any_not]
   cases x.before.any (fun p=>!(!eqI p.x1 v.order||(visO x p.x0).all fun w=>l.any (isV w))) <;> rfl
  ·rw [if_neg hh,QjR]
   rw [Bool.eq_false_iff.2 hh,Bool.false_and]
theorem QxS:∀ n,(QtY x m l n).length≤2*n
 | 0=>Nat.le_refl _
 | n+1=>by
  have h1:=QxS n
  unfold QtY
  rw [List.length_append]
  split
  ·have h2:=List.length_filter_le (Qw1 x l) (visO x (n:Int))
   have h3:=QqH (x:=x) (o:=(n:Int))
   omega
  ·simp; omega
theorem QGM {i:Nat} (hm:m<1024) (hi:i≤62):eqI (andK .i64 (shrK .i64 (m:Int) (i:Int)) 1) 0=!m.testBit i:=by
 rw [shrN (by omega),show (1:Int)=((1:Nat):Int) from rfl]
 have hd:=Nat.div_le_self m (2 ^ i)
 rw [andN (by omega) (by omega),Nat.and_one_is_mod,Nat.testBit_eq_decide_div_mod_eq]
 generalize m / 2 ^ i=q
 rw [Bool.eq_iff_iff,QuM,Bool.not_eq_true',decide_eq_false_iff_not]
 omega
theorem QGF (hx:Qe2 x) (hl:l.length≤1048576) (hm:m<1024):Qmh x (m:Int) l=some (QtY x m l x.orders.length):=by
 have h10:=hx.orders
 unfold Qmh
 have this:QaW (fun q:List Qaa×Int=>QdH x (m:Int) l q.1 q.2) ([],0)=some (QtY x m l x.orders.length):=QeQ x.orders.length (fun k=>(QtY x m l k,(k:Int))) (B:=fun q:List Qaa×Int=>QdH x (m:Int) l q.1 q.2) (e:=QtY x m l x.orders.length) (by omega) (fun k hk=>by
  obtain ⟨o,ho⟩:∃ o,x.orders[k]?=some o:=⟨_,List.getElem?_eq_getElem hk⟩
  show QdH x (m:Int) l (QtY x m l k) (k:Int)=_
  have hlen:=QxS (x:=x) (m:=m) (l:=l) k
  unfold QdH
  rw [QbP ho,Qa3 (by simp; omega),QdX (by omega),QGM hm (by omega),incL ho (by omega)]
  have hoff:offN x k=o.off:=by unfold offN; rw [ho]
  show _=some (Sum.inl (QtY x m l k++(if (m.testBit k&&!offN x k)=true then _ else _),((k+1:Nat):Int)))
  rw [hoff]
  cases hb:m.testBit k with
  | false=>simp
  | true =>
   cases hf:o.off with
   | true=>simp
   | false =>
    rw [Bool.not_true,Bool.false_or,QgV,QvD hx (by omega) (by omega),Qaj]
    have h2:=QqH (x:=x) (o:=(k:Int))
    rw [Qch (Qxm (B:=fun q:List Qaa×Int=>Qd6 x (m:Int) l (k:Int) (visO x (k:Int)) q.1 q.2) (l:=visO x (k:Int)) (by omega) (Qw1 x l) id (QtY x m l k) (fun s i a h hs=>by
     have ha:=Qoy (List.mem_of_getElem? h)
     show Qd6 x (m:Int) l (k:Int) (visO x (k:Int)) s i=_
     unfold Qd6
     rw [QbP h,QGe hx hl (by omega) (by omega),Qaj,incL h (by omega),QdX (QgA (by have:=(List.getElem?_eq_some_iff.1 h).1; simp; omega)),brs]
     split <;> rfl) (fun s=>by
     show Qd6 x (m:Int) l (k:Int) (visO x (k:Int)) s (visO x (k:Int)).length=_
     unfold Qd6
     rw [Qbj]; rfl))]
    simp) (by
  show QdH x (m:Int) l (QtY x m l x.orders.length) (x.orders.length:Int)=_
  unfold QdH
  rw [Qbj])
 rw [Qch this]
end
end Go.Proofs.YtoedkepcaigkeaaGreatDoor
namespace Go.Proofs.YtoedkepcaigkeaaGreatDoor
set_option linter.unusedSimpArgs false
set_option linter.unusedVariables false
set_option linter.unusedSectionVars false
def cmpI (a b:Int):Int:=if a<b then -1 else if b<a then 1 else 0
def cmpV (a b:Qaa):Int:=if cmpI a.order b.order≠0 then cmpI a.order b.order else cmpI (if a.drop=true then 1 else 0) (if b.drop=true then 1 else 0)
theorem QEM (a b:Int):QgW a b=some (cmpI a b):=by
 unfold QgW QjS cmpI
 rw [Qaj,Qaj,show neI a a=false by simp,show neI b b=false by simp,QgV,QgV,brs,brs]
 simp only [Qrq,Qy5]
theorem QBX {a b:Int}:cmpI a b=0↔a=b:=by unfold cmpI; split <;> (try split) <;> omega
theorem QEN {a b:Int}:cmpI a b<0↔a<b:=by unfold cmpI; split <;> (try split) <;> omega
theorem QFE (a b:Int):QpD [a,b]=some (if a≠0 then a else b):=by
 unfold QpD
 have g0:QeF [a,b] 0=some (if a≠0 then .inr (.inr a) else .inl 1):=by
  unfold QeF
  rw [show br (ltI 0 (lenI [a,b])) (bnd (getI [a,b] 0) fun x0=>br (neI x0 0) (some (.inr (.inr x0))) (some (.inl (addK .i64 0 1)))) (some (.inr (.inl ())))=br (neI a 0) (some (.inr (.inr a):Int⊕(Unit⊕Int))) (some (.inl 1)) from rfl,brs]
  simp only [QyI]
 have g1:QeF [a,b] 1=some (if b≠0 then .inr (.inr b) else .inl 2):=by
  unfold QeF
  rw [show br (ltI 1 (lenI [a,b])) (bnd (getI [a,b] 1) fun x0=>br (neI x0 0) (some (.inr (.inr x0))) (some (.inl (addK .i64 1 1)))) (some (.inr (.inl ())))=br (neI b 0) (some (.inr (.inr b):Int⊕(Unit⊕Int))) (some (.inl 2)) from rfl,brs]
  simp only [QyI]
 have g2:QeF [a,b] 2=some (.inr (.inl ())):=rfl
 have key:QaW (fun s=>QeF [a,b] s) 0=some (if a≠0 then .inr a else if b≠0 then .inr b else .inl ()):=by
  refine QrN 3 (by decide) ?_
  simp only [QvL]
  rw [g0]
  by_cases ha:a≠0
  ·rw [if_pos ha,if_pos ha]
  ·rw [if_neg ha,if_neg ha]
   simp only
   rw [g1]
   by_cases hb:b≠0
   ·rw [if_pos hb,if_pos hb]
   ·rw [if_neg hb,if_neg hb]
    simp only
    rw [g2]
 rw [Qch key]
 by_cases ha:a≠0
 ·rw [if_pos ha,if_pos ha,QjR]
 ·rw [if_neg ha,if_neg ha]
  by_cases hb:b≠0
  ·rw [if_pos hb,QjR]
  ·rw [if_neg hb,Qf9]
   congr 1; omega
theorem QGP (a b:Qaa):Qiv a b=some (cmpV a b):=by
 have h1:∀ v:Qaa,QfR v=some (if v.drop=true then 1 else 0):=fun v=>by unfold QfR; rw [brs]
 unfold Qiv cmpV
 rw [QEM,Qaj,h1,Qaj,h1,Qaj,QEM,Qaj,QFE,Qaj]
theorem QGO {a b:Qaa}:cmpV a b=0↔a=b:=by
 unfold cmpV
 cases a; cases b
 simp only [ne_eq,QBX,Qaa.mk.injEq]
 split
 ·rename_i h
  rw [QBX]
  exact ⟨fun h'=>absurd h' h,fun h'=>absurd h'.1 h⟩
 ·rename_i h
  rw [QBX]
  rename_i d _ e
  cases d <;> cases e <;> simp_all
theorem QGQ {a b:Qaa}:ltI (cmpV a b) 0=ltV a b:=by
 rw [Bool.eq_iff_iff,Qrq,QE5]
 unfold cmpV
 split
 ·rename_i h
  rw [QEN]
  rw [Ne,QBX] at h
  exact ⟨fun h'=>.inl h',fun h'=>h'.elim id fun h'=>absurd h'.1 h⟩
 ·rename_i h
  simp only [ne_eq,QBX,Classical.not_not] at h
  rw [QEN]
  cases a.drop <;> cases b.drop <;> simp <;> omega
theorem Qwa:∀ {k:Nat} {a b:List Qaa},(∀ j,j<k→∃ u,a[j]?=some u∧b[j]?=some u)→Qv9 a b=Qv9 (a.drop k) (b.drop k)
 | 0,_,_,_=>rfl
 | k+1,a,b,h=>by
  obtain ⟨u,h1,h2⟩:=h 0 (by omega)
  cases a with
  | nil=>simp at h1
  | cons x a =>
   cases b with
   | nil=>simp at h2
   | cons y b =>
    simp at h1 h2
    subst h1
    subst h2
    rw [Qv9,QyF,List.drop_succ_cons,List.drop_succ_cons,← Qwa (k:=k) (a:=a) (b:=b) fun j hj=>by simpa using h (j+1) (by omega)]
    simp
def difN (a b:List Qaa) (k:Nat):Bool:=match a[k]?,b[k]? with
 | some u,some w=>!decide (u=w)
 | some _,none=>true
 | _,_=>false
theorem QEO {a b:List Qaa} {k:Nat} (h:k<a.length) (hd:difN a b k=false):∃ u,a[k]?=some u∧b[k]?=some u:=by
 unfold difN at hd
 rw [List.getElem?_eq_getElem h] at hd ⊢
 cases hb:b[k]? with
 | none=>rw [hb] at hd; cases hd
 | some w =>
  rw [hb] at hd
  simp only [Bool.not_eq_false',decide_eq_true_iff] at hd
  exact ⟨_,rfl,by rw [hd]⟩
theorem QGE {a b:List Qaa} (ha:a.length≤1048576) (hb:b.length≤1048576):Qmg a b=some (Qv9 a b):=by
 unfold Qmg Qa0
 rcases QEx (B:=fun s=>Qat a b s) (n:=a.length) ha (difN a b) (fun k=>(.inr (match a[k]?,b[k]? with|some u,some w=>cmpV u w|_,_=>1):Unit⊕Int)) (N:=.inl ()) (fun i hi=>by
  have e:a[i]?=some a[i]:=List.getElem?_eq_getElem hi
  show Qat a b i=_
  unfold Qat difN
  rw [QbP e,incL e ha,e]
  generalize a[i]=u at e
  cases hb2:b[i]? with
  | none =>
   rw [Qa8 (by simp only [QtX,lenI]; have:=List.getElem?_eq_none_iff.1 hb2; omega)]
   rfl
  | some w =>
   rw [Qa3 (by have:=(List.getElem?_eq_some_iff.1 hb2).1; simp [lenI]; omega),QaV hb2,Qaj,QGP,Qaj,brs]
   by_cases hq:u=w
   ·rw [if_neg (by simp only [QyI,Classical.not_not,ne_eq]; exact QGO.2 hq),if_neg (by simp [hq])]
   ·rw [if_pos (by simp only [QyI,ne_eq]; exact fun h=>hq (QGO.1 h)),if_pos (by simp [hq])]) (by
  show Qat a b a.length=_
  unfold Qat
  rw [Qbj]) with ⟨k,h1,h2,h3,h4⟩|⟨h1,h4⟩
 ·rw [Qch h4,QjR,Qaj]
  rw [Qwa (k:=k) fun j hj=>QEO (by omega) (h3 j hj)]
  unfold difN at h2
  rw [List.drop_eq_getElem_cons h1]
  rw [List.getElem?_eq_getElem h1] at h2 ⊢
  cases hb2:b[k]? with
  | none =>
   rw [List.drop_eq_nil_of_le (List.getElem?_eq_none_iff.1 hb2)]
   rfl
  | some w =>
   obtain ⟨g1,g2⟩:=List.getElem?_eq_some_iff.1 hb2
   rw [hb2] at h2
   simp only [Bool.not_eq_true',decide_eq_false_iff_not] at h2
   rw [List.drop_eq_getElem_cons g1,Qv9,g2]
   simp only
   rw [QGQ,decide_eq_false h2,Bool.false_and,Bool.or_false]
 ·rw [Qch h4,Qf9]
  rw [Qwa (k:=a.length) fun j hj=>QEO hj (h1 j hj),List.drop_length,brs,Qaj]
  by_cases hl:a.length<b.length
  ·rw [if_pos (by simp [lenI]; omega),List.drop_eq_getElem_cons hl]; rfl
  ·rw [if_neg (by simp [lenI]; omega),List.drop_eq_nil_of_le (by omega)]; rfl
section
variable {x : Qad} {l : List Qaa} {m : Nat} {v : Qaa}
theorem QFb (hl:l.length≤1048576):QjO l v=some (l.any (isV v)):=by
 unfold QjO
 rw [Qch (QeX (B:=fun s=>Qd4 l v s) hl (isV v) (y:=(.inr true:Unit⊕Bool)) (N:=.inl ()) (fun i a h=>by
  show Qd4 l v i=_
  unfold Qd4
  rw [QbP h,QCq,incL h hl,brs]) (by
  show Qd4 l v l.length=_
  unfold Qd4
  rw [Qbj]))]
 cases l.any (isV v) <;> rfl
theorem QAT {o:Int} (h0:0≤o) (h1:o<x.orders.length) (h10:x.orders.length≤10):QhB x.orders o=some (visO x o):=by
 have e:x.orders[o.toNat]?=some (x.orders[o.toNat]'(by omega)):=List.getElem?_eq_getElem _
 generalize x.orders[o.toNat]'(by omega)=q at e
 have hg:getI x.orders o=some q:=by unfold getI; rw [if_pos h0,e]
 unfold QhB Qb4
 have hs:subK .i64 (lenI x.orders) 1=(x.orders.length:Int)-1:=by unfold lenI; exact subI (by omega) (by omega)
 rw [hs,Qaj,Qa8 (by simp; omega),hg,Qaj]
 unfold visO
 rw [e]
 have hJ:∀ l1:List Qaa,l1.length≤1→Qeq x.orders o l1=some (l1++if 0≤q.drop.place then [Qaa.mk o true] else []):=fun l1 hl=>by
  unfold Qeq
  rw [hg,Qaj,QdX (by unfold okN; simp; omega),QDC]
  simp only [QtX]
  split <;> simp
 rw [hJ _ (by simp),hJ _ (by simp),QdX (by unfold okN; simp),brs]
 simp only [QtX]
 split <;> rfl
theorem QCj (hm:m<9223372036854775808) {i:Nat} (hi:i≤62):QiH (m:Int) (i:Int)=some (m.testBit i):=by
 unfold QiH
 have:QaW (fun q:Int×Int=>QdM (i:Int) q.1 q.2) ((m:Int),0)=some (((m / 2 ^ i:Nat):Int)):=by
  have h0:((m:Int),(0:Int))=(fun k:Nat=>(((m / 2 ^ k:Nat):Int),(k:Int))) 0:=by simp
  rw [h0]
  refine QeQ i (fun k:Nat=>(((m / 2 ^ k:Nat):Int),(k:Int))) (by omega) (fun k hk=>?_) ?_
  ·show QdM (i:Int) ((m / 2 ^ k:Nat):Int) (k:Int)=_
   unfold QdM
   have hd:=Nat.div_le_self m (2 ^ k)
   have hd2:=Nat.div_le_self m (2 ^ (k+1))
   have e2:((m / 2 ^ k:Nat):Int).tdiv 2=((m / 2 ^ (k+1):Nat):Int):=by
    rw [Int.tdiv_eq_ediv_of_nonneg (Int.natCast_nonneg _),Nat.pow_succ,← Nat.div_div_eq_div_mul]
    rfl
   generalize m / 2 ^ (k+1)=q at hd2 e2
   rw [Qa8 (by simp; omega),addI (by omega) (by omega)]
   rw [quoI (by rw [e2]; omega) (by rw [e2]; omega),e2]
   rfl
  ·show QdM (i:Int) ((m / 2 ^ i:Nat):Int) (i:Int)=_
   unfold QdM
   rw [Qa3 (by simp)]
 rw [Qch this,Qyk]
theorem Qx2:∀ n,(Qqo x m l n).length≤2*n
 | 0=>Nat.le_refl _
 | n+1=>by
  have h1:=Qx2 n
  unfold Qqo
  rw [List.length_append]
  split
  ·have h2:=List.length_filter_le (fun v=>!l.any (isV v)) (visO x (n:Int))
   have h3:=QqH (x:=x) (o:=(n:Int))
   omega
  ·simp; omega
theorem QHv (hx:Qe2 x) (hl:l.length≤1048576) (hm:m<1024):Qjc x (m:Int) l=some (Qqo x m l x.orders.length):=by
 have h10:=hx.orders
 unfold Qjc
 have this:QaW (fun q:List Qaa×Int=>QcG x (m:Int) l q.1 q.2) ([],0)=some (Qqo x m l x.orders.length):=QeQ x.orders.length (fun k=>(Qqo x m l k,(k:Int))) (B:=fun q:List Qaa×Int=>QcG x (m:Int) l q.1 q.2) (e:=Qqo x m l x.orders.length) (by omega) (fun k hk=>by
  show QcG x (m:Int) l (Qqo x m l k) (k:Int)=_
  have hlen:=Qx2 (x:=x) (m:=m) (l:=l) k
  have h2:=QqH (x:=x) (o:=(k:Int))
  unfold QcG
  rw [Qa8 (by simp [lenI]; omega),QCj (by omega) (by omega),Qaj,QAT (by omega) (by omega) h10,Qaj,inc hk (by omega)]
  show _=some (Sum.inl (Qqo x m l k++(if m.testBit k=true then _ else _),((k+1:Nat):Int)))
  cases hb:m.testBit k with
  | false=>simp
  | true =>
   rw [Qgh,Qch (Qxm (B:=fun q:List Qaa×Int=>Qdn x (m:Int) l (k:Int) (visO x (k:Int)) q.1 q.2) (l:=visO x (k:Int)) (by omega) (fun v=>!l.any (isV v)) id (Qqo x m l k) (fun s i a h hs=>by
    have hi:=(List.getElem?_eq_some_iff.1 h).1
    show Qdn x (m:Int) l (k:Int) (visO x (k:Int)) s i=_
    unfold Qdn
    rw [QbP h,QFb hl,Qaj,incL h (by omega),QdX (QgA (by simp; omega))]
    cases l.any (isV a) <;> rfl) (fun s=>by
    show Qdn x (m:Int) l (k:Int) (visO x (k:Int)) s (visO x (k:Int)).length=_
    unfold Qdn
    rw [Qbj]; rfl))]
   simp) (by
  show QcG x (m:Int) l (Qqo x m l x.orders.length) (x.orders.length:Int)=_
  unfold QcG
  rw [Qa3 (by simp [lenI])])
 rw [Qch this]
end
end Go.Proofs.YtoedkepcaigkeaaGreatDoor
namespace Go.Proofs.YtoedkepcaigkeaaGreatDoor
set_option linter.unusedSimpArgs false
set_option linter.unusedVariables false
set_option linter.unusedSectionVars false
def rW (b:Qac) (l:List Qaa):Qac:=Qac.mk b.type_ b.start b.rests l
noncomputable def prX (x:Qad) (r:Qac):Int×Int:=(Qec x r).getD (0,1)
def ordS (l:List Qaa) (m:Nat):Prop:=∀ i:Nat,m.testBit i=hasO l (i:Int)
def ValR (x:Qad) (b:Qac) (m:Nat) (l:List Qaa):Prop:=l.length≤1048576∧(prX x (rW b l)).2=0∧ordS l m
noncomputable def kyX (x:Qad) (b:Qac) (l:List Qaa):Ky:=((prX x (rW b l)).1,l)
def Qy4 (x:Qad) (b:Qac) (m:Nat) (l:List Qaa) (k:Ky):Prop:=∃ t,ValR x b m (l++t)∧k=kyX x b (l++t)
def QHG:Qac:=Qac.mk 0 0 [] []
def zCol:Qaf:=Qaf.mk 0 0 0 QHG
def colP (b:Qac) (m:Nat) (k:Ky):Qaf:=Qaf.mk b.type_ (m:Int) k.1 (rW b k.2)
def finP (x:Qad) (b:Qac) (m:Nat) (s:Option Ky):Qar:=match s with
 | none=>Qar.mk x b (m:Int) false zCol
 | some k=>Qar.mk x b (m:Int) true (colP b m k)
instance (k q:Ky):Decidable (kLt k q):=inferInstanceAs (Decidable (_∨_))
def QBG (s:Option Ky):Prop:=∀ k,s=some k→k.2.length≤1048576
structure FewI (x:Qad):Prop where
 ok:Qe2 x
 few:x.orders.length≤3
section
variable {x : Qad} {b r : Qac} {l t : List Qaa} {m n : Nat} {v : Qaa} {s : Option Ky}
theorem QGY:(finP x b m s).x=x:=by unfold finP; split <;> rfl
theorem QH2:(finP x b m s).begin=b:=by unfold finP; split <;> rfl
theorem QGX:(finP x b m s).set_=m:=by unfold finP; split <;> rfl
theorem Qsy.six (h:Qsy x l) (hf:FewI x):l.length≤6:=by
 have:=h.len
 have:=hf.few
 omega
theorem Qsy.inn' (h:Qsy x l):l.any (fun v=>!inO x v)=false:=by
 rw [List.any_eq_false]
 intro v hv
 have:=h.inn v hv
 simp [inO]
 omega
theorem QyM (hx:Qe2 x) (hR:QgG r) (h9:QwG r):Qec x r=some (prX x r)∧QeU x r=some (prX x r):=by
 obtain ⟨w,h1,h2⟩:=QBE hx hR h9
 have:prX x r=w:=by unfold prX; rw [h1]; rfl
 rw [this]
 exact ⟨h1,h2⟩
theorem QIk (hx:Qe2 x) (hR:QgG r) (h9:QwG r) (h:(prX x r).2=0):(evX x r).2.2=0:=by
 obtain ⟨e1,_⟩:=Qz6 hx hR h9
 obtain ⟨p1,_⟩:=QyM hx hR h9
 unfold Qec at p1
 rw [e1,Qaj] at p1
 by_cases h0:(evX x r).2.2=0
 ·exact h0
 ·rw [Qa8 (by simpa using h0)] at p1
  have:=Option.some.inj p1
  rw [← this] at h
  exact h
theorem QIl (hx:Qe2 x) (hR:QgG r) (h9:QwG r) (h:(prX x r).2=0):Qu7 x r.visits:=by
 obtain ⟨_,_,_,_,e5⟩:=Qz6 hx hR h9
 obtain ⟨_,q,hE⟩:=e5 (QIk hx hR h9 h)
 exact Qxs hE.seq
theorem rW_I (hR:QgG b) (hl:l.length≤8):QgG (rW b l)∧QwG (rW b l):=by
 refine ⟨⟨hR.type_,hR.start,hR.rests,?_⟩,?_⟩
 ·show l.length≤_
  omega
 ·unfold QwG
  show ¬ (9<l.length∧l.length≤20)
  omega
theorem QHr (hf:FewI x) (hR:QgG b) (hl:l.length≤1048576) (h:(prX x (rW b l)).2=0):Qu7 x l:=by
 have hx:=hf.ok
 by_cases h9:9<l.length∧l.length≤20
 ·exfalso
  have hs:seqS x l≠0:=fun h0=>by
   have:=(Qxs h0).good.six hf
   omega
  have hp:Qec x (rW b l)=some (0,if 0≤b.type_∧b.type_<x.types.length then seqS x l else 2):=by
   have hs':¬ seqS x (rW b l).visits=0:=hs
   unfold Qec Qfu
   by_cases ht:0≤b.type_∧b.type_<x.types.length
   ·have ht':0≤(rW b l).type_∧(rW b l).type_<x.types.length:=ht
    rw [Qa3 (by simp [lenI]; omega),Qxv hx (show (rW b l).visits.length≤1048576 from hl),Qaj,Qa8 (by simpa using hs'),Qaj,Qa8 (by simpa using hs'),if_pos ht]
    rfl
   ·have ht':¬ (0≤(rW b l).type_∧(rW b l).type_<x.types.length):=ht
    rw [Qa8 (by simp [lenI]; omega),Qaj,Qa8 (by decide),if_neg ht]
  unfold prX at h
  rw [hp] at h
  simp only [Option.getD_some] at h
  split at h
  ·exact hs h
  ·cases h
 ·exact QIl (r:=rW b l) hx ⟨hR.type_,hR.start,hR.rests,hl⟩ h9 h
theorem QxW {m n:Nat} (h1:ordS l m) (h2:ordS l n):m=n:=Nat.eq_of_testBit_eq fun i=>by rw [h1,h2]
theorem QCO (hx:Qe2 x) (hg:Qsy x r.visits) (hl:r.visits.length≤1048576):∃ k:Nat,k<1024∧ordS r.visits k∧QcH r=some ((k:Int),0)∧Qc8 r=some ((k:Int),0):=by
 obtain ⟨p,hp,p0,⟨k,hk,hk2,hk3⟩⟩:=Qxb hx hl hg.inn'
 obtain ⟨q,hq,q0,⟨j,hj,hj2,hj3⟩⟩:=QCP hx hl hg.inn'
 have hjk:j=k:=QxW (l:=r.visits) hj3 hk3
 refine ⟨k,hk2,hk3,?_,?_⟩
 ·rw [hp]; congr 1; exact Prod.ext hk p0
 ·rw [hq]; congr 1; exact Prod.ext (by rw [hj,hjk]) q0
theorem QFn {k:Nat} (hl:l.length≤1048576) (hk:ordS l k):ValR x b m l↔(prX x (rW b l)).2=0∧k=m :=
 ⟨fun h=>⟨h.2.1,QxW hk h.2.2⟩,fun h=>⟨hl,h.1,h.2 ▸ hk⟩⟩
theorem QDX (hl:l.length≤1048576):QbF l=some l:=by
 unfold QbF
 rw [QdX (QgA (by omega))]
 cases l with
 | nil=>exact QBJ
 | cons a r=>rfl
theorem QDJ {a c:Qaf} (ha:a.route.visits.length≤1048576) (hc:c.route.visits.length≤1048576):Qnu a c=some (decide (kLt (a.price,a.route.visits) (c.price,c.route.visits))):=by
 unfold Qnu
 rw [QGE ha hc,Qaj,brs]
 by_cases h:a.price=c.price
 ·rw [if_neg (by simpa using h)]
  congr 1
  rw [Bool.eq_iff_iff,decide_eq_true_iff]
  unfold kLt
  simp only
  exact ⟨fun h'=>.inr ⟨h,h'⟩,fun h'=>h'.elim (fun h'=>by omega) fun h'=>h'.2⟩
 ·rw [if_pos (by simpa using h)]
  congr 1
  rw [Bool.eq_iff_iff,decide_eq_true_iff,Qrq]
  unfold kLt
  simp only
  exact ⟨fun h'=>.inl h',fun h'=>h'.elim id fun h'=>absurd h'.1 h⟩
theorem QBO (hf:FewI x) (hR:QgG b) (hg:Qsy x l) (hs:QBG s):post (Qgg (finP x b m s) l) fun f=>∃ s',f=finP x b m s'∧Bst (fun k=>ValR x b m l∧k=kyX x b l) s s':=by
 have h6:=hg.six hf
 obtain ⟨hR2,h9⟩:=rW_I hR (show l.length≤8 by omega)
 obtain ⟨k,hk1,hk2,hk3,_⟩:=QCO (r:=rW b l) hf.ok hg (show l.length≤1048576 by omega)
 obtain ⟨p1,_⟩:=QyM hf.ok hR2 h9
 unfold Qgg
 rw [QH2,QGY,QGX]
 rw [show Qac.mk b.type_ b.start b.rests l=rW b l from rfl,hk3,Qaj]
 have hval:=QFn (x:=x) (b:=b) (m:=m) (show l.length≤1048576 by omega) (show ordS l k from hk2)
 refine QaU (fun h=>Qav.2 ⟨s,rfl,Bst.none fun q hq=>?_⟩) (fun h=>?_)
 ·simp only [orT,QyI] at h
  have:=(hval.1 hq.1).2
  rw [this] at h
  omega
 ·simp only [orF,QAs] at h
  rw [p1,Qaj]
  refine QaU (fun h0=>Qav.2 ⟨s,rfl,Bst.none fun q hq=>?_⟩) (fun h0=>?_)
  ·exact (QyI.1 h0) hq.1.2.1
  ·rw [QAs] at h0
   have hv:ValR x b m l:=hval.2 ⟨h0,by omega⟩
   have hS:∀ q,(ValR x b m l∧q=kyX x b l)↔q=kyX x b l:=fun q=>⟨fun h=>h.2,fun h=>⟨hv,h⟩⟩
   have hnew:Qar.mk x b (m:Int) true (Qaf.mk b.type_ (m:Int) (prX x (rW b l)).1 (rW b l))=finP x b m (some (kyX x b l)):=rfl
   rw [hnew]
   cases s with
   | none=>exact Qav.2 ⟨some (kyX x b l),rfl,Bst.one hS (.inl ⟨rfl,fun q h=>by cases h⟩)⟩
   | some q =>
    have hq:=hs q rfl
    show post (br true (bnd (Qnu (colP b m (kyX x b l)) (colP b m q)) fun r2=>_) _) _
    rw [Qgh,QDJ (show l.length≤1048576 by omega) hq,Qaj]
    refine QaU (fun h2=>?_) (fun h2=>?_)
    ·have h3:kLt (kyX x b l) q:=of_decide_eq_true h2
     exact Qav.2 ⟨some (kyX x b l),rfl,Bst.one hS (.inl ⟨rfl,fun q' e h4=>by cases e; exact QAd (QAe h3 h4)⟩)⟩
    ·have h3:¬ kLt (kyX x b l) q:=of_decide_eq_false h2
     exact Qav.2 ⟨some q,rfl,Bst.one hS (.inr ⟨rfl,q,rfl,h3⟩)⟩
theorem Qxz (hv:∀ t,ValR x b m (l++t)→t=[]) (k:Ky):(ValR x b m l∧k=kyX x b l)↔Qy4 x b m l k:=by
 constructor
 ·rintro ⟨h1,h2⟩
  exact ⟨[],by rw [List.append_nil]; exact h1,by rw [List.append_nil]; exact h2⟩
 ·rintro ⟨t,h1,h2⟩
  have:=hv t h1
  subst this
  rw [List.append_nil] at h1 h2
  exact ⟨h1,h2⟩
theorem QzW {vs:List Qaa} (hv:∀ t,ValR x b m (l++t)→∃ v t',t=v :: t'∧v∈vs) (k:Ky):(∃ v∈vs,Qy4 x b m (l++[v]) k)↔Qy4 x b m l k:=by
 constructor
 ·rintro ⟨v,_,t,h1,h2⟩
  rw [List.append_assoc] at h1 h2
  exact ⟨[v]++t,h1,h2⟩
 ·rintro ⟨t,h1,h2⟩
  obtain ⟨v,t',rfl,hm⟩:=hv t h1
  exact ⟨v,hm,t',by rw [List.append_assoc]; exact h1,by rw [List.append_assoc]; exact h2⟩
theorem QBG.bst {S:Ky→Prop} {s':Option Ky} (hs:QBG s) (h:Bst S s s') (hS:∀ k,S k→k.2.length≤1048576):QBG s':=fun k e=>(h.1 k e).elim (hs k) (hS k)
theorem QwT (hf:FewI x) (hR:QgG b) (h:ValR x b m l):Qu7 x l:=QHr hf hR h.1 h.2.1
theorem QzL (hf:FewI x) (hR:QgG b) (h:ValR x b m (l++v :: t)):v∈QtY x m l x.orders.length:=QHh (QwT hf hR h) h.2.2
theorem QFo (hf:FewI x) (hR:QgG b) (h:ValR x b m l):QtY x m l x.orders.length=[]:=QGa (QwT hf hR h) h.2.2 _
end
end Go.Proofs.YtoedkepcaigkeaaGreatDoor
namespace Go.Proofs.YtoedkepcaigkeaaGreatDoor
set_option linter.unusedSimpArgs false
set_option linter.unusedVariables false
set_option linter.unusedSectionVars false
def finR (x:Qad) (b:Qac) (m:Nat) (s:Option Ky):Qap:=match s with
 | none=>Qap.mk x (m:Int) false QHG 0
 | some k=>Qap.mk x (m:Int) true (rW b k.2) k.1
section
variable {x : Qad} {b r : Qac} {l t : List Qaa} {m n : Nat} {v : Qaa} {s : Option Ky}
theorem QH4:(finR x b m s).x=x:=by unfold finR; split <;> rfl
theorem QH3:(finR x b m s).set_=m:=by unfold finR; split <;> rfl
theorem QAY (k:Ky) (h:Qy4 x b m l k):k.2.length≤1048576:=by
 obtain ⟨t,h1,rfl⟩:=h
 exact h1.1
theorem QAZ {vs:List Qaa} (k:Ky) (h:∃ v∈vs,Qy4 x b m (l++[v]) k):k.2.length≤1048576:=by
 obtain ⟨v,_,h⟩:=h
 exact QAY k h
theorem QAO (hf:FewI x) (hR:QgG b) (hm:m<1024):∀ (n:Nat) {l:List Qaa} {s:Option Ky},Qsy x l→6<l.length+n→QBG s →
  post (QdR n (finP x b m s) l) fun f=>∃ s',f=finP x b m s'∧Bst (Qy4 x b m l) s s'
 | 0,l,s,hg,hn,_=>by have:=hg.six hf; omega
 | n+1,l,s,hg,hn,hs=>by
  have hx:=hf.ok
  have h6:=hg.six hf
  show post (Qf0 (QdR n) (finP x b m s) l) _
  unfold Qf0
  rw [QGY,QGX,QGF hx (by omega) hm,Qaj]
  have hnl:=QxS (x:=x) (m:=m) (l:=l) x.orders.length
  have h3:=hf.few
  refine QaU (fun h=>?_) (fun h=>?_)
  ·have hnil:QtY x m l x.orders.length=[]:=List.eq_nil_of_length_eq_zero (by simp only [QuM,lenI] at h; omega)
   refine Qa5 (QBO hf hR hg hs) fun f ⟨s',h1,h2⟩=>Qav.2 ⟨s',h1,h2.congr (Qxz fun t ht=>?_)⟩
   cases t with
   | nil=>rfl
   | cons v t'=>have:=QzL hf hR ht; rw [hnil] at this; cases this
  ·refine Qk7 ?_
   have hne:QtY x m l x.orders.length≠[]:=fun h0=>by rw [h0] at h; simp [lenI] at h
   refine QdA (fun q:Qar×Int=>∃ (i:Nat) (s':Option Ky),q=(finP x b m s',(i:Int))∧i≤(QtY x m l x.orders.length).length∧Bst (fun k=>∃ v∈(QtY x m l x.orders.length).take i,Qy4 x b m (l++[v]) k) s s') (fun q=>(QtY x m l x.orders.length).length-q.2.toNat) ⟨0,s,rfl,Nat.zero_le _,Bst.none fun k hk=>by simp at hk⟩ (by simp; omega) ?_
   rintro _ ⟨i,s',rfl,hi,hb⟩
   show post (Qeb (QdR n) l (QtY x m l x.orders.length) (finP x b m s') (i:Int)) _
   unfold Qeb
   rcases Nat.lt_or_ge i (QtY x m l x.orders.length).length with hlt|hge
   ·have e:(QtY x m l x.orders.length)[i]?=some (QtY x m l x.orders.length)[i]:=List.getElem?_eq_getElem hlt
    have hmem:=List.getElem_mem hlt
    generalize (QtY x m l x.orders.length)[i]=v at e hmem
    have hg2:=QEl hg hmem
    rw [QbP e,QDX (by omega),Qaj,QdX (QgA (by simp; omega)),incL e (by omega)]
    refine Qa5 (QAO hf hR hm n hg2 (by simp; omega) (hs.bst hb (QAZ (l:=l)))) fun f ⟨s2,h1,h2⟩=>?_
    subst h1
    exact QeV ⟨⟨i+1,s2,rfl,hlt,hb.more (T:=fun v k=>Qy4 x b m (l++[v]) k) e h2⟩,by simp; omega⟩
   ·obtain rfl:i=(QtY x m l x.orders.length).length:=by omega
    rw [Qbj]
    refine QcT (Qav.2 ⟨s',rfl,hb.congr fun k=>?_⟩)
    rw [List.take_length]
    refine QzW (fun t ht=>?_) k
    cases t with
    | nil=>rw [List.append_nil] at ht; exact absurd (QFo hf hR ht) hne
    | cons v t'=>exact ⟨v,t',rfl,QzL hf hR ht⟩
def PreS (s:Option Ky) (l:List Qaa):Prop:=∀ k,s=some k→∀ t,Qv9 (l++t) k.2=false
theorem QzM (hf:FewI x) (hR:QgG b) (h:ValR x b m (l++v :: t)):v∈Qqo x m l x.orders.length∧(v.drop=true→Qaa.mk v.order false ∉ Qqo x m l x.orders.length):=QHw (QwT hf hR h) h.2.2
theorem QDs (hf:FewI x) (hR:QgG b) (h:ValR x b m l):Qqo x m l x.orders.length=[]:=QGh (QwT hf hR h) h.2.2 _
theorem QBf (hf:FewI x) (hR:QgG b) (hg:Qsy x l) (hp:PreS s l) (g:Bool) (hgv:g=true→¬ ValR x b m l) :
  post (bnd (Qc8 (rW b l)) fun r2=>br (((neI r2.2 0)||(neI r2.1 (m:Int)))||g) (some (finR x b m s)) (bnd (QeU x (rW b l)) fun r3=>br ((eqI r3.2 0)&&((!(finR x b m s).ok)||(ltI r3.1 (finR x b m s).price))) (some (Qap.mk x (m:Int) true (rW b l) r3.1)) (some (finR x b m s))))
   fun f=>∃ s',f=finR x b m s'∧Bst (fun k=>ValR x b m l∧k=kyX x b l) s s':=by
 have h6:=hg.six hf
 obtain ⟨hR2,h9⟩:=rW_I hR (show l.length≤8 by omega)
 obtain ⟨k,hk1,hk2,_,hk3⟩:=QCO (r:=rW b l) hf.ok hg (show l.length≤1048576 by omega)
 obtain ⟨_,p1⟩:=QyM hf.ok hR2 h9
 have hval:=QFn (x:=x) (b:=b) (m:=m) (show l.length≤1048576 by omega) (show ordS l k from hk2)
 rw [hk3,Qaj]
 refine QaU (fun h=>Qav.2 ⟨s,rfl,Bst.none fun q hq=>?_⟩) (fun h=>?_)
 ·simp only [orT,QyI] at h
  rcases h with h|h
  ·have:=(hval.1 hq.1).2
   rw [this] at h
   omega
  ·exact hgv h hq.1
 ·simp only [orF,QAs] at h
  rw [p1,Qaj]
  refine QaU (fun h0=>?_) (fun h0=>?_)
  ·simp only [Bool.and_eq_true,QuM,Bool.or_eq_true,Bool.not_eq_true',Qrq] at h0
   have hv:ValR x b m l:=hval.2 ⟨h0.1,by omega⟩
   have hS:∀ q,(ValR x b m l∧q=kyX x b l)↔q=kyX x b l:=fun q=>⟨fun h=>h.2,fun h=>⟨hv,h⟩⟩
   refine Qav.2 ⟨some (kyX x b l),rfl,Bst.one hS (.inl ⟨rfl,fun q e=>?_⟩)⟩
   subst e
   have hlt:(prX x (rW b l)).1<q.1:=h0.2.elim (fun h=>by cases h) id
   rintro (h4|⟨h4,_⟩)
   ·have h4':q.1<(prX x (rW b l)).1:=h4
    omega
   ·have h4':q.1=(prX x (rW b l)).1:=h4
    omega
  ·simp only [Bool.and_eq_false_iff,Qzf,Bool.or_eq_false_iff,Bool.not_eq_false',Qrt] at h0
   by_cases hz:(prX x (rW b l)).2=0
   ·have hv:ValR x b m l:=hval.2 ⟨hz,by omega⟩
    have hS:∀ q,(ValR x b m l∧q=kyX x b l)↔q=kyX x b l:=fun q=>⟨fun h=>h.2,fun h=>⟨hv,h⟩⟩
    obtain ⟨h1,h2⟩:=h0.resolve_left fun h=>h hz
    cases s with
    | none=>cases h1
    | some q =>
     refine Qav.2 ⟨some q,rfl,Bst.one hS (.inr ⟨rfl,q,rfl,?_⟩)⟩
     rintro (h4|⟨h4,h5⟩)
     ·have h4':(prX x (rW b l)).1<q.1:=h4
      have h2':q.1≤(prX x (rW b l)).1:=h2
      omega
     ·have:=hp q rfl []
      rw [List.append_nil] at this
      have h5':Qv9 l q.2=true:=h5
      rw [this] at h5'
      cases h5'
   ·exact Qav.2 ⟨s,rfl,Bst.none fun q hq=>hz (hval.1 hq.1).1⟩
theorem QEC {vs:List Qaa} {i:Nat} {v:Qaa} (hi:i<vs.length):v∈vs.take i↔∃ j,j<i∧vs[j]?=some v:=Qpy (by omega)
theorem PreS.step {vs:List Qaa} (hs:vs.Pairwise fun a b=>ltV a b=true) {i:Nat} {s':Option Ky} (hp:PreS s l) (hb:Bst (fun k=>∃ v∈vs.take i,Qy4 x b m (l++[v]) k) s s') {w:Qaa} (hw:vs[i]?=some w):PreS s' (l++[w]):=by
 intro k e t
 rcases hb.1 k e with e|⟨v,hv,t',_,rfl⟩
 ·rw [List.append_assoc]
  exact hp k e _
 ·show Qv9 (l++[w]++t) (l++[v]++t')=false
  rw [List.append_assoc,List.append_assoc,QAh,List.singleton_append,List.singleton_append,Qv9]
  obtain ⟨j,hj,hjv⟩:=(QEC (List.getElem?_eq_some_iff.1 hw).1).1 hv
  have hlt:ltV v w=true:=by
   rw [List.pairwise_iff_getElem] at hs
   obtain ⟨a1,a2⟩:=List.getElem?_eq_some_iff.1 hw
   obtain ⟨b1,b2⟩:=List.getElem?_eq_some_iff.1 hjv
   have:=hs j i b1 a1 hj
   rw [a2,b2] at this
   exact this
  have h1:ltV w v=false:=Bool.eq_false_iff.2 fun h=>by
   have:=QAo h hlt
   rw [QyF] at this
   cases this
  have h2:¬ w=v:=fun h=>by rw [h,QyF] at hlt; cases hlt
  rw [h1,decide_eq_false h2]
  rfl
theorem QuN (hf:FewI x) (hR:QgG b) (hm:m<1024):∀ (n:Nat) {l:List Qaa} {s:Option Ky},Qsy x l→6<l.length+n→PreS s l →
  post (Qdz n (finR x b m s) (rW b l)) fun f=>∃ s',f=finR x b m s'∧Bst (fun k=>if b.rests.length>l.length then ValR x b m l∧k=kyX x b l else Qy4 x b m l k) s s'
 | 0,l,s,hg,hn,_=>by have:=hg.six hf; omega
 | n+1,l,s,hg,hn,hp=>by
  have hx:=hf.ok
  have h6:=hg.six hf
  show post (Qgz (Qdz n) (finR x b m s) (rW b l)) _
  unfold Qgz
  rw [QH4,QH3,show (rW b l).visits=l from rfl,QHv hx (by omega) hm,Qaj]
  have hnl:=Qx2 (x:=x) (m:=m) (l:=l) x.orders.length
  have h3:=hf.few
  refine QaU (fun h=>?_) (fun h=>?_)
  ·refine (QBf hf hR hg hp (gtI (lenI (Qqo x m l x.orders.length)) 0) fun hg1 hv=>?_).mono fun f ⟨s',h1,h2⟩=>⟨s',h1,h2.congr fun k=>?_⟩
   ·rw [QDs hf hR hv] at hg1
    cases hg1
   ·by_cases hfin:b.rests.length>l.length
    ·rw [if_pos hfin]
    ·rw [if_neg hfin]
     have hnil:Qqo x m l x.orders.length=[]:=List.eq_nil_of_length_eq_zero (by
      simp only [orT,QuM,Qy5,lenI] at h
      have h':(Qqo x m l x.orders.length).length=(0:Int)∨(b.rests.length:Int)>l.length:=h
      omega)
     refine Qxz (fun t ht=>?_) k
     cases t with
     | nil=>rfl
     | cons v t'=>have:=(QzM hf hR ht).1; rw [hnil] at this; cases this
  ·have hfin:¬ b.rests.length>l.length:=fun hgt=>by
    simp only [orF,Qzf,Qvh,lenI] at h
    have h':(b.rests.length:Int)≤l.length:=h.2
    omega
   have hne:Qqo x m l x.orders.length≠[]:=fun h0=>by rw [h0] at h; simp [lenI] at h
   refine Qk7 ?_
   refine QdA (fun q:Qap×Qac×Int=>∃ (i:Nat) (s':Option Ky),q=(finR x b m s',rW b l,(i:Int))∧i≤(Qqo x m l x.orders.length).length∧Bst (fun k=>∃ v∈(Qqo x m l x.orders.length).take i,Qy4 x b m (l++[v]) k) s s') (fun q=>(Qqo x m l x.orders.length).length-q.2.2.toNat) ⟨0,s,rfl,Nat.zero_le _,Bst.none fun k hk=>by simp at hk⟩ (by simp; omega) ?_
   rintro _ ⟨i,s',rfl,hi,hb⟩
   show post (Qex (Qdz n) (Qqo x m l x.orders.length) (finR x b m s') (rW b l) (i:Int)) _
   unfold Qex
   rcases Nat.lt_or_ge i (Qqo x m l x.orders.length).length with hlt|hge
   ·have e:(Qqo x m l x.orders.length)[i]?=some (Qqo x m l x.orders.length)[i]:=List.getElem?_eq_getElem hlt
    have hmem:=List.getElem_mem hlt
    generalize (Qqo x m l x.orders.length)[i]=v at e hmem
    have hg2:=QEt hg hmem
    have hp2:=hp.step (Qww _) hb e
    have hok:okN l.length 16:=QgA (by omega)
    have hok2:okN (l++[v]).length 16:=QgA (by simp; omega)
    rw [Qa8 (by simp [lenI]; omega),show (rW b l).visits=l from rfl,QdX hok,QaV e,Qaj,QdX hok2,QFb (by omega),Qaj,incL e (by omega)]
    have go:post (bnd (Qdz n (finR x b m s') (Qac.mk (rW b l).type_ (rW b l).start (rW b l).rests (l++[v]))) fun r5=>some (Sum.inl (r5,rW b l,(i:Int)+1):(Qap×Qac×Int)⊕Qap)) fun z=>(∀ s2,z=.inl s2→(∃ (i:Nat) (s':Option Ky),s2=(finR x b m s',rW b l,(i:Int))∧i≤(Qqo x m l x.orders.length).length∧Bst (fun k=>∃ v∈(Qqo x m l x.orders.length).take i,Qy4 x b m (l++[v]) k) s s')∧(Qqo x m l x.orders.length).length-s2.2.2.toNat<(Qqo x m l x.orders.length).length-((i:Int)).toNat)∧∀ e,z=.inr e→post (some e) fun f=>∃ s',f=finR x b m s'∧Bst (fun k=>if b.rests.length>l.length then ValR x b m l∧k=kyX x b l else Qy4 x b m l k) s s':=by
     refine Qa5 (QuN hf hR hm n hg2 (by simp; omega) hp2) fun f ⟨s2,h1,h2⟩=>?_
     subst h1
     refine QeV ⟨⟨i+1,s2,rfl,hlt,hb.more (T:=fun v k=>Qy4 x b m (l++[v]) k) e (h2.congr fun k=>?_)⟩,by simp; omega⟩
     rw [if_neg (by simp; omega)]
    cases hd:v.drop with
    | false=>rw [QgV]; exact go
    | true =>
     rw [Qgh]
     refine QaU (fun hon=>?_) (fun _=>go)
     refine QeV ⟨⟨i+1,s',rfl,hlt,hb.more (T:=fun v k=>Qy4 x b m (l++[v]) k) e (Bst.none fun k hk=>?_)⟩,by simp; omega⟩
     obtain ⟨t',h1,_⟩:=hk
     rw [List.append_assoc] at h1
     exact (QzM hf hR h1).2 hd (QzQ.1 hon)
   ·obtain rfl:i=(Qqo x m l x.orders.length).length:=by omega
    rw [Qa3 (by simp [lenI])]
    refine QcT (Qav.2 ⟨s',rfl,hb.congr fun k=>?_⟩)
    rw [List.take_length,if_neg hfin]
    refine QzW (fun t ht=>?_) k
    cases t with
    | nil=>rw [List.append_nil] at ht; exact absurd (QDs hf hR ht) hne
    | cons v t'=>exact ⟨v,t',rfl,(QzM hf hR ht).1⟩
end
end Go.Proofs.YtoedkepcaigkeaaGreatDoor
namespace Go.Proofs.YtoedkepcaigkeaaGreatDoor
set_option linter.unusedSimpArgs false
set_option linter.unusedVariables false
set_option linter.unusedSectionVars false
section
variable {x : Qad} {b r : Qac} {l t : List Qaa} {m n : Nat} {v : Qaa} {s : Option Ky} {kind : Int}
theorem QDt (hx:Qe2 x) (hR:QgG r) (h9:QwG r):QnV x r=some (evX x r).2.2:=by
 unfold QnV
 rw [(Qz6 hx hR h9).2.1,Qaj]
def isS (v a:Qqp):Bool:=eqI v.ready a.ready&&(eqI v.driven a.driven&&true)
end
end Go.Proofs.YtoedkepcaigkeaaGreatDoor
namespace Go.Proofs.YtoedkepcaigkeaaGreatDoor
set_option linter.unusedSimpArgs false
set_option linter.unusedVariables false
set_option linter.unusedSectionVars false
section
variable {x : Qad} {b r : Qac} {l t : List Qaa} {m n : Nat} {v : Qaa} {s : Option Ky} {kind from_ total : Int} {ty : Qak} {st : Qaw}
def Quv (x:Qad) (b:Qac) (m:Nat) (k:Ky):Prop:=if b.rests.length>b.visits.length then ValR x b m b.visits∧k=kyX x b b.visits else Qy4 x b m b.visits k
open Classical in
noncomputable def optX (x:Qad) (b:Qac) (m:Nat):Option Ky:=if h:∃ s,Bst (Quv x b m) none s then h.choose else none
theorem QAw (h:Bst (Quv x b m) none s):s=optX x b m:=by
 have he:∃ s,Bst (Quv x b m) none s:=⟨s,h⟩
 unfold optX
 rw [dif_pos he]
 exact h.uniq he.choose_spec
def colX (b:Qac) (m:Nat) (s:Option Ky):Qaf×Int:=match s with
 | none=>(zCol,24)
 | some k=>(colP b m k,0)
noncomputable def Qyj (x:Qad) (b:Qac) (set_:Int):Qaf×Int :=
 if (0≤b.type_∧b.type_<x.types.length)∧0<set_∧set_<((2 ^ x.orders.length:Nat):Int) then colX b set_.toNat (optX x b set_.toNat) else (zCol,2)
theorem shr0 (hx:Qe2 x) (hm:0<m):eqI (shrK .i64 (m:Int) (lenI x.orders)) 0=decide (m<2 ^ x.orders.length):=by
 have h10:=hx.orders
 unfold lenI
 rw [shrN (by omega),Bool.eq_iff_iff,QuM,decide_eq_true_iff]
 have h2:=Nat.two_pow_pos x.orders.length
 constructor
 ·intro h
  have:m / 2 ^ x.orders.length=0:=by omega
  rcases (Nat.div_eq_zero_iff).1 this with h'|h'
  ·omega
  ·exact h'
 ·intro h
  rw [Nat.div_eq_of_lt h]
  rfl
theorem pow8 (hf:FewI x):2 ^ x.orders.length≤8:=Nat.le_trans (Nat.pow_le_pow_right (n:=2) (by omega) hf.few) (by decide)
theorem Qkd (hf:FewI x) (hR:QgG b) (hg:Qsy x b.visits) {set_:Int}:Qfl x b set_=some (Qyj x b set_):=by
 have hx:=hf.ok
 have h8:=pow8 hf
 have h6:=hg.six hf
 unfold Qfl Qyj Qpb
 by_cases ht:0≤b.type_∧b.type_<x.types.length
 ·rw [Qa3 (by simp [lenI]; omega)]
  by_cases hp:0<set_
  ·obtain ⟨m,rfl⟩:∃ m:Nat,set_=m:=⟨set_.toNat,by omega⟩
   have h10:=hx.orders
   rw [Qa8 (by simpa using hp),QdX (by unfold lenI; omega),Qaj,shr0 hx (by omega)]
   by_cases hm:m<2 ^ x.orders.length
   ·rw [Qa8 (decide_eq_true hm),if_pos ⟨ht,hp,by omega⟩,Int.toNat_natCast]
    have hm2:m<1024:=by omega
    obtain ⟨k,hk1,hk2,hk3,_⟩:=QCO hx hg (show b.visits.length≤1048576 by omega)
    have hJ:∀ s,QgC (finP x b m s)=some (colX b m s):=fun s=>by
     unfold QgC
     cases s <;> rfl
    have hz:Qar.mk x b (m:Int) false (Qaf.mk 0 0 0 (Qac.mk 0 0 [] []))=finP x b m none:=rfl
    rw [hk3,Qaj,hz]
    have fin:∀ s,Bst (Quv x b m) none s→QgC (finP x b m s)=some (colX b m (optX x b m)):=fun s hs=>by rw [hJ,← QAw hs]
    by_cases hsub:(k:Int)=0∨True
    ·by_cases hno:Qta .i64 (k:Int) (m:Int)=0
     ·rw [Qa3 (by simp; exact hno)]
      unfold Qk8
      rw [Qaj]
      by_cases hfin:b.rests.length>b.visits.length
      ·rw [Qa8 (by simp [lenI]; omega)]
       obtain ⟨f,hfe,s',rfl,hb⟩:=QBO (m:=m) hf hR hg (s:=none) (fun k h=>by cases h)
       rw [hfe,Qaj]
       exact fin s' (hb.congr fun k=>by unfold Quv; rw [if_pos hfin])
      ·rw [Qa3 (by simp [lenI]; omega)]
       obtain ⟨f,hfe,s',rfl,hb⟩:=QAO hf hR hm2 QoM hg (s:=none) (by unfold QoM; omega) (fun k h=>by cases h)
       show bnd (QdR QoM (finP x b m none) b.visits) _=_
       rw [hfe,Qaj]
       exact fin s' (hb.congr fun k=>by unfold Quv; rw [if_neg hfin])
     ·rw [Qa8 (by simp; exact hno)]
      refine fin none (Bst.none fun q hq=>?_)
      have hval:∃ t,ValR x b m (b.visits++t):=by
       unfold Quv at hq
       split at hq
       ·exact ⟨[],by rw [List.append_nil]; exact hq.1⟩
       ·obtain ⟨t,h,_⟩:=hq; exact ⟨t,h⟩
      obtain ⟨t,hv⟩:=hval
      refine hno ((QBK (by omega) (by omega)).2 fun i hi=>?_)
      rw [hv.2.2,QrH]
      rw [hk2,QrH] at hi
      obtain ⟨v,h1,h2⟩:=hi
      exact ⟨v,List.mem_append_left _ h1,h2⟩
    ·exact absurd (.inr trivial) hsub
   ·rw [Qa3 (decide_eq_false hm),if_neg (by omega)]
    rfl
  ·rw [Qa3 (by simpa using hp),Qaj,QgV,if_neg (by omega)]
   rfl
 ·rw [Qa8 (by simp [lenI]; omega),if_neg (by omega)]
  rfl
theorem QCy (hf:FewI x) {B:Int×Int→Option ((Int×Int)⊕Int)} (hin:∀ (k:Nat) (a:Int),k<x.orders.length→B (a,(k:Int))=some (.inl (mulK .i64 2 a,(k:Int)+1))) (hend:∀ a,B (a,(x.orders.length:Int))=some (.inr a)):QaW B (1,0)=some ((2 ^ x.orders.length:Nat):Int):=by
 have h3:=hf.few
 have h0:((1:Int),(0:Int))=(fun k:Nat=>(((2 ^ k:Nat):Int),(k:Int))) 0:=by simp
 rw [h0]
 refine QeQ x.orders.length (fun k:Nat=>(((2 ^ k:Nat):Int),(k:Int))) (by omega) (fun k hk=>?_) (hend _)
 rw [hin k _ hk]
 have h8:2 ^ k≤8:=Nat.le_trans (Nat.pow_le_pow_right (n:=2) (by omega) (show k≤3 by omega)) (by decide)
 have hk1:2 ^ (k+1)=2*2 ^ k:=by rw [Nat.pow_succ,Nat.mul_comm]
 show some (Sum.inl (mulK .i64 2 ((2 ^ k:Nat):Int),(k:Int)+1))=some (Sum.inl (((2 ^ (k+1):Nat):Int),((k+1:Nat):Int)))
 rw [hk1]
 generalize 2 ^ k=q at *
 rw [mulI (by omega) (by omega)]
 simp
theorem Qsn (hf:FewI x) (hR:QgG b) (hg:Qsy x b.visits) {set_:Int}:QgP x b set_=some (Qyj x b set_):=by
 have hx:=hf.ok
 have h8:=pow8 hf
 have h6:=hg.six hf
 unfold QgP Qyj
 rw [Qch (QCy hf (B:=fun s=>Qdk x b set_ s.1 s.2) (fun k a hk=>by
  show Qdk x b set_ a (k:Int)=_
  unfold Qdk
  rw [Qa8 (by simp [lenI]; omega),inc hk (by have:=hx.orders; omega)]) (fun a=>by
  show Qdk x b set_ a (x.orders.length:Int)=_
  unfold Qdk
  rw [Qa3 (by simp [lenI])]))]
 by_cases hc:(0≤b.type_∧b.type_<x.types.length)∧0<set_∧set_<((2 ^ x.orders.length:Nat):Int)
 ·rw [if_pos hc]
  generalize hN:((2 ^ x.orders.length:Nat):Int)=N at *
  rw [Qa3 (by simp [lenI]; omega)]
  obtain ⟨m,rfl⟩:∃ m:Nat,set_=m:=⟨set_.toNat,by omega⟩
  rw [Int.toNat_natCast]
  have hz:Qap.mk x (m:Int) false (Qac.mk 0 0 [] []) 0=finR x b m none:=rfl
  obtain ⟨f,hfe,s',rfl,hb⟩:=QuN hf hR (show m<1024 by omega) QoM hg (s:=none) (by unfold QoM; omega) (fun k h=>by cases h)
  rw [hz]
  show bnd (Qdz QoM (finR x b m none) (rW b b.visits)) _=_
  rw [hfe,Qaj,← QAw (s:=s') hb]
  cases s' <;> rfl
 ·rw [if_neg hc]
  generalize hN:((2 ^ x.orders.length:Nat):Int)=N at *
  rw [Qa8 (by simp [lenI]; omega)]
  rfl
end
end Go.Proofs.YtoedkepcaigkeaaGreatDoor
namespace Go.Proofs.YtoedkepcaigkeaaGreatDoor
set_option linter.unusedSimpArgs false
set_option linter.unusedVariables false
set_option linter.unusedSectionVars false
section
variable {x : Qad} {b r : Qac} {l t : List Qaa} {m n : Nat} {v : Qaa} {s : Option Ky} {kind from_ total : Int} {ty : Qak} {st : Qaw}
theorem Qzl:Qsy x []:=⟨by simp,fun v h=>by cases h⟩
end
end Go.Proofs.YtoedkepcaigkeaaGreatDoor
namespace Go.Proofs.YtoedkepcaigkeaaGreatDoor
theorem Qld:QaS=some true:=by kernel_rfl
end Go.Proofs.YtoedkepcaigkeaaGreatDoor
namespace Go.Proofs.YtoedkepcaigkeaaGreatDoor
set_option linter.unusedSimpArgs false
set_option linter.unusedVariables false
set_option linter.unusedSectionVars false
section
variable {x : Qad} {b r : Qac} {l t : List Qaa} {m n : Nat} {v : Qaa} {s : Option Ky} {kind set_ : Int} {a c : Qaf}
theorem QAB (hI:QFr x):post (QeR x) fun ok=>ok=true→FewI x:=by
 unfold QeR
 refine QaU (fun h3=>Qa5 (Qzc hI) fun l hl=>Qav.2 fun h=>?_) (fun _=>Qav.2 fun h=>by cases h)
 simp only [QuM,QyA,lenI] at h h3
 exact ⟨hl (List.length_eq_zero_iff.1 (by omega)),by omega⟩
def badK (x:Qad) (b:Qac) (k:Nat):Bool:=match b.visits[k]? with
 | some v=>!inO x v||(b.visits.take k).any (isV v)
 | none=>false
theorem Qy7 (hR:QgG b):post (Qfm x b) fun ok=>ok=true→Qsy x b.visits:=by
 have hv:=hR.visits
 unfold Qfm
 refine QaU (fun _=>Qav.2 fun h=>by cases h) (fun _=>?_)
 rcases QEx (B:=fun s=>Qct x b s) hv (badK x b) (fun _=>(.inr false:Unit⊕Bool)) (N:=.inl ()) (fun i hi=>by
  obtain ⟨v,e⟩:∃ v,b.visits[i]?=some v:=⟨_,List.getElem?_eq_getElem hi⟩
  show Qct x b i=_
  have hb:badK x b i=(!inO x v||(b.visits.take i).any (isV v)):=by unfold badK; rw [e]
  unfold Qct
  rw [QbP e,incL e hv,hb]
  have hP:(ltI v.order 0||geI v.order (lenI x.orders))=!inO x v:=by unfold inO lenI; rw [Bool.eq_iff_iff]; simp
  rw [hP]
  by_cases hin:inO x v=false
  ·rw [hin]; rfl
  ·rw [show inO x v=true by simpa using hin,Bool.not_true,QgV,Bool.false_or]
   have l2:=QwD (B:=fun s=>Qcu x b i v s) (n:=i) (by omega) (fun k=>match b.visits[k]? with|some w=>isV v w|none=>false) (y:=(.inr false:Unit⊕Bool)) (N:=.inl ()) (b:=(b.visits.take i).any (isV v)) (by
    rw [QzQ,Qpy (by omega)]
    constructor
    ·rintro ⟨k,hk,he⟩
     exact ⟨k,hk,by rw [he]; exact QDE.2 rfl⟩
    ·rintro ⟨k,hk,he⟩
     rw [List.getElem?_eq_getElem (show k<b.visits.length by omega)] at he
     exact ⟨k,hk,by rw [List.getElem?_eq_getElem (show k<b.visits.length by omega)]; rw [QDE.1 he]⟩) (fun k hk=>by
    have ek:b.visits[k]?=some (b.visits[k]'(by omega)):=List.getElem?_eq_getElem _
    show Qcu x b i v k=_
    unfold Qcu
    rw [Qa8 (by simp; omega),QaV ek,Qaj,QCq,incL ek hv,brs,ek]) (by
    show Qcu x b i v i=_
    unfold Qcu
    rw [Qa3 (by simp)])
   rw [Qch l2]
   cases (b.visits.take i).any (isV v) <;> rfl) (by
  show Qct x b b.visits.length=_
  unfold Qct
  rw [Qbj]) with ⟨k,_,_,_,h4⟩|⟨h1,h4⟩
 ·rw [Qch h4,QjR]
  exact Qav.2 fun h=>by cases h
 ·rw [Qch h4,Qf9]
  refine Qav.2 fun _=>⟨?_,fun v hv=>?_⟩
  ·refine Classical.byContradiction fun hn=>?_
   obtain ⟨k,hk,j,hj,he⟩:=QvN.1 hn
   have:=h1 k hk
   unfold badK at this
   rw [List.getElem?_eq_getElem hk] at this he
   simp only [Bool.or_eq_false_iff] at this
   have h2:=QzQ.2 ((Qpy (show k≤b.visits.length by omega)).2 ⟨j,hj,he⟩)
   rw [this.2] at h2
   cases h2
  ·obtain ⟨k,hk,rfl⟩:=List.getElem_of_mem hv
   have:=h1 k hk
   unfold badK at this
   rw [List.getElem?_eq_getElem hk] at this
   simp only [Bool.or_eq_false_iff,Bool.not_eq_false'] at this
   have:=this.1
   unfold inO at this
   exact of_decide_eq_true this
theorem QCM (hf:FewI x) (hR:QgG b) (hg:Qsy x b.visits) (hm:m<1024):Bst (Quv x b m) none (optX x b m):=by
 have h6:=hg.six hf
 obtain ⟨f,hfe,s',rfl,hb⟩:=QuN hf hR hm QoM hg (s:=none) (by unfold QoM; omega) (fun k h=>by cases h)
 rw [← QAw (s:=s') hb]
 exact hb
theorem QAJ {k:Ky} (h:Quv x b m k):∃ t,k.2=b.visits++t∧(b.rests.length>b.visits.length→t=[])∧ValR x b m k.2∧k=kyX x b k.2:=by
 unfold Quv at h
 split at h
 ·rename_i hgt
  obtain ⟨h1,h2⟩:=h
  have e:k.2=b.visits:=by rw [h2]; rfl
  exact ⟨[],by rw [e]; simp,fun _=>rfl,by rw [e]; exact h1,by rw [e]; exact h2⟩
 ·rename_i hle
  obtain ⟨t,h1,h2⟩:=h
  have e:k.2=b.visits++t:=by rw [h2]; rfl
  exact ⟨t,e,fun h=>absurd h hle,by rw [e]; exact h1,by rw [e]; exact h2⟩
structure ColI (c:Qaf):Prop where
 visits:c.route.visits.length≤1048576
 rests:c.route.rests.length≤1048576
theorem QBQ (hf:FewI x) (hR:QgG b) (hg:Qsy x b.visits):ColI (Qyj x b set_).1:=by
 have h8:=pow8 hf
 unfold Qyj
 split
 ·rename_i hc
  have hb:=QCM (m:=set_.toNat) hf hR hg (by omega)
  cases ho:optX x b set_.toNat with
  | none=>exact ⟨Nat.zero_le _,Nat.zero_le _⟩
  | some k =>
   rw [ho] at hb
   obtain ⟨t,_,_,h3,_⟩:=QAJ ((hb.1 k rfl).resolve_left fun h=>by cases h)
   exact ⟨h3.1,hR.rests⟩
 ·exact ⟨Nat.zero_le _,Nat.zero_le _⟩
theorem QGi (h:ColI c):QeK c c=some true:=by
 unfold QeK
 rw [Qa8 (by simp),QBh (by simp) (fun r hr=>by rw [List.mem_singleton.1 hr]; exact ⟨h.visits,h.rests⟩),Qaj]
theorem QFV:QFU (Qek.mk [r] []) b=Qny r b:=by
 unfold QFU cntB othB
 show (eqI (sumF _ [r]) 1&&!([r].any _))=_
 rw [Qu2,List.any_cons,List.any_nil,Bool.or_false]
 cases Qny r b <;> rfl
theorem Qwp (hr:r.visits.length≤1048576) (hv:b.visits.length≤1048576) (hb:b.rests.length≤1048576):Qmc r b=some (Qny r b):=by
 unfold Qmc
 rw [QFs (by simp) (fun q hq=>by rw [List.mem_singleton.1 hq]; exact hr) (by simp) (fun q hq=>by rw [List.mem_singleton.1 hq]; exact ⟨hv,hb⟩),Qaj]
 rw [List.any_cons,List.any_nil,Bool.or_false,QFV]
 cases Qny r b <;> rfl
theorem QvR (x:Qad) (hI:QFr x) (r:Qac) (hR:QgG r) (b:Qac) (hB:QgG b) (set_:Int):QgS x r b set_=some true:=by
 apply post.eq
 unfold QgS Qjl
 rw [Qld,Qwp hR.visits hB.visits hB.rests,QAR hB.visits hB.rests]
 refine QaU (fun _=>Qav.2 rfl) (fun _=>?_)
 rw [Qaj,Qaj,Qaj,Qa8 (by simp)]
 refine Qa5 (QAB hI) fun ok hok=>QaU (fun h=>?_) (fun _=>Qav.2 rfl)
 refine Qa5 (Qy7 (x:=x) hB) fun ok2 hok2=>QaU (fun h2=>?_) (fun _=>Qav.2 rfl)
 have hf:=hok h
 have hg:=hok2 h2
 rw [Qkd hf hB hg,Qaj,Qsn hf hB hg,Qaj,Qa8 (by simp),QGi (QBQ hf hB hg),Qaj,Qgh,Qaj]
 exact Qav.2 rfl
end
end Go.Proofs.YtoedkepcaigkeaaGreatDoor
namespace Go.Proofs.YtoedkepcaigkeaaGreatDoor
set_option linter.unusedSimpArgs false
set_option linter.unusedVariables false
set_option linter.unusedSectionVars false
section
variable {x : Qad} {b r : Qac} {l t : List Qaa} {m n : Nat} {v : Qaa} {s : Option Ky} {kind set_ : Int} {a c : Qaf}
theorem Qy8 (hm0:0<m) (hm:m<2 ^ x.orders.length) (ht:0≤b.type_∧b.type_<x.types.length):Qyj x b (m:Int)=colX b m (optX x b m):=by
 unfold Qyj
 rw [if_pos ⟨ht,by omega,by omega⟩,Int.toNat_natCast]
theorem QAX (hf:FewI x) (hR:QgG b) (hg:Qsy x b.visits):((Qyj x b set_).2≠0∧(Qyj x b set_).1=zCol) ∨
  ∃ (m:Nat) (k:Ky),set_=m∧0<m∧m<2 ^ x.orders.length∧(0≤b.type_∧b.type_<x.types.length)∧Qyj x b set_=(colP b m k,0)∧optX x b m=some k∧Quv x b m k:=by
 have h8:=pow8 hf
 by_cases hc:(0≤b.type_∧b.type_<x.types.length)∧0<set_∧set_<((2 ^ x.orders.length:Nat):Int)
 ·obtain ⟨m,rfl⟩:∃ m:Nat,set_=m:=⟨set_.toNat,by omega⟩
  rw [Qy8 (by omega) (by omega) hc.1]
  have hb:=QCM (m:=m) hf hR hg (by omega)
  cases ho:optX x b m with
  | none=>exact .inl ⟨by show (24:Int)≠0; omega,rfl⟩
  | some k =>
   rw [ho] at hb
   exact .inr ⟨m,k,rfl,by omega,by omega,hc.1,rfl,ho,(hb.1 k rfl).resolve_left fun h=>by cases h⟩
 ·refine .inl ⟨?_,?_⟩
  ·unfold Qyj; rw [if_neg hc]; show (2:Int)≠0; omega
  ·unfold Qyj; rw [if_neg hc]
theorem QFc (hf:FewI x) (hR:QgG b) (h:ValR x b m l):QcH (rW b l)=some ((m:Int),0)∧Qc8 (rW b l)=some ((m:Int),0)∧Qec x (rW b l)=some (prX x (rW b l))∧QeU x (rW b l)=some (prX x (rW b l))∧QnV x (rW b l)=some 0:=by
 have hq:=QwT hf hR h
 obtain ⟨k,hk1,hk2,hk3,hk4⟩:=QCO (r:=rW b l) hf.ok hq.good h.1
 have hkm:k=m:=QxW (l:=l) hk2 h.2.2
 have h6:=hq.good.six hf
 obtain ⟨hR2,h9⟩:=rW_I hR (show l.length≤8 by omega)
 obtain ⟨p1,p2⟩:=QyM hf.ok hR2 h9
 rw [hkm] at hk3 hk4
 exact ⟨hk3,hk4,p1,p2,by rw [QDt hf.ok hR2 h9,QIk hf.ok hR2 h9 h.2.1]⟩
theorem QuD (x:Qad) (hI:QFr x) (b:Qac) (hB:QgG b) (set_:Int):Qf3 x b set_=some true:=by
 apply post.eq
 unfold Qf3
 rw [Qld]
 refine Qa5 (QAB hI) fun ok hok=>QaU (fun h=>?_) (fun _=>Qav.2 rfl)
 refine Qa5 (Qy7 (x:=x) hB) fun ok2 hok2=>QaU (fun h2=>?_) (fun _=>Qav.2 rfl)
 have hf:=hok h
 have hg:=hok2 h2
 have hv:=hB.visits
 have hr:=hB.rests
 rw [Qkd hf hB hg,Qaj]
 rcases QAX (set_:=set_) hf hB hg with ⟨h3,h4⟩|⟨m,k,rfl,hm0,hm,ht,h3,h4,h5⟩
 ·rw [Qa8 (by simpa using h3),h4,Qa8 (by decide),Qaj]
  exact Qav.2 rfl
 ·obtain ⟨t,e1,e2,e3,e4⟩:=QAJ h5
  obtain ⟨o1,o2,o3,o4,o5⟩:=QFc hf hB e3
  have hkl:=e3.1
  have hpr:(prX x (rW b k.2)).1=k.1:=by rw [e4]; rfl
  have hlen:k.2.length=b.visits.length+t.length:=by rw [e1,List.length_append]
  rw [h3]
  have hc:(colP b m k,(0:Int)).1.route=rW b k.2:=rfl
  rw [Qa3 (show neI (colP b m k,(0:Int)).2 0=false from rfl),hc,o1,Qaj,o3,Qaj]
  rw [Qa3 (by
   simp only [orF,QAs,Qrt,lenI]
   refine ⟨⟨⟨⟨⟨⟨⟨⟨⟨trivial,e3.2.1⟩,trivial⟩,hpr⟩,rfl⟩,rfl⟩,rfl⟩,rfl⟩,rfl⟩,?_⟩
   show (b.visits.length:Int)≤(k.2.length:Int)
   omega)]
  have l1:=QeX (B:=fun s=>Qbx x b (m:Int) (colP b m k,0) s) (l:=b.visits) hv (fun _=>false) (y:=(.inr false:Unit⊕Bool)) (N:=.inl ()) (fun i a e=>by
   have hi:=(List.getElem?_eq_some_iff.1 e).1
   show Qbx x b (m:Int) (colP b m k,0) i=_
   unfold Qbx
   have e5:k.2[i]?=some a:=by rw [e1,List.getElem?_append_left hi,e]
   rw [QbP e,show (colP b m k,(0:Int)).1.route.visits=k.2 from rfl,QaV e5,Qaj,Qa8 (by simp),incL e hv]
   rfl) (by
   show Qbx x b (m:Int) (colP b m k,0) b.visits.length=_
   unfold Qbx
   rw [Qbj])
  have l2:=QeX (B:=fun s=>Qbn x b (m:Int) (colP b m k,0) s) (l:=b.rests) hr (fun _=>false) (y:=(.inr false:Unit⊕Bool)) (N:=.inl ()) (fun i a e=>by
   show Qbn x b (m:Int) (colP b m k,0) i=_
   unfold Qbn
   rw [QbP e,show (colP b m k,(0:Int)).1.route.rests=b.rests from rfl,QaV e,Qaj,Qa8 (by simp),incL e hr]
   rfl) (by
   show Qbn x b (m:Int) (colP b m k,0) b.rests.length=_
   unfold Qbn
   rw [Qbj])
  simp only [List.any_eq_true,Bool.false_eq_true,and_false,exists_false,if_false] at l1 l2
  rw [Qch l1,Qf9,Qch l2,Qf9]
  refine QaU (fun hfin=>?_) (fun hnf=>?_)
  ·have:=e2 (by simp only [Qy5,lenI] at hfin; omega)
   rw [Qa8 (by
    show eqI (lenI k.2) (lenI b.visits)=true
    rw [e1,this,List.append_nil]; simp)]
   exact Qav.2 rfl
  ·have hq:=QwT hf hB e3
   have hB2:QgG (rW b k.2):=⟨hB.type_,hB.start,hB.rests,hkl⟩
   have hopt:optX x (rW b k.2) m=some k:=by
    refine (QAw (Bst.one (k:=k) (fun q=>?_) (.inl ⟨rfl,fun q h=>by cases h⟩))).symm
    have hval:∀ w,ValR x (rW b k.2) m w↔ValR x b m w:=fun w=>Iff.rfl
    unfold Quv
    rw [if_neg (by
     simp only [Qvh,lenI] at hnf
     show ¬ b.rests.length>k.2.length
     omega)]
    rw [← Qxz (fun t ht=>?_)]
    ·constructor
     ·intro hh
      rw [hh.2,e4]
      rfl
     ·intro hh
      rw [hh]
      exact ⟨e3,by rw [e4]; rfl⟩
    ·cases t with
     | nil=>rfl
     | cons w t' =>
      have h7:=QzL hf hB2 ht
      rw [show (rW b k.2).visits=k.2 from rfl,QFo hf hB e3] at h7
      cases h7
   have hrw:Qac.mk b.type_ b.start b.rests (rW b k.2).visits=rW b k.2:=rfl
   rw [hrw,Qkd hf hB2 hq.good,Qaj,Qy8 (b:=rW b k.2) hm0 hm ht,hopt]
   have hcol:colX (rW b k.2) m (some k)=(colP b m k,0):=rfl
   rw [hcol,Qa8 (show eqI (colP b m k,(0:Int)).2 0=true from rfl),QGi ⟨hkl,hr⟩,Qaj,Qgh]
   exact Qav.2 rfl
theorem QHs (hf:FewI x) (hR:QgG r):Qec x r=some (prX x r):=by
 by_cases h9:9<r.visits.length∧r.visits.length≤20
 ·have hx:=hf.ok
  have hs':¬ seqS x r.visits=0:=fun h0=>by
   have:=(Qxs h0).good.six hf
   omega
  have hp:∃ w,Qec x r=some w:=by
   unfold Qec Qfu
   by_cases ht:0≤r.type_∧r.type_<x.types.length
   ·rw [Qa3 (by simp [lenI]; omega),Qxv hx hR.visits,Qaj,Qa8 (by simpa using hs'),Qaj,Qa8 (by simpa using hs')]
    exact ⟨_,rfl⟩
   ·rw [Qa8 (by simp [lenI]; omega),Qaj,Qa8 (by decide)]
    exact ⟨_,rfl⟩
  obtain ⟨w,hw⟩:=hp
  unfold prX
  rw [hw]
  rfl
 ·exact (QyM hf.ok hR h9).1
theorem QCQ (hl:r.visits.length≤1048576):post (QcH r) fun _=>True:=by
 unfold QcH
 refine Qk7 ?_
 refine QdA (fun s=>∃ (k m:Nat),s=((m:Int),(k:Int))∧k≤r.visits.length∧m<2 ^ 63) (fun s=>r.visits.length-s.2.toNat) ⟨0,0,rfl,Nat.zero_le _,by omega⟩ (by simp; omega) ?_
 rintro _ ⟨k,m,rfl,hk,hm⟩
 show post (QdV r (m:Int) (k:Int)) _
 unfold QdV
 rcases Nat.lt_or_ge k r.visits.length with h|h
 ·have e:r.visits[k]?=some r.visits[k]:=List.getElem?_eq_getElem h
  generalize r.visits[k]=v at e
  rw [QbP e]
  refine QaU (fun _=>QcT (Qav.2 trivial)) (fun h0=>?_)
  simp only [orF,Qrt,Qvh] at h0
  obtain ⟨n,hn⟩:∃ n:Nat,v.order=n:=⟨v.order.toNat,by omega⟩
  have h2:2 ^ n<2 ^ 63:=Nat.pow_lt_pow_right (by omega) (by omega)
  rw [hn,QdX (by omega),incL e hl,shlN (by omega),orN (by omega) (by omega)]
  exact QeV ⟨⟨k+1,m ||| 2 ^ n,by simp,h,Nat.or_lt_two_pow hm h2⟩,by simp; omega⟩
 ·obtain rfl:k=r.visits.length:=by omega
  rw [Qbj]
  exact QcT (Qav.2 trivial)
theorem QHt:rW r r.visits=r:=rfl
theorem QGr (hf:FewI x) (hR:QgG r) (h:(prX x r).2=0):∃ m:Nat,0<m∧m<2 ^ x.orders.length∧(0≤r.type_∧r.type_<x.types.length)∧ValR x r m r.visits:=by
 have hq:=QHr (b:=r) (l:=r.visits) hf hR hR.visits h
 obtain ⟨m,h1,h2,h3,h4⟩:=QCO hf.ok hq.good hR.visits
 have h6:=hq.good.six hf
 obtain ⟨_,_,_,_,e5⟩:=Qz6 hf.ok hR (show QwG r by unfold QwG; omega)
 obtain ⟨_,q,hE⟩:=e5 (QIk hf.ok hR (show QwG r by unfold QwG; omega) h)
 refine ⟨m,Nat.pos_of_ne_zero fun h0=>?_,Nat.lt_pow_two_of_testBit m fun i hi=>?_,hE.type_,hR.visits,h,h2⟩
 ·cases hv:r.visits with
  | nil=>exact hq.ne (by rw [hv]; rfl)
  | cons v t =>
   have hin:=QoB hq.inn (show v∈r.visits by rw [hv]; simp)
   have:=h2 v.order.toNat
   rw [h0,Nat.zero_testBit,Int.toNat_of_nonneg hin.1] at this
   have h5:hasO r.visits v.order=true:=QrH.2 ⟨v,by rw [hv]; simp,rfl⟩
   rw [h5] at this
   cases this
 ·rw [h2,Bool.eq_false_iff]
  intro hh
  obtain ⟨v,hv,he⟩:=QrH.1 hh
  have:=QoB hq.inn hv
  omega
theorem Qvp (x:Qad) (hI:QFr x) (r:Qac) (hR:QgG r) (at_:Int):Qgm x r at_=some true:=by
 apply post.eq
 unfold Qgm
 rw [Qld]
 refine Qa5 (QAB hI) fun ok hok=>QaU (fun _=>Qav.2 rfl) (fun h=>?_)
 simp only [orF,Bool.not_eq_false',Qzf,Qvh,lenI] at h
 have hf:=hok h.1.1
 have hv:=hR.visits
 rw [QHs hf hR,Qaj]
 obtain ⟨q,hq,-⟩:=QCQ hv
 rw [hq,Qaj]
 refine QaU (fun _=>Qav.2 rfl) (fun h2=>?_)
 simp only [orF,QAs] at h2
 obtain ⟨m,hm0,hm,ht,hval⟩:=QGr hf hR h2.1
 have hqm:q=((m:Int),0):=by
  have:=(QFc hf hR hval).1
  rw [QHt,hq] at this
  exact Option.some.inj this
 have hsq:=QwT hf hR hval
 have h6:=hsq.good.six hf
 have hpos:=List.length_pos_iff.2 (show r.visits≠[] from fun h0=>hsq.ne (by rw [h0]; rfl))
 have hadd:addK .i64 (lenI r.visits) 1=(r.visits.length:Int)+1:=by unfold lenI; exact addI (by omega) (by omega)
 rw [hadd,QdX (by omega)]
 -- how many visits
 obtain ⟨k,hk,hk1,hk2⟩:∃ k:Nat,maxI (lenI r.rests) (remK (cvK .i64 at_) ((r.visits.length:Int)+1))=(k:Int)∧k≤r.visits.length∧r.rests.length≤k:=by
  have hrem:remK (cvK .i64 at_) ((r.visits.length:Int)+1)<(r.visits.length:Int)+1:=by
   unfold remK
   have h1:=Int.tmod_lt_of_pos (cvK .i64 at_) (show (0:Int)<(r.visits.length:Int)+1 by omega)
   exact h1
  generalize remK (cvK .i64 at_) ((r.visits.length:Int)+1)=z at hrem
  rw [Qxo]
  unfold lenI
  have h3:(r.rests.length:Int)≤r.visits.length:=by omega
  refine ⟨(max (r.rests.length:Int) z).toNat,by omega,by omega,by omega⟩
 rw [hk,Qx7 hk1,Qaj,hqm]
 have hB:QgG (rW r (r.visits.take k)):=⟨hR.type_,hR.start,hR.rests,by show (r.visits.take k).length≤_; rw [List.length_take]; omega⟩
 have hgk:Qsy x (r.visits.take k):=⟨hsq.nodup.sublist (List.take_sublist k r.visits),fun v hv=>hsq.good.inn v (List.mem_of_mem_take hv)⟩
 rw [show Qac.mk r.type_ r.start r.rests (r.visits.take k)=rW r (r.visits.take k) from rfl,Qkd hf hB hgk,Qaj,Qy8 (b:=rW r (r.visits.take k)) hm0 hm ht]
 have h8:=pow8 hf
 have hb:=QCM (b:=rW r (r.visits.take k)) (m:=m) hf hB hgk (by omega)
 have hst:Quv x (rW r (r.visits.take k)) m (kyX x r r.visits):=by
  unfold Quv
  rw [if_neg (by
   show ¬ r.rests.length>(r.visits.take k).length
   rw [List.length_take]; omega)]
  refine ⟨r.visits.drop k,?_,?_⟩
  ·show ValR x (rW r (r.visits.take k)) m (r.visits.take k++r.visits.drop k)
   rw [List.take_append_drop]; exact hval
  ·show kyX x r r.visits=kyX x (rW r (r.visits.take k)) (r.visits.take k++r.visits.drop k)
   rw [List.take_append_drop]; rfl
 obtain ⟨k',hk',hlt⟩:=hb.2 _ (.inr hst)
 rw [hk']
 have hle:k'.1≤(prX x r).1:=Int.not_lt.1 fun hl=>hlt (.inl hl)
 rw [Qa8 (by
  show (eqI 0 0&&leI k'.1 (prX x r).1)=true
  simp [hle])]
 exact Qav.2 rfl
end
end Go.Proofs.YtoedkepcaigkeaaGreatDoor
namespace Go.Proofs.YtoedkepcaigkeaaGreatDoor
set_option linter.unusedSimpArgs false
set_option linter.unusedVariables false
set_option linter.unusedSectionVars false
section
variable {x : Qad} {b r : Qac} {l t : List Qaa} {m n : Nat} {v : Qaa} {s : Option Ky} {kind set_ : Int} {a c : Qaf}
noncomputable def Qz0 (x:Qad) (b:Qac) (fit:Nat→Bool):Nat→List Qaf
 | 0=>[]
 | j+1=>Qz0 x b fit j++if (fit (j+1)&&eqI (Qyj x b ((j+1:Nat):Int)).2 0)=true then [(Qyj x b ((j+1:Nat):Int)).1] else []
theorem QsA {fit:Nat→Bool}:∀ j,(Qz0 x b fit j).length≤j
 | 0=>Nat.le_refl _
 | j+1=>by
  have:=QsA (fit:=fit) j
  unfold Qz0
  rw [List.length_append]
  split <;> simp <;> omega
theorem QBZ (hf:FewI x) (hR:QgG b) (hg:Qsy x b.visits) {fit:Nat→Bool}:∀ j,∀ c∈Qz0 x b fit j,ColI c
 | 0,c,h=>by cases h
 | j+1,c,h=>by
  unfold Qz0 at h
  rcases List.mem_append.1 h with h|h
  ·exact QBZ hf hR hg j c h
  ·split at h
   ·rw [List.mem_singleton.1 h]; exact QBQ hf hR hg
   ·cases h
theorem QxC (hf:FewI x) {fit:Nat→Bool} {B:List Qaf×Int→Option ((List Qaf×Int)⊕(List Qaf))} (L0:List Qaf) (h0:L0.length≤1000)
  (hin:∀ (j:Nat) (L:List Qaf),j+1<2 ^ x.orders.length→L.length≤2000→B (L,((j+1:Nat):Int))=some (.inl (L++(if (fit (j+1)&&eqI (Qyj x b ((j+1:Nat):Int)).2 0)=true then [(Qyj x b ((j+1:Nat):Int)).1] else []),((j+2:Nat):Int))))
  (hend:∀ L:List Qaf,B (L,((2 ^ x.orders.length:Nat):Int))=some (.inr L)):QaW B (L0,1)=some (L0++Qz0 x b fit (2 ^ x.orders.length-1)):=by
 have h8:=pow8 hf
 have h2:=Nat.two_pow_pos x.orders.length
 have e0:(L0,(1:Int))=(fun j:Nat=>(L0++Qz0 x b fit j,((j+1:Nat):Int))) 0:=by simp [Qz0]
 rw [e0]
 refine QeQ (2 ^ x.orders.length-1) (fun j:Nat=>(L0++Qz0 x b fit j,((j+1:Nat):Int))) (by omega) (fun j hj=>?_) ?_
 ·have hl:=QsA (x:=x) (b:=b) (fit:=fit) j
  rw [hin j _ (by omega) (by rw [List.length_append]; omega)]
  show some (Sum.inl (_,_))=some (Sum.inl (L0++(Qz0 x b fit j++_),_))
  rw [List.append_assoc]
 ·rw [show 2 ^ x.orders.length-1+1=2 ^ x.orders.length by omega]
  exact hend _
theorem kI {k:Nat} (h:k≤6):QCn (k:Int):=⟨by omega,by omega⟩
theorem okC {L:List Qaf} (h:L.length≤1000000):okN L.length 88:=QgA (by omega)
end
end Go.Proofs.YtoedkepcaigkeaaGreatDoor
namespace Go.Proofs.YtoedkepcaigkeaaGreatDoor
set_option linter.unusedSimpArgs false
set_option linter.unusedVariables false
set_option linter.unusedSectionVars false
section
variable {x : Qad} {b r : Qac} {l t : List Qaa} {m n : Nat} {v : Qaa} {s : Option Ky} {kind set_ : Int} {a c : Qaf}
def fitP (l:List Qac) (at_:Int) (m i:Nat):Bool:=match l[i]? with
 | some r=>r.visits.any fun v=>!eqB (m.testBit v.order.toNat) (eqI (i:Int) at_)
 | none=>false
def fitB (l:List Qac) (at_:Int) (m:Nat):Bool:=!(List.range l.length).any (fitP l at_ m)
structure QBv (x:Qad) (l:List Qac):Prop where
 few:l.length≤4
 each:∀ b∈l,QgG b∧Qsy x b.visits
theorem QET {l:List Qac} (hf:FewI x) (hl:QBv x l) {at_:Int} (hm:m<1024):QhO x l at_ (m:Int)=some (fitB l at_ m):=by
 have h4:=hl.few
 have h3:=hf.few
 unfold QhO
 rw [Qch (QwD (B:=fun s=>Qdl l at_ (m:Int) s) (n:=l.length) (by omega) (fitP l at_ m) (y:=(.inr false:Unit⊕Bool)) (N:=.inl ()) (b:=(List.range l.length).any (fitP l at_ m)) (by
  rw [List.any_eq_true]
  exact ⟨fun ⟨k,hk,h⟩=>⟨k,List.mem_range.1 hk,h⟩,fun ⟨k,hk,h⟩=>⟨k,List.mem_range.2 hk,h⟩⟩) (fun i hi=>by
  obtain ⟨r,e⟩:∃ r,l[i]?=some r:=⟨_,List.getElem?_eq_getElem hi⟩
  obtain ⟨hR,hg⟩:=hl.each r (List.mem_of_getElem? e)
  have hv:=hR.visits
  have hP:fitP l at_ m i=r.visits.any (fun v=>!eqB (m.testBit v.order.toNat) (eqI (i:Int) at_)):=by unfold fitP; rw [e]
  show Qdl l at_ (m:Int) i=_
  unfold Qdl
  rw [Qa8 (by simp [lenI]; omega),incL e (by omega),hP]
  have l2:=QeX (B:=fun s=>Qdm l at_ (m:Int) i s) hv (fun v=>!eqB (m.testBit v.order.toNat) (eqI (i:Int) at_)) (y:=(.inr false:Unit⊕Bool)) (N:=.inl ()) (fun j v ev=>by
   have hin:=hg.inn v (List.mem_of_getElem? ev)
   obtain ⟨o,ho⟩:∃ o:Nat,v.order=o:=⟨v.order.toNat,by omega⟩
   show Qdm l at_ (m:Int) i j=_
   unfold Qdm
   rw [QaV e,Qaj,QbP ev,ho,QCj (by omega) (by omega),Qaj,incL ev hv,Int.toNat_natCast]
   cases eqB (m.testBit o) (eqI (i:Int) at_) <;> rfl) (by
   show Qdm l at_ (m:Int) i r.visits.length=_
   unfold Qdm
   rw [QaV e,Qaj,Qbj])
  rw [Qch l2]
  cases r.visits.any (fun v=>!eqB (m.testBit v.order.toNat) (eqI (i:Int) at_)) <;> rfl) (by
  show Qdl l at_ (m:Int) l.length=_
  unfold Qdl
  rw [Qa3 (by simp [lenI])]))]
 unfold fitB
 cases (List.range l.length).any (fitP l at_ m) <;> rfl
theorem QG0 {l:List Qac} {at_:Int}:fitB l at_ m=true↔∀ (i:Nat) r,l[i]?=some r→∀ v∈r.visits,m.testBit v.order.toNat=eqI (i:Int) at_:=by
 unfold fitB
 rw [Bool.not_eq_true',List.any_eq_false]
 constructor
 ·intro h i r e v hv
  have h1:=h i (List.mem_range.2 (List.getElem?_eq_some_iff.1 e).1)
  unfold fitP at h1
  rw [e] at h1
  simp only [Bool.not_eq_true,List.any_eq_false,Bool.not_eq_false'] at h1
  exact QH1.1 (h1 v hv)
 ·intro h i hi
  unfold fitP
  cases e:l[i]? with
  | none=>simp
  | some r =>
   simp only [Bool.not_eq_true,List.any_eq_false,Bool.not_eq_false']
   exact fun v hv=>QH1.2 (h i r e v hv)
theorem QGR {p q:Nat} (hm:m<1024) (hp:p<9223372036854775808) (hq:q<9223372036854775808):((neI (andK .i64 (m:Int) (p:Int)) (p:Int))||(neI (andK .i64 (m:Int) (q:Int)) 0))=false↔(∀ o,p.testBit o=true→m.testBit o=true)∧∀ o,m.testBit o=true→q.testBit o=false:=by
 rw [andN (by omega) hp,andN (by omega) hq,orF,QAs,QAs]
 constructor
 ·rintro ⟨h1,h2⟩
  have h1':m &&& p=p:=Int.ofNat.inj h1
  have h2':m &&& q=0:=Int.ofNat.inj h2
  refine ⟨fun o ho=>?_,fun o ho=>?_⟩
  ·have:=congrArg (fun z=>z.testBit o) h1'
   simp only [Nat.testBit_and,ho,Bool.and_true] at this
   exact this
  ·have:=congrArg (fun z=>z.testBit o) h2'
   simp only [Nat.testBit_and,ho,Bool.true_and,Nat.zero_testBit] at this
   exact this
 ·rintro ⟨h1,h2⟩
  have h1':m &&& p=p:=Nat.eq_of_testBit_eq fun o=>by
   rw [Nat.testBit_and]
   cases hp:p.testBit o with
   | false=>rw [Bool.and_false]
   | true=>rw [h1 o hp]; rfl
  have h2':m &&& q=0:=Nat.eq_of_testBit_eq fun o=>by
   rw [Nat.testBit_and,Nat.zero_testBit]
   cases hm:m.testBit o with
   | false=>rw [Bool.false_and]
   | true=>rw [h2 o hm]; rfl
  rw [h1',h2']
  exact ⟨rfl,rfl⟩
theorem QH0 {l:List Qac} (hf:FewI x) (hl:∀ b∈l,Qsy x b.visits) {o:Nat}:begB l o=true↔∃ r∈l,∃ v∈r.visits,v.order=(o:Int):=by
 have h3:=hf.few
 unfold begB
 rw [Bool.and_eq_true,decide_eq_true_iff,List.any_eq_true]
 constructor
 ·rintro ⟨_,r,hr,h⟩
  exact ⟨r,hr,QrH.1 h⟩
 ·rintro ⟨r,hr,v,hv,he⟩
  have:=(hl r hr).inn v hv
  exact ⟨by omega,r,hr,QrH.2 ⟨v,hv,he⟩⟩
end
end Go.Proofs.YtoedkepcaigkeaaGreatDoor
namespace Go.Proofs.YtoedkepcaigkeaaGreatDoor
set_option linter.unusedSimpArgs false
set_option linter.unusedVariables false
set_option linter.unusedSectionVars false
section
variable {x : Qad} {b r : Qac} {l t : List Qac} {m n : Nat} {v : Qaa} {s : Option Ky} {kind set_ : Int} {a c : List Qac}
theorem QDY (ha:a.length≤100) (hc:c.length≤100):QbS [a,c]=some (a++c):=by
 unfold QbS
 have s0:QaR [a,c] 0 0=some (.inl ((a.length:Int),1)):=by
  unfold QaR
  rw [show ltI (0:Int) (lenI [a,c])=true from rfl,Qgh,show getI [a,c] 0=some a from rfl,Qaj]
  unfold lenI
  rw [addI (by omega) (by omega),Qa3 (by simp only [Qrt]; omega),Int.zero_add]
  rfl
 have s1:QaR [a,c] (a.length:Int) 1=some (.inl ((a.length:Int)+(c.length:Int),2)):=by
  unfold QaR
  rw [show ltI (1:Int) (lenI [a,c])=true from rfl,Qgh,show getI [a,c] 1=some c from rfl,Qaj]
  unfold lenI
  rw [addI (by omega) (by omega),Qa3 (by simp only [Qrt]; omega)]
  rfl
 have s2:∀ z,QaR [a,c] z 2=some (.inr z):=fun z=>rfl
 have l1:QaW (fun s:Int×Int=>QaR [a,c] s.1 s.2) (0,0)=some ((a.length:Int)+(c.length:Int)):=by
  refine QrN 3 (by decide) ?_
  simp only [QvL]
  rw [s0]
  simp only
  rw [s1]
  simp only
  rw [s2]
 have hg:Qbe ((a.length:Int)+(c.length:Int))=some []:=by
  unfold Qbe
  rw [Qa3 (by simp only [Qrt]; omega),show subK .i64 0 0=0 from rfl,subI (by omega) (by omega),Int.sub_zero]
  have hm:mkI ((a.length:Int)+(c.length:Int)) ((a.length:Int)+(c.length:Int)) 64 (Qac.mk 0 0 [] [])=some (List.replicate ((a.length:Int)+(c.length:Int)).toNat (Qac.mk 0 0 [] [])):=by
   unfold mkI
   rw [if_pos ⟨by omega,by omega,by omega,by omega⟩]
  rw [hm,Qaj,show slcI (List.replicate ((a.length:Int)+(c.length:Int)).toNat (Qac.mk 0 0 [] [])) 0 0=some [] by
   unfold slcI
   rw [if_pos (by omega)]
   simp,Qaj,brs]
  split <;> rfl
 have t0:QaL [a,c] [] 0=some (.inl (a,1)):=by
  unfold QaL
  rw [show ltI (0:Int) (lenI [a,c])=true from rfl,Qgh,show getI [a,c] 0=some a from rfl,Qaj,List.nil_append,QdX (QgA (by omega))]
  rfl
 have t1:QaL [a,c] a 1=some (.inl (a++c,2)):=by
  unfold QaL
  rw [show ltI (1:Int) (lenI [a,c])=true from rfl,Qgh,show getI [a,c] 1=some c from rfl,Qaj,QdX (QgA (by rw [List.length_append]; omega))]
  rfl
 have t2:∀ z,QaL [a,c] z 2=some (.inr z):=fun z=>rfl
 have l2:QaW (fun s:List Qac×Int=>QaL [a,c] s.1 s.2) ([],0)=some (a++c):=by
  refine QrN 3 (by decide) ?_
  simp only [QvL]
  rw [t0]
  simp only
  rw [t1]
  simp only
  rw [t2]
 rw [Qch l1,hg,Qaj,Qch l2]
theorem QBv.good (h:QBv x l):∀ b∈l,Qsy x b.visits:=fun b hb=>(h.each b hb).2
theorem QBv.vis (h:QBv x l):∀ b∈l,b.visits.length≤1048576:=fun b hb=>(h.each b hb).1.visits
theorem QvW (hf:FewI x) (hl:l.length≤1048576) (hg:∀ b∈l,Qsy x b.visits) (hv:∀ b∈l,b.visits.length≤1048576):∃ p:Nat,QgH l=some (p:Int)∧p<9223372036854775808∧∀ o,p.testBit o=true↔∃ r∈l,∃ v∈r.visits,v.order=(o:Int):=by
 obtain ⟨s,hs,p,rfl,hp⟩:=QBB hl hv
 refine ⟨p,hs,lt63 (f:=fun i=>l.any fun r=>hasO r.visits (i:Int)) hp,fun o=>?_⟩
 rw [hp,QH0 hf hg]
theorem QG1 (hf:FewI x) (hl:QBv x l) {i:Nat} (e:l[i]?=some r) {p q:Nat} (hp:∀ o,p.testBit o=true↔∃ r'∈[r],∃ v∈r'.visits,v.order=(o:Int)) (hq:∀ o,q.testBit o=true↔∃ r'∈l.take i++l.drop (i+1),∃ v∈r'.visits,v.order=(o:Int)) :
  ((∀ o,p.testBit o=true→m.testBit o=true)∧∀ o,m.testBit o=true→q.testBit o=false)↔fitB l (i:Int) m=true:=by
 rw [QG0]
 have hi:=(List.getElem?_eq_some_iff.1 e).1
 constructor
 ·rintro ⟨h1,h2⟩ j r' e' v hv
  have hin:=(hl.good r' (List.mem_of_getElem? e')).inn v hv
  have hvo:v.order=((v.order.toNat:Nat):Int):=by omega
  by_cases hji:j=i
  ·subst hji
   rw [e] at e'
   cases e'
   rw [h1 _ ((hp _).2 ⟨r,by simp,v,hv,hvo⟩)]
   simp
  ·have hmem:r'∈l.take i++l.drop (i+1):=by
    rw [List.mem_append]
    rcases Nat.lt_or_gt_of_ne hji with h|h
    ·refine .inl (List.mem_of_getElem? (i:=j) ?_)
     rw [List.getElem?_take,if_pos h,e']
    ·refine .inr (List.mem_of_getElem? (i:=j-(i+1)) ?_)
     rw [List.getElem?_drop,show i+1+(j-(i+1))=j by omega,e']
   have hqt:=(hq v.order.toNat).2 ⟨r',hmem,v,hv,hvo⟩
   have:m.testBit v.order.toNat=false:=by
    rw [Bool.eq_false_iff]
    intro hm
    rw [h2 _ hm] at hqt
    cases hqt
   rw [this]
   symm
   rw [Qzf]
   omega
 ·intro h
  refine ⟨fun o ho=>?_,fun o ho=>?_⟩
  ·obtain ⟨r',hr',v,hv,he⟩:=(hp o).1 ho
   rw [List.mem_singleton.1 hr'] at hv
   have:=h i r e v hv
   rw [he,Int.toNat_natCast] at this
   rw [this]; simp
  ·rw [Bool.eq_false_iff]
   intro hqt
   obtain ⟨r',hr',v,hv,he⟩:=(hq o).1 hqt
   have:∃ j,j≠i∧l[j]?=some r':=by
    rcases List.mem_append.1 hr' with hr'|hr'
    ·obtain ⟨j,hj⟩:=List.mem_iff_getElem?.1 hr'
     rw [List.getElem?_take] at hj
     split at hj
     ·exact ⟨j,by omega,hj⟩
     ·cases hj
    ·obtain ⟨j,hj⟩:=List.mem_iff_getElem?.1 hr'
     rw [List.getElem?_drop] at hj
     exact ⟨i+1+j,by omega,hj⟩
   obtain ⟨j,hji,hj⟩:=this
   have:=h j r' hj v hv
   rw [he,Int.toNat_natCast,ho] at this
   have:=QuM.1 this.symm
   omega
theorem QFG (hf:FewI x) (hl:QBv x l) {q:Nat} (hq:∀ o,q.testBit o=true↔∃ r'∈l,∃ v∈r'.visits,v.order=(o:Int)) :
  ((∀ o,(0:Nat).testBit o=true→m.testBit o=true)∧∀ o,m.testBit o=true→q.testBit o=false)↔fitB l (-1) m=true:=by
 rw [QG0]
 constructor
 ·rintro ⟨_,h2⟩ j r' e' v hv
  have hm:=List.mem_of_getElem? e'
  have hin:=(hl.good r' hm).inn v hv
  have hqt:=(hq v.order.toNat).2 ⟨r',hm,v,hv,by omega⟩
  have:m.testBit v.order.toNat=false:=by
   rw [Bool.eq_false_iff]
   intro hm
   rw [h2 _ hm] at hqt
   cases hqt
  rw [this]
  symm
  rw [Qzf]
  omega
 ·intro h
  refine ⟨fun o ho=>(by rw [Nat.zero_testBit] at ho; cases ho),fun o ho=>?_⟩
  rw [Bool.eq_false_iff]
  intro hqt
  obtain ⟨r',hr',v,hv,he⟩:=(hq o).1 hqt
  obtain ⟨j,hj⟩:=List.mem_iff_getElem?.1 hr'
  have:=h j r' hj v hv
  rw [he,Int.toNat_natCast,ho] at this
  have:=QuM.1 this.symm
  omega
theorem Qvk (hf:FewI x) (hR:QgG b) (hg:Qsy x b.visits) {p q:Nat} (hp:p<9223372036854775808) (hq:q<9223372036854775808) {at_:Int} (hfit:∀ m:Nat,m<1024→(((∀ o,p.testBit o=true→m.testBit o=true)∧∀ o,m.testBit o=true→q.testBit o=false)↔fitB l at_ m=true)) :
  Qoc x b (p:Int) (q:Int)=some (Qz0 x b (fitB l at_) (2 ^ x.orders.length-1)):=by
 have hx:=hf.ok
 have h8:=pow8 hf
 have h10:=hx.orders
 unfold Qoc
 have hsh:shlK .i64 1 (lenI x.orders)=((2 ^ x.orders.length:Nat):Int):=by
  unfold lenI
  rw [shlN (by omega)]
 rw [Qch (QxC (b:=b) (fit:=fitB l at_) hf (B:=fun s:List Qaf×Int=>QgD x b (p:Int) (q:Int) s.1 s.2) [] (by simp) (fun j L hj hL=>by
  show QgD x b (p:Int) (q:Int) L ((j+1:Nat):Int)=_
  unfold QgD
  rw [QdX (by unfold lenI; omega),hsh,Qa8 (by simp only [Qrq]; exact Int.ofNat_lt.2 hj),Qkd hf hR hg,Qaj,QdX (okC (by simp; omega)),addI (by omega) (by omega)]
  have hc:=QGR (m:=j+1) (p:=p) (q:=q) (by omega) hp hq
  rw [hfit (j+1) (by omega)] at hc
  rw [show (((j+1:Nat):Int)+1)=((j+2:Nat):Int) by omega]
  by_cases hb:fitB l at_ (j+1)=true
  ·rw [Qa3 (hc.2 hb),hb,Bool.true_and,brs]
   split <;> simp
  ·have:((neI (andK .i64 ((j+1:Nat):Int) (p:Int)) (p:Int))||(neI (andK .i64 ((j+1:Nat):Int) (q:Int)) 0))=true:=by
    rw [← Bool.not_eq_false]
    exact fun h=>hb (hc.1 h)
   rw [Qa8 this,Bool.eq_false_iff.2 hb,Bool.false_and]
   simp) (fun L=>by
  show QgD x b (p:Int) (q:Int) L ((2 ^ x.orders.length:Nat):Int)=_
  unfold QgD
  rw [QdX (by unfold lenI; omega),hsh,Qa3 (by simp)]))]
 rfl
noncomputable def begC (x:Qad) (l:List Qac):Nat→List Qaf
 | 0=>[]
 | k+1=>begC x l k++match l[k]? with
  | some b=>Qz0 x b (fitB l (k:Int)) (2 ^ x.orders.length-1)
  | none=>[]
noncomputable def Qzp (x:Qad) (l:List Qac) (now:Int):Nat→List Qaf
 | 0=>begC x l l.length
 | k+1=>Qzp x l now k++Qz0 x (Qac.mk (k:Int) now [] []) (fitB l (-1)) (2 ^ x.orders.length-1)
theorem Qxy (hf:FewI x):∀ k,(begC x l k).length≤7*k
 | 0=>Nat.le_refl _
 | k+1=>by
  have h8:=pow8 hf
  have h1:=Qxy hf k
  unfold begC
  rw [List.length_append]
  split
  ·rename_i b _
   have h2:=QsA (x:=x) (b:=b) (fit:=fitB l (k:Int)) (2 ^ x.orders.length-1)
   omega
  ·simp; omega
theorem QvM (hf:FewI x) {now:Int}:∀ k,(Qzp x l now k).length≤7*(l.length+k)
 | 0=>Qxy hf _
 | k+1=>by
  have h8:=pow8 hf
  have h1:=QvM hf (now:=now) k
  have h2:=QsA (x:=x) (b:=Qac.mk (k:Int) now [] []) (fit:=fitB l (-1)) (2 ^ x.orders.length-1)
  unfold Qzp
  rw [List.length_append]
  omega
theorem nowI {k:Nat} {now:Int} (hk:k≤6) (hn:0≤now∧now≤4096):QgG (Qac.mk (k:Int) now [] []):=⟨kI hk,⟨by show (-9223372036854775808:Int)≤now; omega,by show now≤9223372036854775807; omega⟩,Nat.zero_le _,Nat.zero_le _⟩
theorem QGL (hf:FewI x) (hl:QBv x l):∀ k,∀ c∈begC x l k,ColI c
 | 0,c,h=>by cases h
 | k+1,c,h=>by
  unfold begC at h
  rcases List.mem_append.1 h with h|h
  ·exact QGL hf hl k c h
  ·split at h
   ·rename_i b e
    obtain ⟨hR,hg⟩:=hl.each b (List.mem_of_getElem? e)
    exact QBZ hf hR hg _ c h
   ·cases h
theorem QE6 (hf:FewI x) (hl:QBv x l) {now:Int} (hn:0≤now∧now≤4096):∀ k,k≤6→∀ c∈Qzp x l now k,ColI c
 | 0,_,c,h=>QGL hf hl _ c h
 | k+1,hk,c,h=>by
  unfold Qzp at h
  rcases List.mem_append.1 h with h|h
  ·exact QE6 hf hl hn k (by omega) c h
  ·exact QBZ hf (nowI (by omega) hn) Qzl _ c h
noncomputable def allS (x:Qad) (l:List Qac) (now:Int):List Qaf×Int :=
 if 0≤now∧now≤4096 then (if l.any (fun b=>!decide (0≤b.type_∧b.type_<x.types.length))=true then ([],2) else (Qzp x l now x.types.length,0)) else ([],2)
theorem QGk {α:Type} {l:List α} {k:Nat} (h:k≤l.length):slcI l (k:Int) (lenI l)=some (l.drop k):=by
 unfold slcI lenI
 rw [if_pos (by omega)]
 simp only [Int.toNat_natCast]
 rw [List.take_of_length_le (by rw [List.length_drop]; omega)]
theorem QHz {α:Type} {l:List α} {k:Nat} {a:α} (h:l[k]?=some a):slcI l (k:Int) ((k:Int)+1)=some [a]:=by
 obtain ⟨h1,h2⟩:=List.getElem?_eq_some_iff.1 h
 unfold slcI
 rw [if_pos (by omega),show (((k:Int)+1).toNat-((k:Int)).toNat)=1 by omega,Int.toNat_natCast,List.drop_eq_getElem_cons h1,h2]
 rfl
theorem QyN (hf:FewI x) (hl:QBv x l) {now:Int}:Qob x l now=some (allS x l now):=by
 have hx:=hf.ok
 have h4:=hl.few
 have h6:=hx.types
 have h8:=pow8 hf
 unfold Qob allS
 by_cases hn:0≤now∧now≤4096
 ·rw [Qa3 (by simp; omega),if_pos hn]
  rw [Qch (QeX (B:=fun s=>QgB x l now s) (l:=l) (by omega) (fun b=>!decide (0≤b.type_∧b.type_<x.types.length)) (y:=(.inr ([],2):Unit⊕(List Qaf×Int))) (N:=.inl ()) (fun i b e=>by
   show QgB x l now i=_
   unfold QgB
   rw [QbP e,incL e (by omega),brs]
   have hP:(ltI b.type_ 0||geI b.type_ (lenI x.types))=!decide (0≤b.type_∧b.type_<x.types.length):=by unfold lenI; rw [Bool.eq_iff_iff]; simp
   rw [hP]) (by
   show QgB x l now l.length=_
   unfold QgB
   rw [Qbj]))]
  by_cases ht:l.any (fun b=>!decide (0≤b.type_∧b.type_<x.types.length))=true
  ·rw [if_pos ht,if_pos ht,QjR]
  ·rw [if_neg ht,if_neg ht,Qf9]
   have l2:QaW (fun s:List Qaf×Int=>QeW x l now s.1 s.2) ([],0)=some (begC x l l.length):=QeQ l.length (fun k=>(begC x l k,(k:Int))) (B:=fun s:List Qaf×Int=>QeW x l now s.1 s.2) (by omega) (fun k hk=>by
    obtain ⟨b,e⟩:∃ b,l[k]?=some b:=⟨_,List.getElem?_eq_getElem hk⟩
    obtain ⟨hR,hg⟩:=hl.each b (List.mem_of_getElem? e)
    have hlen:=Qxy (l:=l) hf k
    have hsub:∀ q∈l.take k++l.drop (k+1),q∈l:=fun q hq=>by
     rcases List.mem_append.1 hq with hq|hq
     ·exact List.mem_of_mem_take hq
     ·exact List.mem_of_mem_drop hq
    obtain ⟨q,hq1,hq2,hq3⟩:=QvW (l:=l.take k++l.drop (k+1)) hf (by rw [List.length_append,List.length_take,List.length_drop]; omega) (fun b hb=>hl.good b (hsub b hb)) (fun b hb=>hl.vis b (hsub b hb))
    obtain ⟨p,hp1,hp2,hp3⟩:=QvW (l:=[b]) hf (by simp) (fun c hc=>by rw [List.mem_singleton.1 hc]; exact hg) (fun c hc=>by rw [List.mem_singleton.1 hc]; exact hR.visits)
    show QeW x l now (begC x l k) (k:Int)=_
    unfold QeW
    have hc:=QsA (x:=x) (b:=b) (fit:=fitB l (k:Int)) (2 ^ x.orders.length-1)
    rw [QbP e,Qx7 (by omega),Qaj,incL e (by omega),show ((k:Int)+1)=((k+1:Nat):Int) by omega,QGk (by omega),Qaj,QDY (by rw [List.length_take]; omega) (by rw [List.length_drop]; omega),Qaj,hq1,Qaj,show ((k+1:Nat):Int)=(k:Int)+1 by omega,QHz e,Qaj,hp1,Qaj,
     Qvk hf hR hg hp2 hq2 (fun m _=>QG1 hf hl e hp3 hq3),Qaj,QdX (okC (by rw [List.length_append]; omega))]
    show _=some (Sum.inl (begC x l k++(match l[k]? with|some b=>_|none=>_),_))
    rw [e]) (by
    show QeW x l now (begC x l l.length) (l.length:Int)=_
    unfold QeW
    rw [Qbj])
   obtain ⟨q,hq1,hq2,hq3⟩:=QvW (l:=l) hf (by omega) hl.good hl.vis
   rw [Qch l2,hq1,Qaj]
   have l3:QaW (fun s:List Qaf×Int=>Qeg x now (q:Int) s.1 s.2) (begC x l l.length,0)=some (Qzp x l now x.types.length):=QeQ x.types.length (fun k=>(Qzp x l now k,(k:Int))) (B:=fun s:List Qaf×Int=>Qeg x now (q:Int) s.1 s.2) (by omega) (fun k hk=>by
    have hlen:=QvM (l:=l) (now:=now) hf k
    have hc:=QsA (x:=x) (b:=Qac.mk (k:Int) now [] []) (fit:=fitB l (-1)) (2 ^ x.orders.length-1)
    show Qeg x now (q:Int) (Qzp x l now k) (k:Int)=_
    unfold Qeg
    have hz:Qoc x (Qac.mk (k:Int) now [] []) 0 (q:Int)=some (Qz0 x (Qac.mk (k:Int) now [] []) (fitB l (-1)) (2 ^ x.orders.length-1)):=Qvk (l:=l) hf (nowI (k:=k) (by omega) hn) Qzl (p:=0) (q:=q) (by omega) hq2 (at_:=-1) (fun m _=>QFG hf hl hq3)
    rw [Qa8 (by simp [lenI]; omega),hz,Qaj,QdX (okC (by rw [List.length_append]; omega)),inc hk (by omega)]
    rfl) (by
    show Qeg x now (q:Int) (Qzp x l now x.types.length) (x.types.length:Int)=_
    unfold Qeg
    rw [Qa3 (by simp [lenI])])
   rw [Qch l3]
 ·rw [Qa8 (by simp; omega),if_neg hn]
theorem Qzw (hf:FewI x) (hl:QBv x l) {now:Int}:QiG x l now=some (allS x l now):=by
 have hx:=hf.ok
 have h4:=hl.few
 have h6:=hx.types
 have h8:=pow8 hf
 have h10:=hx.orders
 unfold QiG allS
 by_cases hn:0≤now∧now≤4096
 ·rw [Qa3 (by simp; omega),if_pos hn]
  rw [Qch (QeX (B:=fun s=>QdJ x l now s) (l:=l) (by omega) (fun b=>!decide (0≤b.type_∧b.type_<x.types.length)) (y:=(.inr ([],2):Unit⊕(List Qaf×Int))) (N:=.inl ()) (fun i b e=>by
   show QdJ x l now i=_
   unfold QdJ
   rw [Qa8 (by have:=(List.getElem?_eq_some_iff.1 e).1; simp [lenI]; omega),QaV e,Qaj,incL e (by omega)]
   by_cases h1:b.type_<0
   ·rw [Qa8 (by simpa using h1),if_pos (by simp; omega)]
   ·rw [Qa3 (by simpa using h1),brs]
    by_cases h2:b.type_<x.types.length
    ·rw [if_neg (by simp [lenI]; omega),if_neg (by simp; omega)]
    ·rw [if_pos (by simp [lenI]; omega),if_pos (by simp; omega)]) (by
   show QdJ x l now l.length=_
   unfold QdJ
   rw [Qa3 (by simp [lenI])]))]
  by_cases ht:l.any (fun b=>!decide (0≤b.type_∧b.type_<x.types.length))=true
  ·rw [if_pos ht,if_pos ht,QjR]
  ·rw [if_neg ht,if_neg ht,Qf9]
   rw [Qch (QCy hf (B:=fun s=>Qc9 x l now s.1 s.2) (fun k a hk=>by
    show Qc9 x l now a (k:Int)=_
    unfold Qc9
    rw [Qa8 (by simp [lenI]; omega),inc hk (by omega)]) (fun a=>by
    show Qc9 x l now a (x.orders.length:Int)=_
    unfold Qc9
    rw [Qa3 (by simp [lenI])]))]
   have l3:QaW (fun s:List Qaf×Int=>Qcg x l now ((2 ^ x.orders.length:Nat):Int) s.1 s.2) ([],0)=some (begC x l l.length):=QeQ l.length (fun k=>(begC x l k,(k:Int))) (B:=fun s:List Qaf×Int=>Qcg x l now ((2 ^ x.orders.length:Nat):Int) s.1 s.2) (by omega) (fun k hk=>by
    obtain ⟨b,e⟩:∃ b,l[k]?=some b:=⟨_,List.getElem?_eq_getElem hk⟩
    obtain ⟨hR,hg⟩:=hl.each b (List.mem_of_getElem? e)
    have hlen:=Qxy (l:=l) hf k
    show Qcg x l now ((2 ^ x.orders.length:Nat):Int) (begC x l k) (k:Int)=_
    unfold Qcg
    rw [Qa8 (by simp [lenI]; omega),incL e (by omega)]
    rw [Qch (QxC (b:=b) (fit:=fitB l (k:Int)) hf (B:=fun s:List Qaf×Int=>QdK x l now ((2 ^ x.orders.length:Nat):Int) (begC x l k) (k:Int) s.1 s.2) (begC x l k) (by omega) (fun j L hj hL=>by
     show QdK x l now ((2 ^ x.orders.length:Nat):Int) (begC x l k) (k:Int) L ((j+1:Nat):Int)=_
     unfold QdK
     rw [Qa8 (by simp only [Qrq]; exact Int.ofNat_lt.2 hj),QET hf hl (by omega),Qaj,QaV e,Qaj,Qsn hf hR hg,Qaj,QdX (okC (by simp; omega)),addI (by omega) (by omega),show (((j+1:Nat):Int)+1)=((j+2:Nat):Int) by omega]
     cases fitB l (k:Int) (j+1) with
     | false=>simp
     | true =>
      rw [Qgh,Bool.true_and,brs]
      split <;> simp) (fun L=>by
     show QdK x l now ((2 ^ x.orders.length:Nat):Int) (begC x l k) (k:Int) L ((2 ^ x.orders.length:Nat):Int)=_
     unfold QdK
     rw [Qa3 (by simp)]))]
    show _=some (Sum.inl (begC x l k++(match l[k]? with|some b=>_|none=>_),_))
    rw [e]
    simp) (by
    show Qcg x l now ((2 ^ x.orders.length:Nat):Int) (begC x l l.length) (l.length:Int)=_
    unfold Qcg
    rw [Qa3 (by simp [lenI])])
   rw [Qch l3]
   have l5:QaW (fun s:List Qaf×Int=>Qb0 x l now ((2 ^ x.orders.length:Nat):Int) s.1 s.2) (begC x l l.length,0)=some (Qzp x l now x.types.length):=QeQ x.types.length (fun k=>(Qzp x l now k,(k:Int))) (B:=fun s:List Qaf×Int=>Qb0 x l now ((2 ^ x.orders.length:Nat):Int) s.1 s.2) (by omega) (fun k hk=>by
    have hlen:=QvM (l:=l) (now:=now) hf k
    show Qb0 x l now ((2 ^ x.orders.length:Nat):Int) (Qzp x l now k) (k:Int)=_
    unfold Qb0
    rw [Qa8 (by simp [lenI]; omega),inc hk (by omega)]
    rw [Qch (QxC (b:=Qac.mk (k:Int) now [] []) (fit:=fitB l (-1)) hf (B:=fun s:List Qaf×Int=>QdL x l now ((2 ^ x.orders.length:Nat):Int) (k:Int) s.1 s.2) (Qzp x l now k) (by omega) (fun j L hj hL=>by
     show QdL x l now ((2 ^ x.orders.length:Nat):Int) (k:Int) L ((j+1:Nat):Int)=_
     unfold QdL
     rw [Qa8 (by simp only [Qrq]; exact Int.ofNat_lt.2 hj),QET hf hl (by omega),Qaj,Qsn hf (nowI (by omega) hn) Qzl,Qaj,QdX (okC (by simp; omega)),addI (by omega) (by omega),show (((j+1:Nat):Int)+1)=((j+2:Nat):Int) by omega]
     cases fitB l (-1) (j+1) with
     | false=>simp
     | true =>
      rw [Qgh,Bool.true_and,brs]
      split <;> simp) (fun L=>by
     show QdL x l now ((2 ^ x.orders.length:Nat):Int) (k:Int) L ((2 ^ x.orders.length:Nat):Int)=_
     unfold QdL
     rw [Qa3 (by simp)]))]
    rfl) (by
    show Qb0 x l now ((2 ^ x.orders.length:Nat):Int) (Qzp x l now x.types.length) (x.types.length:Int)=_
    unfold Qb0
    rw [Qa3 (by simp [lenI])])
   rw [Qch l5]
 ·rw [Qa8 (by simp; omega),if_neg hn]
theorem QwU (x:Qad) (hI:QFr x) (l:List Qac) (hl:l.length≤1048576) (hR:∀ b∈l,QgG b) (now:Int):Qhk x l now=some true:=by
 apply post.eq
 unfold Qhk
 rw [Qld]
 refine Qa5 (QAB hI) fun ok hok=>QaU (fun _=>Qav.2 rfl) (fun h=>?_)
 simp only [orF,Bool.not_eq_false',Qvh,lenI] at h
 have hf:=hok h.1
 have hx:=hf.ok
 have h6:=hx.types
 refine Qa5 (R:=fun e=>e=.inr true∨e=.inl ()∧QBv x l) ?_ fun e he=>?_
 ·refine QdA (fun i:Int=>∃ k:Nat,i=(k:Int)∧k≤l.length∧∀ b∈l.take k,Qsy x b.visits) (fun i=>l.length-i.toNat) ⟨0,rfl,Nat.zero_le _,fun b hb=>by cases hb⟩ (by simp; omega) ?_
  rintro _ ⟨k,rfl,hk,hg⟩
  show post (QdD x l now k) _
  unfold QdD
  rw [Qld]
  rcases Nat.lt_or_ge k l.length with hlt|hge
  ·have e:l[k]?=some l[k]:=List.getElem?_eq_getElem hlt
   have hm:=List.getElem_mem hlt
   generalize l[k]=b at e hm
   rw [QbP e,incL e hl]
   refine Qa5 (Qy7 (x:=x) (hR b hm)) fun ok2 hok2=>QaU (fun h2=>?_) (fun _=>?_)
   ·refine QeV ⟨⟨k+1,rfl,hlt,fun c hc=>?_⟩,by simp; omega⟩
    rw [Qpz e] at hc
    rcases List.mem_append.1 hc with hc|hc
    ·exact hg c hc
    ·rw [List.mem_singleton.1 hc]; exact hok2 h2
   ·exact QcT (.inl rfl)
  ·obtain rfl:k=l.length:=by omega
   rw [Qbj]
   refine QcT (.inr ⟨rfl,by omega,fun b hb=>⟨hR b hb,?_⟩⟩)
   rw [List.take_length] at hg
   exact hg b hb
 ·rcases he with rfl|⟨rfl,hB⟩
  ·rw [QjR]
   exact Qav.2 rfl
  ·rw [Qf9,QyN hf hB,Qaj,Qzw hf hB,Qaj,Qa3 (by simp)]
   have hlen:(allS x l now).1.length≤1048576:=by
    have:=QvM (l:=l) (now:=now) hf x.types.length
    have h4:=hB.few
    unfold allS
    split
    ·split
     ·exact Nat.zero_le _
     ·simp only; omega
    ·exact Nat.zero_le _
   have hcI:∀ c∈(allS x l now).1,ColI c:=fun c hc=>by
    unfold allS at hc
    split at hc
    ·rename_i hn
     split at hc
     ·cases hc
     ·exact QE6 hf hB hn _ (by omega) c hc
    ·cases hc
   generalize allS x l now=A at hlen hcI
   have l1:=QeX (B:=fun s=>QbG l A A s) (l:=A.1) hlen (fun _=>false) (y:=(.inr false:Unit⊕Bool)) (N:=.inl ()) (fun i a e=>by
    show QbG l A A i=_
    unfold QbG
    rw [QbP e,QaV e,Qaj,QGi (hcI a (List.mem_of_getElem? e)),Qaj,incL e hlen]
    rfl) (by
    show QbG l A A A.1.length=_
    unfold QbG
    rw [Qbj])
   simp only [List.any_eq_true,Bool.false_eq_true,and_false,exists_false,if_false] at l1
   rw [Qch l1,Qf9]
   exact Qav.2 rfl
end
end Go.Proofs.YtoedkepcaigkeaaGreatDoor
