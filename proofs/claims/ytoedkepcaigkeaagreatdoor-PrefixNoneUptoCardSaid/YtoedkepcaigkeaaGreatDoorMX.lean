/- Part MX of the proof: texts Xua Xub Xuc Xud Xue Xuf Xug Xuh Xui Xuj Xuk Xum Xul Xun Xuo Xup Xuq. -/
import Derived.Test.YtoedkepcaigkeaaGreatDoorMR
namespace Go.Proofs.YtoedkepcaigkeaaGreatDoor
set_option linter.unusedSimpArgs false
set_option linter.unusedVariables false
set_option linter.unusedSectionVars false
def ltV (a b:Qaa):Bool:=ltI a.order b.order||(eqI a.order b.order&&(!a.drop&&b.drop))
theorem ltV_t {a b:Qaa}:ltV a b=true↔a.order<b.order∨(a.order=b.order∧a.drop=false∧b.drop=true):=by
 unfold ltV
 simp
theorem Qv2 {a:Qaa}:ltV a a=false:=by
 rw [Bool.eq_false_iff]
 intro h
 rw [ltV_t] at h
 rcases h with h|⟨_,h1,h2⟩
 ·omega
 ·rw [h1] at h2; cases h2
theorem QyR {a b c:Qaa} (h1:ltV a b=true) (h2:ltV b c=true):ltV a c=true:=by
 rw [ltV_t] at *
 rcases h1 with h1|⟨h1,h3,h4⟩ <;> rcases h2 with h2|⟨h2,h5,h6⟩
 ·exact .inl (by omega)
 ·exact .inl (by omega)
 ·exact .inl (by omega)
 ·rw [h4] at h5; cases h5
theorem QEF (a b:Qaa):a=b∨ltV a b=true∨ltV b a=true:=by
 rcases Int.lt_trichotomy a.order b.order with h|h|h
 ·exact .inr (.inl (ltV_t.2 (.inl h)))
 ·cases ha:a.drop <;> cases hb:b.drop
  ·exact .inl (by cases a; cases b; simp_all)
  ·exact .inr (.inl (ltV_t.2 (.inr ⟨h,ha,hb⟩)))
  ·exact .inr (.inr (ltV_t.2 (.inr ⟨h.symm,hb,ha⟩)))
  ·exact .inl (by cases a; cases b; simp_all)
 ·exact .inr (.inr (ltV_t.2 (.inl h)))
def lessV:List Qaa→List Qaa→Bool
 | [],[]=>false
 | [],_ :: _=>true
 | _ :: _,[]=>false
 | a :: l,b :: m=>ltV a b||(decide (a=b)&&lessV l m)
theorem QyJ:∀ {l:List Qaa},lessV l l=false
 | []=>rfl
 | a :: l=>by unfold lessV; rw [Qv2,QyJ]; simp
theorem QvY:∀ {a b c:List Qaa},lessV a b=true→lessV b c=true→lessV a c=true
 | [],[],_,h,_=>by cases h
 | _ :: _,[],_,h,_=>by cases h
 | [],_ :: _,[],_,h=>by cases h
 | [],_ :: _,_ :: _,_,_=>rfl
 | _ :: _,_ :: _,[],_,h=>by cases h
 | x :: a,y :: b,z :: c,h1,h2=>by
  unfold lessV at *
  simp only [Bool.or_eq_true,Bool.and_eq_true,decide_eq_true_iff] at *
  rcases h1 with h1|⟨rfl,h1⟩
  ·rcases h2 with h2|⟨rfl,h2⟩
   ·exact .inl (QyR h1 h2)
   ·exact .inl h1
  ·rcases h2 with h2|⟨rfl,h2⟩
   ·exact .inl h2
   ·exact .inr ⟨rfl,QvY h1 h2⟩
theorem QyL:∀ (a b:List Qaa),a=b∨lessV a b=true∨lessV b a=true
 | [],[]=>.inl rfl
 | [],_ :: _=>.inr (.inl rfl)
 | _ :: _,[]=>.inr (.inr rfl)
 | x :: a,y :: b=>by
  unfold lessV
  simp only [Bool.or_eq_true,Bool.and_eq_true,decide_eq_true_iff]
  rcases QEF x y with rfl|h|h
  ·rcases QyL a b with rfl|h|h
   ·exact .inl rfl
   ·exact .inr (.inl (.inr ⟨rfl,h⟩))
   ·exact .inr (.inr (.inr ⟨rfl,h⟩))
  ·exact .inr (.inl (.inl h))
  ·exact .inr (.inr (.inl h))
theorem QyK:∀ {l a b:List Qaa},lessV (l++a) (l++b)=lessV a b
 | [],_,_=>rfl
 | x :: l,a,b=>by
  rw [List.cons_append,List.cons_append,lessV,Qv2,QyK]
  simp
abbrev Ky:=Int×List Qaa
def kLt (k q:Ky):Prop:=k.1<q.1∨(k.1=q.1∧lessV k.2 q.2=true)
theorem Qxb {k:Ky}:¬ kLt k k:=by
 rintro (h|⟨_,h⟩)
 ·omega
 ·rw [QyJ] at h; cases h
theorem Qwp {a b c:Ky} (h1:kLt a b) (h2:kLt b c):kLt a c:=by
 rcases h1 with h1|⟨h1,h3⟩ <;> rcases h2 with h2|⟨h2,h4⟩
 ·exact .inl (by omega)
 ·exact .inl (by omega)
 ·exact .inl (by omega)
 ·exact .inr ⟨by omega,QvY h3 h4⟩
theorem QCP (a b:Ky):a=b∨kLt a b∨kLt b a:=by
 rcases Int.lt_trichotomy a.1 b.1 with h|h|h
 ·exact .inr (.inl (.inl h))
 ·rcases QyL a.2 b.2 with h'|h'|h'
  ·exact .inl (Prod.ext h h')
  ·exact .inr (.inl (.inr ⟨h,h'⟩))
  ·exact .inr (.inr (.inr ⟨h.symm,h'⟩))
 ·exact .inr (.inr (.inl h))
theorem QB8 {a b c:Ky} (h1:¬ kLt a b) (h2:¬ kLt b c):¬ kLt a c:=fun h=>by
 rcases QCP b c with rfl|h3|h3
 ·exact h1 h
 ·exact h2 h3
 ·exact h1 (Qwp h h3)
def Bst (S:Ky→Prop) (s t:Option Ky):Prop:=(∀ k,t=some k→s=some k∨S k)∧(∀ k,(s=some k∨S k)→∃ k',t=some k'∧¬ kLt k k')
theorem Bst.none {S:Ky→Prop} {s:Option Ky} (h:∀ k,¬ S k):Bst S s s :=
 ⟨fun k e=>.inl e,fun k e=>e.elim (fun e=>⟨k,e,Qxb⟩) fun e=>absurd e (h k)⟩
theorem Bst.comp {S T:Ky→Prop} {s t u:Option Ky} (h1:Bst S s t) (h2:Bst T t u):Bst (fun k=>S k∨T k) s u:=by
 refine ⟨fun k e=>?_,fun k e=>?_⟩
 ·rcases h2.1 k e with e|e
  ·rcases h1.1 k e with e|e
   ·exact .inl e
   ·exact .inr (.inl e)
  ·exact .inr (.inr e)
 ·have go:(s=some k∨S k)→∃ k',u=some k'∧¬ kLt k k':=fun e=>by
   obtain ⟨a,ha,hl⟩:=h1.2 k e
   obtain ⟨b,hb,hm⟩:=h2.2 a (.inl ha)
   exact ⟨b,hb,QB8 hl hm⟩
  rcases e with e|e|e
  ·exact go (.inl e)
  ·exact go (.inr e)
  ·exact h2.2 k (.inr e)
theorem Bst.congr {S T:Ky→Prop} {s t:Option Ky} (h:Bst S s t) (he:∀ k,S k↔T k):Bst T s t :=
 ⟨fun k e=>(h.1 k e).imp id (he k).1,fun k e=>h.2 k (e.imp id (he k).2)⟩
theorem Bst.uniq {S:Ky→Prop} {s t u:Option Ky} (h1:Bst S s t) (h2:Bst S s u):t=u:=by
 cases t with
 | none =>
  cases u with
  | none=>rfl
  | some k=>obtain ⟨k',e,_⟩:=h1.2 k (h2.1 k rfl); cases e
 | some k =>
  obtain ⟨k',e,h3⟩:=h2.2 k (h1.1 k rfl)
  obtain ⟨k'',e',h4⟩:=h1.2 k' (h2.1 k' e)
  cases e'
  rcases QCP k k' with rfl|h|h
  ·exact e.symm
  ·exact absurd h h3
  ·exact absurd h h4
theorem Bst.one {S:Ky→Prop} {k:Ky} (hS:∀ q,S q↔q=k) {s t:Option Ky} (h:(t=some k∧∀ q,s=some q→¬ kLt q k)∨(t=s∧∃ q,s=some q∧¬ kLt k q)):Bst S s t:=by
 rcases h with ⟨rfl,h⟩|⟨rfl,q,rfl,h⟩
 ·refine ⟨fun q e=>.inr ((hS q).2 (Option.some.inj e).symm),fun q e=>⟨k,rfl,?_⟩⟩
  rcases e with e|e
  ·exact h q e
  ·rw [(hS q).1 e]; exact Qxb
 ·refine ⟨fun q e=>.inl e,fun q' e=>?_⟩
  rcases e with e|e
  ·exact ⟨q',e,Qxb⟩
  ·rw [(hS q').1 e]; exact ⟨q,rfl,h⟩
theorem Bst.nil {S:Ky→Prop} {s:Option Ky} (h:∀ k,¬ S k):Bst S s s:=Bst.none h
theorem Bst.more {α:Type} {T:α→Ky→Prop} {l:List α} {i:Nat} {a:α} {s t u:Option Ky} (h:Bst (fun k=>∃ b∈l.take i,T b k) s t) (ha:l[i]?=some a) (h2:Bst (T a) t u):Bst (fun k=>∃ b∈l.take (i+1),T b k) s u:=by
 refine (h.comp h2).congr fun k=>?_
 rw [Qnx ha]
 constructor
 ·rintro (⟨b,hb,h⟩|h)
  ·exact ⟨b,List.mem_append_left _ hb,h⟩
  ·exact ⟨a,by simp,h⟩
 ·rintro ⟨b,hb,h⟩
  rcases List.mem_append.1 hb with hb|hb
  ·exact .inl ⟨b,hb,h⟩
  ·rw [List.mem_singleton.1 hb] at h; exact .inr h
end Go.Proofs.YtoedkepcaigkeaaGreatDoor
namespace Go.Proofs.YtoedkepcaigkeaaGreatDoor
set_option linter.unusedSimpArgs false
set_option linter.unusedVariables false
set_option linter.unusedSectionVars false
def headV (v:Qaa):List Qaa→List Qaa
 | []=>[]
 | w :: r=>if w=v then [] else w :: headV v r
def QDV (x:Qac) (l:List Qaa) (o:Int):Bool:=x.before.all fun p=>!eqI p.x1 o||(visO x p.x0).all fun w=>l.any (isV w)
def QvD (x:Qac) (l:List Qaa) (v:Qaa):Bool:=!l.any (isV v)&&((headV v (visO x v.order)).all (fun w=>l.any (isV w))&&QDV x l v.order)
def offN (x:Qac) (i:Nat):Bool:=match x.orders[i]? with
 | some o=>o.off
 | none=>true
def nextS (x:Qac) (m:Nat) (l:List Qaa):Nat→List Qaa
 | 0=>[]
 | n+1=>nextS x m l n++if (m.testBit n&&!offN x n)=true then (visO x (n:Int)).filter (QvD x l) else []
def restS (x:Qac) (m:Nat) (l:List Qaa):Nat→List Qaa
 | 0=>[]
 | n+1=>restS x m l n++if m.testBit n=true then (visO x (n:Int)).filter (fun v=>!l.any (isV v)) else []
structure GoodL (x:Qac) (l:List Qaa):Prop where
 nodup:l.Nodup
 inn:∀ v∈l,0≤v.order∧v.order<x.orders.length
section
variable {x : Qac} {l t : List Qaa} {m : Nat} {v w : Qaa}
theorem QiN {o:Int} (h:v∈visO x o):v.order=o:=by
 unfold visO at h
 split at h
 ·rcases List.mem_append.1 h with h|h <;> (split at h <;> simp at h; rw [h])
 ·cases h
theorem QCy {o:Int} (h:Qaa.mk o false∈visO x o):∃ r,visO x o=Qaa.mk o false :: r:=by
 unfold visO at h ⊢
 split
 ·rename_i q hq
  rw [hq] at h
  simp only at h
  by_cases hp:0≤q.pick.place
  ·rw [if_pos hp]; exact ⟨_,rfl⟩
  ·rw [if_neg hp,List.nil_append] at h
   split at h
   ·simp at h
   ·cases h
 ·rename_i hq
  rw [hq] at h
  cases h
theorem QBD {o:Int}:(visO x o).Pairwise fun a b=>ltV a b=true:=by
 unfold visO
 split
 ·split <;> split <;> simp [ltV]
 ·exact List.Pairwise.nil
theorem Qur {n:Nat}:v∈nextS x m l n↔∃ i,i<n∧m.testBit i=true∧offN x i=false∧v∈visO x (i:Int)∧QvD x l v=true:=by
 induction n with
 | zero=>simp [nextS]
 | succ n ih =>
  unfold nextS
  rw [List.mem_append,ih]
  constructor
  ·rintro (⟨i,h1,h2⟩|h)
   ·exact ⟨i,by omega,h2⟩
   ·split at h
    ·rename_i hb
     simp only [Bool.and_eq_true,Bool.not_eq_true'] at hb
     obtain ⟨h1,h2⟩:=List.mem_filter.1 h
     exact ⟨n,by omega,hb.1,hb.2,h1,h2⟩
    ·cases h
  ·rintro ⟨i,h1,h2,h3,h4,h5⟩
   rcases Nat.lt_or_eq_of_le (Nat.le_of_lt_succ h1) with h|rfl
   ·exact .inl ⟨i,h,h2,h3,h4,h5⟩
   ·refine .inr ?_
    rw [if_pos (by rw [h2,h3]; rfl)]
    exact List.mem_filter.2 ⟨h4,h5⟩
theorem QEI:(!l.any (isV v))=true↔v ∉ l:=by rw [Bool.not_eq_true',Bool.eq_false_iff,Ne,any_V]
theorem Qrx {n:Nat}:v∈restS x m l n↔∃ i,i<n∧m.testBit i=true∧v∈visO x (i:Int)∧(v∈l→False):=by
 induction n with
 | zero=>simp [restS]
 | succ n ih =>
  unfold restS
  rw [List.mem_append,ih]
  constructor
  ·rintro (⟨i,h1,h2⟩|h)
   ·exact ⟨i,by omega,h2⟩
   ·split at h
    ·rename_i hb
     obtain ⟨h1,h2⟩:=List.mem_filter.1 h
     exact ⟨n,by omega,hb,h1,QEI.1 h2⟩
    ·cases h
  ·rintro ⟨i,h1,h2,h3,h4⟩
   rcases Nat.lt_or_eq_of_le (Nat.le_of_lt_succ h1) with h|rfl
   ·exact .inl ⟨i,h,h2,h3,h4⟩
   ·refine .inr ?_
    rw [if_pos h2]
    exact List.mem_filter.2 ⟨h3,QEI.2 h4⟩
theorem Qsq:∀ n,(restS x m l n).Pairwise fun a b=>ltV a b=true
 | 0=>List.Pairwise.nil
 | n+1=>by
  unfold restS
  rw [List.pairwise_append]
  refine ⟨Qsq n,?_,fun a ha b hb=>?_⟩
  ·split
   ·exact QBD.sublist List.filter_sublist
   ·exact List.Pairwise.nil
  ·obtain ⟨i,h1,_,h2,_⟩:=Qrx.1 ha
   split at hb
   ·have h3:=QiN h2
    have h4:=QiN (List.mem_filter.1 hb).1
    exact ltV_t.2 (.inl (by omega))
   ·cases hb
theorem Qu9 (h:QvD x l v=true):v ∉ l:=by
 unfold QvD at h
 simp only [Bool.and_eq_true,Bool.not_eq_true'] at h
 intro hv
 rw [any_V.2 hv] at h
 cases h.1
theorem GoodL.add (h:GoodL x l) (hv:v ∉ l) (h0:0≤v.order∧v.order<x.orders.length):GoodL x (l++[v]):=by
 refine ⟨List.nodup_append.2 ⟨h.nodup,by simp,fun a ha b hb=>?_⟩,fun w hw=>?_⟩
 ·rw [List.mem_singleton.1 hb]; exact fun e=>hv (e ▸ ha)
 ·rcases List.mem_append.1 hw with hw|hw
  ·exact h.inn w hw
  ·rw [List.mem_singleton.1 hw]; exact h0
theorem QyV (h:GoodL x l) (hv:v∈nextS x m l x.orders.length):GoodL x (l++[v]):=by
 obtain ⟨i,h1,_,_,h2,h3⟩:=Qur.1 hv
 have:=QiN h2
 exact h.add (Qu9 h3) (by omega)
theorem QCl (h:GoodL x l) (hv:v∈restS x m l x.orders.length):GoodL x (l++[v]):=by
 obtain ⟨i,h1,_,h2,h3⟩:=Qrx.1 hv
 have:=QiN h2
 exact h.add h3 (by omega)
theorem GoodL.len (h:GoodL x l):l.length≤2*x.orders.length:=by
 have hm:(l.map fun v:Qaa=>2*v.order.toNat+(if v.drop=true then 1 else 0)).Nodup:=by
  unfold List.Nodup
  rw [List.pairwise_map]
  refine h.nodup.imp_of_mem fun {a b} ha hb hne he=>hne ?_
  have h1:=h.inn a ha
  have h2:=h.inn b hb
  cases a with
  | mk ao ad =>
   cases b with
   | mk bo bd =>
    simp only at h1 h2 he
    have hd:ad=bd∧ao=bo:=by
     cases ad <;> cases bd <;> simp at he ⊢ <;> omega
    rw [hd.1,hd.2]
 have:=Qww (2*x.orders.length) _ hm fun a ha=>by
  obtain ⟨v,hv,rfl⟩:=List.mem_map.1 ha
  have h1:=h.inn v hv
  split <;> omega
 simpa using this
theorem SeqOK.good (h:SeqOK x l):GoodL x l:=⟨h.nodup,fun v hv=>QmZ h.inn hv⟩
theorem SeqOK.all (h:SeqOK x l) {o:Int} (ho:hasO l o=true) (hw:w∈visO x o):w∈l:=by
 obtain ⟨v,hv,rfl⟩:=QoL.1 ho
 have hp:=h.pair v hv
 unfold pairV at hp
 rw [Bool.and_eq_true] at hp
 have hr:=hp.2
 cases hvis:visO x v.order with
 | nil=>rw [hvis] at hw; cases hw
 | cons a r =>
  rw [hvis] at hr hw
  cases r with
  | nil =>
   simp only [rowB,geI_t] at hr
   rw [List.mem_singleton.1 hw]
   exact QAE.1 hr
  | cons b r =>
   obtain ⟨rfl,_⟩:=Qyl hvis
   simp only [rowB,geI_t,Bool.and_eq_true,ltI_t] at hr
   rcases List.mem_cons.1 hw with rfl|hw
   ·exact QAE.1 hr.1
   ·rw [List.mem_singleton.1 hw]
    exact QAE.1 (by omega)
theorem SeqOK.own (h:SeqOK x l) (hv:v∈l):v∈visO x v.order:=by
 have hp:=h.pair v hv
 unfold pairV at hp
 rw [Bool.and_eq_true] at hp
 exact any_V.1 hp.1
theorem QFl (h:(l++v :: t).Nodup):ixI (isV v) (l++v :: t)=(l.length:Int):=by
 have h0:=QAE.2 (show v∈l++v :: t by simp)
 obtain ⟨k,hk⟩:∃ k:Nat,ixI (isV v) (l++v :: t)=k:=⟨(ixI (isV v) (l++v :: t)).toNat,by omega⟩
 obtain ⟨h1,h2⟩:=Qxa hk
 rw [hk]
 rcases Nat.lt_trichotomy k l.length with h3|h3|h3
 ·rw [List.getElem?_append_left h3] at h1
  exact absurd rfl ((List.nodup_append.1 h).2.2 v (List.mem_of_getElem? h1) v (by simp))
 ·rw [h3]
 ·exact absurd (by rw [List.getElem?_append_right (Nat.le_refl _)]; simp) (h2 l.length h3)
theorem ix_lt (h:ixI (isV w) (l++t)<(l.length:Int)) (h0:0≤ixI (isV w) (l++t)):w∈l:=by
 obtain ⟨k,hk⟩:∃ k:Nat,ixI (isV w) (l++t)=k:=⟨(ixI (isV w) (l++t)).toNat,by omega⟩
 obtain ⟨h1,_⟩:=Qxa hk
 rw [List.getElem?_append_left (by omega)] at h1
 exact List.mem_of_getElem? h1
theorem SeqOK.head (h:SeqOK x (l++v :: t)) (hw:w∈headV v (visO x v.order)):w∈l:=by
 have hp:=h.pair v (by simp)
 unfold pairV at hp
 rw [Bool.and_eq_true] at hp
 obtain ⟨h1,hr⟩:=hp
 have hv:=any_V.1 h1
 have hix:=QFl h.nodup
 cases hvis:visO x v.order with
 | nil=>rw [hvis] at hw; cases hw
 | cons a r =>
  rw [hvis] at hr hw hv
  cases r with
  | nil =>
   rw [headV,if_pos (List.mem_singleton.1 hv).symm] at hw
   cases hw
  | cons b r =>
   obtain ⟨rfl,hne⟩:=Qyl hvis
   by_cases ha:a=v
   ·rw [headV,if_pos ha] at hw; cases hw
   ·have hb:b=v:=by
     rcases List.mem_cons.1 hv with h|h
     ·exact absurd h.symm ha
     ·exact (List.mem_singleton.1 h).symm
    rw [headV,if_neg ha,headV,if_pos hb] at hw
    rw [List.mem_singleton.1 hw]
    simp only [rowB,geI_t,Bool.and_eq_true,ltI_t] at hr
    rw [hb,hix] at hr
    exact ix_lt hr.2 hr.1
theorem QBR (h:SeqOK x (l++v :: t)) {p:QaC} (hp:p∈x.before) (ho:p.x1=v.order) (hw:w∈visO x p.x0):w∈l:=by
 have hb:hasO (l++v :: t) p.x1=true:=QoL.2 ⟨v,by simp,ho.symm⟩
 have h1:badB (l++v :: t) p=false:=by simpa using List.any_eq_false.1 h.before p hp
 unfold badB at h1
 rw [hb,Bool.true_and] at h1
 simp only [Bool.or_eq_false_iff,Bool.not_eq_false'] at h1
 obtain ⟨h2,h3⟩:=h1
 have hm:=h.all h2 hw
 rcases List.mem_append.1 hm with hm|hm
 ·exact hm
 ·exfalso
  unfold lateB at h3
  cases e:ixP (isO p.x1) (l++v :: t) with
  | none =>
   have:=Qwo e v (by simp)
   rw [isO_t.2 ho.symm] at this
   cases this
  | some k =>
   rw [e] at h3
   simp only at h3
   have hk:k≤l.length:=Nat.le_of_not_lt fun hlt=>by
    have:=(QpB e).2.2 l.length hlt
    rw [List.getElem_append_right (Nat.le_refl _)] at this
    simp only [Nat.sub_self,List.getElem_cons_zero] at this
    rw [isO_t.2 ho.symm] at this
    cases this
   have:hasO ((l++v :: t).drop k) p.x0=true:=QoL.2 ⟨w,by rw [List.drop_append_of_le_length hk]; exact List.mem_append_right _ hm,QiN hw⟩
   rw [this] at h3
   cases h3
theorem SeqOK.ready (h:SeqOK x (l++v :: t)):QvD x l v=true:=by
 unfold QvD
 have hn:v ∉ l:=fun hv=>(List.nodup_append.1 h.nodup).2.2 v hv v (by simp) rfl
 have e1:l.any (isV v)=false:=by rw [Bool.eq_false_iff,Ne,any_V]; exact hn
 rw [e1,Bool.not_false,Bool.true_and,Bool.and_eq_true,List.all_eq_true]
 refine ⟨fun w hw=>any_V.2 (h.head hw),?_⟩
 unfold QDV
 rw [List.all_eq_true]
 intro p hp
 by_cases ho:p.x1=v.order
 ·rw [Bool.or_eq_true]
  exact .inr (List.all_eq_true.2 fun w hw=>any_V.2 (QBR h hp ho hw))
 ·rw [Bool.or_eq_true]
  exact .inl (by simpa using ho)
theorem QEH (h:SeqOK x (l++v :: t)) (hm:∀ i:Nat,m.testBit i=hasO (l++v :: t) (i:Int)):v∈nextS x m l x.orders.length:=by
 have hv:v∈l++v :: t:=by simp
 have hin:=QmZ h.inn hv
 obtain ⟨n,hn⟩:∃ n:Nat,v.order=n:=⟨v.order.toNat,by omega⟩
 have hoff:=List.any_eq_false.1 h.off v hv
 refine Qur.2 ⟨n,by omega,?_,?_,?_,h.ready⟩
 ·rw [hm,← hn]; exact QoL.2 ⟨v,hv,rfl⟩
 ·unfold offV at hoff
  unfold offN
  rw [hn,Int.toNat_natCast] at hoff
  rw [List.getElem?_eq_getElem (show n<x.orders.length by omega)] at hoff ⊢
  simpa using hoff
 ·rw [← hn]; exact h.own hv
theorem QDS (h:SeqOK x l) (hm:∀ i:Nat,m.testBit i=hasO l (i:Int)) (n:Nat):nextS x m l n=[]:=by
 refine List.eq_nil_iff_forall_not_mem.2 fun v hv=>?_
 obtain ⟨i,_,h1,_,h2,h3⟩:=Qur.1 hv
 rw [hm] at h1
 exact Qu9 h3 (h.all h1 h2)
theorem QEV (h:SeqOK x (l++v :: t)) (hm:∀ i:Nat,m.testBit i=hasO (l++v :: t) (i:Int)):v∈restS x m l x.orders.length∧(v.drop=true→Qaa.mk v.order false ∉ restS x m l x.orders.length):=by
 have hv:v∈l++v :: t:=by simp
 have hin:=QmZ h.inn hv
 obtain ⟨n,hn⟩:∃ n:Nat,v.order=n:=⟨v.order.toNat,by omega⟩
 have hown:=h.own hv
 refine ⟨Qrx.2 ⟨n,by omega,?_,?_,Qu9 h.ready⟩,fun hd hr=>?_⟩
 ·rw [hm,← hn]; exact QoL.2 ⟨v,hv,rfl⟩
 ·rw [← hn]; exact hown
 ·obtain ⟨i,_,_,h2,h3⟩:=Qrx.1 hr
  have hi:=QiN h2
  simp only at hi
  rw [← hi] at h2
  refine h3 (h.head ?_)
  -- the pickup lies ahead of the delivery
  have hvd:v=Qaa.mk v.order true:=by cases v; simp only at hd; rw [hd]
  obtain ⟨r,hr⟩:=QCy h2
  rw [hr,headV,if_neg (by rw [hvd]; simp)]
  exact List.mem_cons_self ..
theorem QDZ (h:SeqOK x l) (hm:∀ i:Nat,m.testBit i=hasO l (i:Int)) (n:Nat):restS x m l n=[]:=by
 refine List.eq_nil_iff_forall_not_mem.2 fun v hv=>?_
 obtain ⟨i,_,h1,h2,h3⟩:=Qrx.1 hv
 rw [hm] at h1
 exact h3 (h.all h1 h2)
end
end Go.Proofs.YtoedkepcaigkeaaGreatDoor
namespace Go.Proofs.YtoedkepcaigkeaaGreatDoor
set_option linter.unusedSimpArgs false
set_option linter.unusedVariables false
set_option linter.unusedSectionVars false
theorem Qv1 {α E:Type} {l:List α} (hl:l.length≤1048576) (p:α→Bool) (N:List α→E) {B:List α×Int→Option ((List α×Int)⊕E)} (s0:List α)
  (hin:∀ (s:List α) (i:Nat) (a:α),l[i]?=some a→s.length≤s0.length+i→B (s,(i:Int))=some (.inl (if p a=true then s++[a] else s,(i:Int)+1)))
  (hend:∀ s,B (s,(l.length:Int))=some (.inr (N s))):loopF B (s0,0)=some (N (s0++l.filter p)):=by
 rw [Qxg (B:=B) hl (fun s a=>.inl (if p a=true then s++[a] else s)) N (fun i s=>s.length≤s0.length+i) (fun s i a h hi=>⟨hin s i a h hi,fun s' h'=>by
  cases h'
  split
  ·simp; omega
  ·omega⟩) (fun s _=>hend s) (Nat.le_refl _)]
 congr 1
 have key:∀ (l s:List α),foldE (fun s a=>(.inl (if p a=true then s++[a] else s):List α⊕E)) N s l=N (s++l.filter p):=by
  intro l
  induction l with
  | nil=>intro s; simp [foldE]
  | cons a r ih =>
   intro s
   rw [QyE rfl,ih,List.filter_cons]
   split <;> simp
 exact key l s0
section
variable {x : Qac} {l : List Qaa} {m : Nat} {v : Qaa}
theorem QAB {a:Qaa}:(eqI a.order v.order&&(eqB a.drop v.drop&&true))=isV v a:=by
 rw [Bool.eq_iff_iff,isV_t]; cases v; cases a; simp
theorem QEh {r:List Qaa}:(!r.any (fun a=>ltI (ixI (isV a) l) 0))=r.all (fun w=>l.any (isV w)):=by
 rw [List.all_eq_not_any_not]
 congr 1
 congr 1
 funext a
 rw [QyQ,QmY]
theorem QCN:∀ {r:List Qaa},(match ixP (fun a=>isV v a||!l.any (isV a)) r with
  | some k=>(match r[k]? with|some a=>if isV v a=true then (.inl ():Unit⊕Bool) else .inr false|none=>.inl ())
  | none=>.inl ())=if (headV v r).all (fun w=>l.any (isV w))=true then .inl () else .inr false
 | []=>rfl
 | a :: r=>by
  unfold ixP headV
  by_cases ha:isV v a=true
  ·rw [if_pos (by rw [ha]; rfl),if_pos (isV_t.1 ha)]
   simp only [List.getElem?_cons_zero]
   rw [if_pos ha]
   rfl
  ·rw [if_neg (show ¬ a=v from fun h=>ha (isV_t.2 h))]
   by_cases hl:l.any (isV a)=true
   ·rw [if_neg (by rw [hl]; simpa using ha),List.all_cons,hl,Bool.true_and,← QCN (r:=r)]
    cases ixP (fun a=>isV v a||!l.any (isV a)) r <;> rfl
   ·rw [if_pos (by simp [hl])]
    simp only [List.getElem?_cons_zero]
    rw [if_neg ha,List.all_cons,if_neg (by simp [hl])]
theorem QDW (hx:Qdw x) (hl:l.length≤1048576) (h0:0≤v.order) (h1:v.order<x.orders.length):QjR x l v=some (QvD x l v):=by
 unfold QjR QvD
 rw [Qry hl,Qak,QmY]
 cases hv:l.any (isV v) with
 | true=>rfl
 | false =>
  rw [QgJ,QsC hx h0 h1,Qak,Bool.not_false,Bool.true_and]
  have h2:=QnB (x:=x) (o:=v.order)
  have l1:=Qs9 (B:=fun s=>QcT x l v (visO x v.order) s) (l:=visO x v.order) (by omega) (fun a=>isV v a||!l.any (isV a)) (fun k=>(match (visO x v.order)[k]? with|some a=>if isV v a=true then (.inl ():Unit⊕Bool) else .inr false|none=>.inl ())) (N:=.inl ()) (fun i a h=>by
   show QcT x l v (visO x v.order) i=_
   unfold QcT
   rw [QbH h,QAB,Qry hl,Qak,QyQ,QmY,incL h (by omega),h]
   cases hv:isV v a with
   | true=>rw [if_pos (by rfl)]; simp only [hv]; rfl
   | false =>
    cases hq:l.any (isV a) with
    | true=>rfl
    | false=>rw [if_pos (by rfl)]; simp only [hv]; rfl) (by
   show QcT x l v (visO x v.order) (visO x v.order).length=_
   unfold QcT
   rw [Qba])
  have l1':loopF (fun s=>QcT x l v (visO x v.order) s) 0=some (if (headV v (visO x v.order)).all (fun w=>l.any (isV w))=true then .inl () else .inr false):=l1.trans (congrArg some QCN)
  rw [l1',Qak]
  by_cases hh:(headV v (visO x v.order)).all (fun w=>l.any (isV w))=true
  ·rw [if_pos hh,Qfw,hh,Bool.true_and]
   have hb:=hx.before
   have l2:=QdF (B:=fun s=>QcU x l v s) (l:=x.before) (by omega) (fun p=>!(!eqI p.x1 v.order||(visO x p.x0).all fun w=>l.any (isV w))) (y:=(.inr false:Unit⊕Bool)) (N:=.inl ()) (fun i p h=>by
    obtain ⟨p0,p1,p2,p3,p4⟩:=hx.befores p (List.mem_of_getElem? h)
    show QcU x l v i=_
    unfold QcU
    rw [QbH h,incL h (by omega)]
    have hne:neI p.x1 v.order=!eqI p.x1 v.order:=rfl
    rw [hne]
    cases eqI p.x1 v.order with
    | false=>rfl
    | true =>
     rw [Bool.not_true,QgJ,QsC hx p0 p1,Qak,Bool.false_or]
     have h3:=QnB (x:=x) (o:=p.x0)
     have l3:=QdF (B:=fun s=>Qdm x l v i (visO x p.x0) s) (l:=visO x p.x0) (by omega) (fun w=>ltI (ixI (isV w) l) 0) (y:=(.inr false:Unit⊕Bool)) (N:=.inl ()) (fun j w hw=>by
      show Qdm x l v i (visO x p.x0) j=_
      unfold Qdm
      rw [QbH hw,Qry hl,Qak,incL hw (by omega),brs]) (by
      show Qdm x l v i (visO x p.x0) (visO x p.x0).length=_
      unfold Qdm
      rw [Qba])
     rw [Qc4 l3,← QEh]
     cases (visO x p.x0).any (fun w=>ltI (ixI (isV w) l) 0) <;> rfl) (by
    show QcU x l v x.before.length=_
    unfold QcU
    rw [Qba])
   rw [Qc4 l2]
   unfold QDV
   rw [List.all_eq_not_any_not]
   cases x.before.any (fun p=>!(!eqI p.x1 v.order||(visO x p.x0).all fun w=>l.any (isV w))) <;> rfl
  ·rw [if_neg hh,Qmy]
   rw [Bool.eq_false_iff.2 hh,Bool.false_and]
theorem Qus:∀ n,(nextS x m l n).length≤2*n
 | 0=>Nat.le_refl _
 | n+1=>by
  have h1:=Qus n
  unfold nextS
  rw [List.length_append]
  split
  ·have h2:=List.length_filter_le (QvD x l) (visO x (n:Int))
   have h3:=QnB (x:=x) (o:=(n:Int))
   omega
  ·simp; omega
theorem QEk {i:Nat} (hm:m<1024) (hi:i≤62):eqI (andK .i64 (shrK .i64 (m:Int) (i:Int)) 1) 0=!m.testBit i:=by
 rw [shrN (by omega),show (1:Int)=((1:Nat):Int) from rfl]
 have hd:=Nat.div_le_self m (2 ^ i)
 rw [andN (by omega) (by omega),Nat.and_one_is_mod,Nat.testBit_eq_decide_div_mod_eq]
 generalize m / 2 ^ i=q
 rw [Bool.eq_iff_iff,eqI_t,Bool.not_eq_true',decide_eq_false_iff_not]
 omega
theorem QCB (hx:Qdw x) (hl:l.length≤1048576) (hm:m<1024):Qjl x (m:Int) l=some (nextS x m l x.orders.length):=by
 have h10:=hx.orders
 unfold Qjl
 have this:loopF (fun q:List Qaa×Int=>Qdk x (m:Int) l q.1 q.2) ([],0)=some (nextS x m l x.orders.length):=Qgj x.orders.length (fun k=>(nextS x m l k,(k:Int))) (B:=fun q:List Qaa×Int=>Qdk x (m:Int) l q.1 q.2) (e:=nextS x m l x.orders.length) (by omega) (fun k hk=>by
  obtain ⟨o,ho⟩:∃ o,x.orders[k]?=some o:=⟨_,List.getElem?_eq_getElem hk⟩
  show Qdk x (m:Int) l (nextS x m l k) (k:Int)=_
  have hlen:=Qus (x:=x) (m:=m) (l:=l) k
  unfold Qdk
  rw [QbH ho,Qa0 (by simp; omega),QeU (by omega),QEk hm (by omega),incL ho (by omega)]
  have hoff:offN x k=o.off:=by unfold offN; rw [ho]
  show _=some (Sum.inl (nextS x m l k++(if (m.testBit k&&!offN x k)=true then _ else _),((k+1:Nat):Int)))
  rw [hoff]
  cases hb:m.testBit k with
  | false=>simp
  | true =>
   cases hf:o.off with
   | true=>simp
   | false =>
    rw [Bool.not_true,Bool.false_or,QgJ,QsC hx (by omega) (by omega),Qak]
    have h2:=QnB (x:=x) (o:=(k:Int))
    rw [Qc4 (Qv1 (B:=fun q:List Qaa×Int=>QdG x (m:Int) l (k:Int) (visO x (k:Int)) q.1 q.2) (l:=visO x (k:Int)) (by omega) (QvD x l) id (nextS x m l k) (fun s i a h hs=>by
     have ha:=QiN (List.mem_of_getElem? h)
     show QdG x (m:Int) l (k:Int) (visO x (k:Int)) s i=_
     unfold QdG
     rw [QbH h,QDW hx hl (by omega) (by omega),Qak,incL h (by omega),QeU (Qf9 (by have:=(List.getElem?_eq_some_iff.1 h).1; simp; omega)),brs]
     split <;> rfl) (fun s=>by
     show QdG x (m:Int) l (k:Int) (visO x (k:Int)) s (visO x (k:Int)).length=_
     unfold QdG
     rw [Qba]; rfl))]
    simp) (by
  show Qdk x (m:Int) l (nextS x m l x.orders.length) (x.orders.length:Int)=_
  unfold Qdk
  rw [Qba])
 rw [Qc4 this]
end
end Go.Proofs.YtoedkepcaigkeaaGreatDoor
namespace Go.Proofs.YtoedkepcaigkeaaGreatDoor
set_option linter.unusedSimpArgs false
set_option linter.unusedVariables false
set_option linter.unusedSectionVars false
def cmpI (a b:Int):Int:=if a<b then -1 else if b<a then 1 else 0
def cmpV (a b:Qaa):Int:=if cmpI a.order b.order≠0 then cmpI a.order b.order else cmpI (if a.drop=true then 1 else 0) (if b.drop=true then 1 else 0)
theorem QCF (a b:Int):Qgg a b=some (cmpI a b):=by
 unfold Qgg Qjo cmpI
 rw [Qak,Qak,show neI a a=false by simp,show neI b b=false by simp,QgJ,QgJ,brs,brs]
 simp only [ltI_t,gtI_t]
theorem QAc {a b:Int}:cmpI a b=0↔a=b:=by unfold cmpI; split <;> (try split) <;> omega
theorem QCG {a b:Int}:cmpI a b<0↔a<b:=by unfold cmpI; split <;> (try split) <;> omega
theorem QDm (a b:Int):QoE [a,b]=some (if a≠0 then a else b):=by
 unfold QoE
 have g0:Qei [a,b] 0=some (if a≠0 then .inr (.inr a) else .inl 1):=by
  unfold Qei
  rw [show br (ltI 0 (lenI [a,b])) (bnd (getI [a,b] 0) fun x0=>br (neI x0 0) (some (.inr (.inr x0))) (some (.inl (addK .i64 0 1)))) (some (.inr (.inl ())))=br (neI a 0) (some (.inr (.inr a):Int⊕(Unit⊕Int))) (some (.inl 1)) from rfl,brs]
  simp only [neI_t]
 have g1:Qei [a,b] 1=some (if b≠0 then .inr (.inr b) else .inl 2):=by
  unfold Qei
  rw [show br (ltI 1 (lenI [a,b])) (bnd (getI [a,b] 1) fun x0=>br (neI x0 0) (some (.inr (.inr x0))) (some (.inl (addK .i64 1 1)))) (some (.inr (.inl ())))=br (neI b 0) (some (.inr (.inr b):Int⊕(Unit⊕Int))) (some (.inl 2)) from rfl,brs]
  simp only [neI_t]
 have g2:Qei [a,b] 2=some (.inr (.inl ())):=rfl
 have key:loopF (fun s=>Qei [a,b] s) 0=some (if a≠0 then .inr a else if b≠0 then .inr b else .inl ()):=by
  refine Qtv 3 (by decide) ?_
  simp only [iterF]
  rw [g0]
  by_cases ha:a≠0
  ·rw [if_pos ha,if_pos ha]
  ·rw [if_neg ha,if_neg ha]
   simp only
   rw [g1]
   by_cases hb:b≠0
   ·rw [if_pos hb,if_pos hb]
   ·rw [if_neg hb,if_neg hb]
    simp only
    rw [g2]
 rw [Qc4 key]
 by_cases ha:a≠0
 ·rw [if_pos ha,if_pos ha,Qmy]
 ·rw [if_neg ha,if_neg ha]
  by_cases hb:b≠0
  ·rw [if_pos hb,Qmy]
  ·rw [if_neg hb,Qfw]
   congr 1; omega
theorem QEo (a b:Qaa):QhW a b=some (cmpV a b):=by
 have h1:∀ v:Qaa,Qfl v=some (if v.drop=true then 1 else 0):=fun v=>by unfold Qfl; rw [brs]
 unfold QhW cmpV
 rw [QCF,Qak,h1,Qak,h1,Qak,QCF,Qak,QDm,Qak]
theorem QEn {a b:Qaa}:cmpV a b=0↔a=b:=by
 unfold cmpV
 cases a; cases b
 simp only [ne_eq,QAc,Qaa.mk.injEq]
 split
 ·rename_i h
  rw [QAc]
  exact ⟨fun h'=>absurd h' h,fun h'=>absurd h'.1 h⟩
 ·rename_i h
  rw [QAc]
  rename_i d _ e
  cases d <;> cases e <;> simp_all
theorem QEp {a b:Qaa}:ltI (cmpV a b) 0=ltV a b:=by
 rw [Bool.eq_iff_iff,ltI_t,ltV_t]
 unfold cmpV
 split
 ·rename_i h
  rw [QCG]
  rw [Ne,QAc] at h
  exact ⟨fun h'=>.inl h',fun h'=>h'.elim id fun h'=>absurd h'.1 h⟩
 ·rename_i h
  simp only [ne_eq,QAc,Classical.not_not] at h
  rw [QCG]
  cases a.drop <;> cases b.drop <;> simp <;> omega
theorem QqE:∀ {k:Nat} {a b:List Qaa},(∀ j,j<k→∃ u,a[j]?=some u∧b[j]?=some u)→lessV a b=lessV (a.drop k) (b.drop k)
 | 0,_,_,_=>rfl
 | k+1,a,b,h=>by
  obtain ⟨u,h1,h2⟩:=h 0 (by omega)
  cases a with
  | nil=>simp at h1
  | cons x a =>
   cases b with
   | nil=>simp at h2
   | cons y b =>
    simp at h1 h2
    subst h1
    subst h2
    rw [lessV,Qv2,List.drop_succ_cons,List.drop_succ_cons,← QqE (k:=k) (a:=a) (b:=b) fun j hj=>by simpa using h (j+1) (by omega)]
    simp
def difN (a b:List Qaa) (k:Nat):Bool:=match a[k]?,b[k]? with
 | some u,some w=>!decide (u=w)
 | some _,none=>true
 | _,_=>false
theorem Qyy {a b:List Qaa} {k:Nat} (h:k<a.length) (hd:difN a b k=false):∃ u,a[k]?=some u∧b[k]?=some u:=by
 unfold difN at hd
 rw [List.getElem?_eq_getElem h] at hd ⊢
 cases hb:b[k]? with
 | none=>rw [hb] at hd; cases hd
 | some w =>
  rw [hb] at hd
  simp only [Bool.not_eq_false',decide_eq_true_iff] at hd
  exact ⟨_,rfl,by rw [hd]⟩
theorem QEe {a b:List Qaa} (ha:a.length≤1048576) (hb:b.length≤1048576):QlF a b=some (lessV a b):=by
 unfold QlF QaU
 rcases QCq (B:=fun s=>Qav a b s) (n:=a.length) ha (difN a b) (fun k=>(.inr (match a[k]?,b[k]? with|some u,some w=>cmpV u w|_,_=>1):Unit⊕Int)) (N:=.inl ()) (fun i hi=>by
  have e:a[i]?=some a[i]:=List.getElem?_eq_getElem hi
  show Qav a b i=_
  unfold Qav difN
  rw [QbH e,incL e ha,e]
  generalize a[i]=u at e
  cases hb2:b[i]? with
  | none =>
   rw [Qbd (by simp only [geI_t,lenI]; have:=List.getElem?_eq_none_iff.1 hb2; omega)]
   rfl
  | some w =>
   rw [Qa0 (by have:=(List.getElem?_eq_some_iff.1 hb2).1; simp [lenI]; omega),QaW hb2,Qak,QEo,Qak,brs]
   by_cases hq:u=w
   ·rw [if_neg (by simp only [neI_t,Classical.not_not,ne_eq]; exact QEn.2 hq),if_neg (by simp [hq])]
   ·rw [if_pos (by simp only [neI_t,ne_eq]; exact fun h=>hq (QEn.1 h)),if_pos (by simp [hq])]) (by
  show Qav a b a.length=_
  unfold Qav
  rw [Qba]) with ⟨k,h1,h2,h3,h4⟩|⟨h1,h4⟩
 ·rw [Qc4 h4,Qmy,Qak]
  rw [QqE (k:=k) fun j hj=>Qyy (by omega) (h3 j hj)]
  unfold difN at h2
  rw [List.drop_eq_getElem_cons h1]
  rw [List.getElem?_eq_getElem h1] at h2 ⊢
  cases hb2:b[k]? with
  | none =>
   rw [List.drop_eq_nil_of_le (List.getElem?_eq_none_iff.1 hb2)]
   rfl
  | some w =>
   obtain ⟨g1,g2⟩:=List.getElem?_eq_some_iff.1 hb2
   rw [hb2] at h2
   simp only [Bool.not_eq_true',decide_eq_false_iff_not] at h2
   rw [List.drop_eq_getElem_cons g1,lessV,g2]
   simp only
   rw [QEp,decide_eq_false h2,Bool.false_and,Bool.or_false]
 ·rw [Qc4 h4,Qfw]
  rw [QqE (k:=a.length) fun j hj=>Qyy hj (h1 j hj),List.drop_length,brs,Qak]
  by_cases hl:a.length<b.length
  ·rw [if_pos (by simp [lenI]; omega),List.drop_eq_getElem_cons hl]; rfl
  ·rw [if_neg (by simp [lenI]; omega),List.drop_eq_nil_of_le (by omega)]; rfl
theorem QBL {a b:List Qaa} (ha:a.length≤1048576) (hb:b.length≤1048576):QiB a b=some (lessV a b):=by
 unfold QiB
 have hmin:min a.length b.length≤1048576:=by omega
 rcases QCq (B:=fun s=>QcZ a b s) (n:=min a.length b.length) hmin (difN a b) (fun k=>(.inr (match a[k]?,b[k]? with|some u,some w=>ltV u w|_,_=>false):Unit⊕Bool)) (N:=.inl ()) (fun i hi=>by
  have e:a[i]?=some (a[i]'(by omega)):=List.getElem?_eq_getElem _
  have e2:b[i]?=some (b[i]'(by omega)):=List.getElem?_eq_getElem _
  show QcZ a b i=_
  unfold QcZ difN QjF
  rw [Qbd (by simp [lenI]; omega),QaW e,Qak,QaW e2,Qak,incL e ha,e,e2,Qak]
  generalize a[i]'(by omega)=u
  generalize b[i]'(by omega)=w
  rw [QAB]
  by_cases hq:u=w
  ·rw [Qbd (isV_t.2 hq),if_neg (by simp [hq])]
  ·rw [Qa0 (Bool.eq_false_iff.2 fun h=>hq (isV_t.1 h)),if_pos (by simp [hq])]
   simp only [ltV,Bool.and_assoc]) (by
  show QcZ a b ((min a.length b.length:Nat):Int)=_
  unfold QcZ
  rw [Qa0 (by simp [lenI]; omega)]) with ⟨k,h1,h2,h3,h4⟩|⟨h1,h4⟩
 ·rw [Qc4 h4,Qmy]
  rw [QqE (k:=k) fun j hj=>Qyy (by omega) (h3 j hj)]
  have g1:k<a.length:=by omega
  have g2:k<b.length:=by omega
  unfold difN at h2
  rw [List.drop_eq_getElem_cons g1,List.drop_eq_getElem_cons g2,lessV]
  rw [List.getElem?_eq_getElem g1,List.getElem?_eq_getElem g2] at h2 ⊢
  simp only [Bool.not_eq_true',decide_eq_false_iff_not] at h2
  simp only
  rw [decide_eq_false h2,Bool.false_and,Bool.or_false]
 ·rw [Qc4 h4,Qfw]
  rw [QqE (k:=min a.length b.length) fun j hj=>Qyy (by omega) (h1 j hj)]
  by_cases hl:a.length<b.length
  ·rw [Nat.min_eq_left (by omega),List.drop_length,List.drop_eq_getElem_cons hl,show ltI (lenI a) (lenI b)=true by simp [lenI]; omega]; rfl
  ·rw [Nat.min_eq_right (by omega),show ltI (lenI a) (lenI b)=false by simp [lenI]; omega,List.drop_length]
   cases a.drop b.length <;> rfl
section
variable {x : Qac} {l : List Qaa} {m : Nat} {v : Qaa}
theorem QCX (hl:l.length≤1048576):Qn4 l v=some (l.any (isV v)):=by
 unfold Qn4
 rw [Qc4 (QdF (B:=fun s=>Qgx l v s) hl (isV v) (y:=(.inr true:Unit⊕Bool)) (N:=.inl ()) (fun i a h=>by
  show Qgx l v i=_
  unfold Qgx
  rw [QbH h,QAB,incL h hl,brs]) (by
  show Qgx l v l.length=_
  unfold Qgx
  rw [Qba]))]
 cases l.any (isV v) <;> rfl
theorem Qzn {o:Int} (h0:0≤o) (h1:o<x.orders.length) (h10:x.orders.length≤10):QlN x.orders o=some (visO x o):=by
 have e:x.orders[o.toNat]?=some (x.orders[o.toNat]'(by omega)):=List.getElem?_eq_getElem _
 generalize x.orders[o.toNat]'(by omega)=q at e
 have hg:getI x.orders o=some q:=by unfold getI; rw [if_pos h0,e]
 unfold QlN QbR
 have hs:subK .i64 (lenI x.orders) 1=(x.orders.length:Int)-1:=by unfold lenI; exact subI (by omega) (by omega)
 rw [hs,Qak,Qbd (by simp; omega),hg,Qak]
 unfold visO
 rw [e]
 have hJ:∀ l1:List Qaa,l1.length≤1→QgR x.orders o l1=some (l1++if 0≤q.drop.place then [Qaa.mk o true] else []):=fun l1 hl=>by
  unfold QgR
  rw [hg,Qak,QeU (by unfold okN; simp; omega),br_if]
  simp only [geI_t]
  split <;> simp
 rw [hJ _ (by simp),hJ _ (by simp),QeU (by unfold okN; simp),brs]
 simp only [geI_t]
 split <;> rfl
theorem QDy (hm:m<9223372036854775808) {i:Nat} (hi:i≤62):QpI (m:Int) (i:Int)=some (m.testBit i):=by
 unfold QpI
 have:loopF (fun q:Int×Int=>QfH (i:Int) q.1 q.2) ((m:Int),0)=some (((m / 2 ^ i:Nat):Int)):=by
  have h0:((m:Int),(0:Int))=(fun k:Nat=>(((m / 2 ^ k:Nat):Int),(k:Int))) 0:=by simp
  rw [h0]
  refine Qgj i (fun k:Nat=>(((m / 2 ^ k:Nat):Int),(k:Int))) (by omega) (fun k hk=>?_) ?_
  ·show QfH (i:Int) ((m / 2 ^ k:Nat):Int) (k:Int)=_
   unfold QfH
   have hd:=Nat.div_le_self m (2 ^ k)
   have hd2:=Nat.div_le_self m (2 ^ (k+1))
   have e2:((m / 2 ^ k:Nat):Int).tdiv 2=((m / 2 ^ (k+1):Nat):Int):=by
    rw [Int.tdiv_eq_ediv_of_nonneg (Int.natCast_nonneg _),Nat.pow_succ,← Nat.div_div_eq_div_mul]
    rfl
   generalize m / 2 ^ (k+1)=q at hd2 e2
   rw [Qbd (by simp; omega),addI (by omega) (by omega)]
   rw [quoI (by rw [e2]; omega) (by rw [e2]; omega),e2]
   rfl
  ·show QfH (i:Int) ((m / 2 ^ i:Nat):Int) (i:Int)=_
   unfold QfH
   rw [Qa0 (by simp)]
 rw [Qc4 this,QwV]
theorem QwF:∀ n,(restS x m l n).length≤2*n
 | 0=>Nat.le_refl _
 | n+1=>by
  have h1:=QwF n
  unfold restS
  rw [List.length_append]
  split
  ·have h2:=List.length_filter_le (fun v=>!l.any (isV v)) (visO x (n:Int))
   have h3:=QnB (x:=x) (o:=(n:Int))
   omega
  ·simp; omega
theorem QEU (hx:Qdw x) (hl:l.length≤1048576) (hm:m<1024):Qoy x (m:Int) l=some (restS x m l x.orders.length):=by
 have h10:=hx.orders
 unfold Qoy
 have this:loopF (fun q:List Qaa×Int=>Qea x (m:Int) l q.1 q.2) ([],0)=some (restS x m l x.orders.length):=Qgj x.orders.length (fun k=>(restS x m l k,(k:Int))) (B:=fun q:List Qaa×Int=>Qea x (m:Int) l q.1 q.2) (e:=restS x m l x.orders.length) (by omega) (fun k hk=>by
  show Qea x (m:Int) l (restS x m l k) (k:Int)=_
  have hlen:=QwF (x:=x) (m:=m) (l:=l) k
  have h2:=QnB (x:=x) (o:=(k:Int))
  unfold Qea
  rw [Qbd (by simp [lenI]; omega),QDy (by omega) (by omega),Qak,Qzn (by omega) (by omega) h10,Qak,inc hk (by omega)]
  show _=some (Sum.inl (restS x m l k++(if m.testBit k=true then _ else _),((k+1:Nat):Int)))
  cases hb:m.testBit k with
  | false=>simp
  | true =>
   rw [QhF,Qc4 (Qv1 (B:=fun q:List Qaa×Int=>Qfi x (m:Int) l (k:Int) (visO x (k:Int)) q.1 q.2) (l:=visO x (k:Int)) (by omega) (fun v=>!l.any (isV v)) id (restS x m l k) (fun s i a h hs=>by
    have hi:=(List.getElem?_eq_some_iff.1 h).1
    show Qfi x (m:Int) l (k:Int) (visO x (k:Int)) s i=_
    unfold Qfi
    rw [QbH h,QCX hl,Qak,incL h (by omega),QeU (Qf9 (by simp; omega))]
    cases l.any (isV a) <;> rfl) (fun s=>by
    show Qfi x (m:Int) l (k:Int) (visO x (k:Int)) s (visO x (k:Int)).length=_
    unfold Qfi
    rw [Qba]; rfl))]
   simp) (by
  show Qea x (m:Int) l (restS x m l x.orders.length) (x.orders.length:Int)=_
  unfold Qea
  rw [Qa0 (by simp [lenI])])
 rw [Qc4 this]
end
end Go.Proofs.YtoedkepcaigkeaaGreatDoor
namespace Go.Proofs.YtoedkepcaigkeaaGreatDoor
set_option linter.unusedSimpArgs false
set_option linter.unusedVariables false
set_option linter.unusedSectionVars false
def rW (b:Qad) (l:List Qaa):Qad:=Qad.mk b.type_ b.start b.rests l
noncomputable def prX (x:Qac) (r:Qad):Int×Int:=(Qfj x r).getD (0,1)
def ordS (l:List Qaa) (m:Nat):Prop:=∀ i:Nat,m.testBit i=hasO l (i:Int)
def ValR (x:Qac) (b:Qad) (m:Nat) (l:List Qaa):Prop:=l.length≤1048576∧(prX x (rW b l)).2=0∧ordS l m
noncomputable def kyX (x:Qac) (b:Qad) (l:List Qaa):Ky:=((prX x (rW b l)).1,l)
def candX (x:Qac) (b:Qad) (m:Nat) (l:List Qaa) (k:Ky):Prop:=∃ t,ValR x b m (l++t)∧k=kyX x b (l++t)
def QE9:Qad:=Qad.mk 0 0 [] []
def zCol:Qag:=Qag.mk 0 0 0 QE9
def colP (b:Qad) (m:Nat) (k:Ky):Qag:=Qag.mk b.type_ (m:Int) k.1 (rW b k.2)
def finP (x:Qac) (b:Qad) (m:Nat) (s:Option Ky):Qat:=match s with
 | none=>Qat.mk x b (m:Int) false zCol
 | some k=>Qat.mk x b (m:Int) true (colP b m k)
instance (k q:Ky):Decidable (kLt k q):=inferInstanceAs (Decidable (_∨_))
def Qzm (s:Option Ky):Prop:=∀ k,s=some k→k.2.length≤1048576
structure FewI (x:Qac):Prop where
 ok:Qdw x
 few:x.orders.length≤3
section
variable {x : Qac} {b r : Qad} {l t : List Qaa} {m n : Nat} {v : Qaa} {s : Option Ky}
theorem QEu:(finP x b m s).x=x:=by unfold finP; split <;> rfl
theorem QFe:(finP x b m s).begin=b:=by unfold finP; split <;> rfl
theorem QEt:(finP x b m s).set_=m:=by unfold finP; split <;> rfl
theorem GoodL.six (h:GoodL x l) (hf:FewI x):l.length≤6:=by
 have:=h.len
 have:=hf.few
 omega
theorem GoodL.inn' (h:GoodL x l):l.any (fun v=>!inO x v)=false:=by
 rw [List.any_eq_false]
 intro v hv
 have:=h.inn v hv
 simp [inO]
 omega
theorem Qv5 (hx:Qdw x) (hR:Qin r) (h9:Qsx r):Qfj x r=some (prX x r)∧Qdj x r=some (prX x r):=by
 obtain ⟨w,h1,h2⟩:=QzR hx hR h9
 have:prX x r=w:=by unfold prX; rw [h1]; rfl
 rw [this]
 exact ⟨h1,h2⟩
theorem pr_ev (hx:Qdw x) (hR:Qin r) (h9:Qsx r) (h:(prX x r).2=0):(evX x r).2.2=0:=by
 obtain ⟨e1,_⟩:=QvV hx hR h9
 obtain ⟨p1,_⟩:=Qv5 hx hR h9
 unfold Qfj at p1
 rw [e1,Qak] at p1
 by_cases h0:(evX x r).2.2=0
 ·exact h0
 ·rw [Qbd (by simpa using h0)] at p1
  have:=Option.some.inj p1
  rw [← this] at h
  exact h
theorem QFu (hx:Qdw x) (hR:Qin r) (h9:Qsx r) (h:(prX x r).2=0):SeqOK x r.visits:=by
 obtain ⟨_,_,_,_,e5⟩:=QvV hx hR h9
 obtain ⟨_,q,hE⟩:=e5 (pr_ev hx hR h9 h)
 exact Qxx hE.seq
theorem rW_I (hR:Qin b) (hl:l.length≤8):Qin (rW b l)∧Qsx (rW b l):=by
 refine ⟨⟨hR.type_,hR.start,hR.rests,?_⟩,?_⟩
 ·show l.length≤_
  omega
 ·unfold Qsx
  show ¬ (9<l.length∧l.length≤20)
  omega
theorem QEQ (hf:FewI x) (hR:Qin b) (hl:l.length≤1048576) (h:(prX x (rW b l)).2=0):SeqOK x l:=by
 have hx:=hf.ok
 by_cases h9:9<l.length∧l.length≤20
 ·exfalso
  have hs:seqS x l≠0:=fun h0=>by
   have:=(Qxx h0).good.six hf
   omega
  have hp:Qfj x (rW b l)=some (0,if 0≤b.type_∧b.type_<x.types.length then seqS x l else 2):=by
   have hs':¬ seqS x (rW b l).visits=0:=hs
   unfold Qfj Qf0
   by_cases ht:0≤b.type_∧b.type_<x.types.length
   ·have ht':0≤(rW b l).type_∧(rW b l).type_<x.types.length:=ht
    rw [Qa0 (by simp [lenI]; omega),QxJ hx (show (rW b l).visits.length≤1048576 from hl),Qak,Qbd (by simpa using hs'),Qak,Qbd (by simpa using hs'),if_pos ht]
    rfl
   ·have ht':¬ (0≤(rW b l).type_∧(rW b l).type_<x.types.length):=ht
    rw [Qbd (by simp [lenI]; omega),Qak,Qbd (by decide),if_neg ht]
  unfold prX at h
  rw [hp] at h
  simp only [Option.getD_some] at h
  split at h
  ·exact hs h
  ·cases h
 ·exact QFu (r:=rW b l) hx ⟨hR.type_,hR.start,hR.rests,hl⟩ h9 h
theorem Qwy {m n:Nat} (h1:ordS l m) (h2:ordS l n):m=n:=Nat.eq_of_testBit_eq fun i=>by rw [h1,h2]
theorem QA0 (hx:Qdw x) (hg:GoodL x r.visits) (hl:r.visits.length≤1048576):∃ k:Nat,k<1024∧ordS r.visits k∧Qem r=some ((k:Int),0)∧Qb8 r=some ((k:Int),0):=by
 obtain ⟨p,hp,p0,⟨k,hk,hk2,hk3⟩⟩:=QvM hx hl hg.inn'
 obtain ⟨q,hq,q0,⟨j,hj,hj2,hj3⟩⟩:=QA1 hx hl hg.inn'
 have hjk:j=k:=Qwy (l:=r.visits) hj3 hk3
 refine ⟨k,hk2,hk3,?_,?_⟩
 ·rw [hp]; congr 1; exact Prod.ext hk p0
 ·rw [hq]; congr 1; exact Prod.ext (by rw [hj,hjk]) q0
theorem QC9 {k:Nat} (hl:l.length≤1048576) (hk:ordS l k):ValR x b m l↔(prX x (rW b l)).2=0∧k=m :=
 ⟨fun h=>⟨h.2.1,Qwy hk h.2.2⟩,fun h=>⟨hl,h.1,h.2 ▸ hk⟩⟩
theorem QBY (hl:l.length≤1048576):Qbs l=some l:=by
 unfold Qbs
 rw [QeU (Qf9 (by omega))]
 cases l with
 | nil=>exact QzY
 | cons a r=>rfl
theorem Qyo {a c:Qag} (ha:a.route.visits.length≤1048576) (hc:c.route.visits.length≤1048576):Qh1 a c=some (decide (kLt (a.price,a.route.visits) (c.price,c.route.visits))):=by
 unfold Qh1
 rw [QEe ha hc,Qak,brs]
 by_cases h:a.price=c.price
 ·rw [if_neg (by simpa using h)]
  congr 1
  rw [Bool.eq_iff_iff,decide_eq_true_iff]
  unfold kLt
  simp only
  exact ⟨fun h'=>.inr ⟨h,h'⟩,fun h'=>h'.elim (fun h'=>by omega) fun h'=>h'.2⟩
 ·rw [if_pos (by simpa using h)]
  congr 1
  rw [Bool.eq_iff_iff,decide_eq_true_iff,ltI_t]
  unfold kLt
  simp only
  exact ⟨fun h'=>.inl h',fun h'=>h'.elim id fun h'=>absurd h'.1 h⟩
theorem Qz4 (hf:FewI x) (hR:Qin b) (hg:GoodL x l) (hs:Qzm s):post (QfI (finP x b m s) l) fun f=>∃ s',f=finP x b m s'∧Bst (fun k=>ValR x b m l∧k=kyX x b l) s s':=by
 have h6:=hg.six hf
 obtain ⟨hR2,h9⟩:=rW_I hR (show l.length≤8 by omega)
 obtain ⟨k,hk1,hk2,hk3,_⟩:=QA0 (r:=rW b l) hf.ok hg (show l.length≤1048576 by omega)
 obtain ⟨p1,_⟩:=Qv5 hf.ok hR2 h9
 unfold QfI
 rw [QFe,QEu,QEt]
 rw [show Qad.mk b.type_ b.start b.rests l=rW b l from rfl,hk3,Qak]
 have hval:=QC9 (x:=x) (b:=b) (m:=m) (show l.length≤1048576 by omega) (show ordS l k from hk2)
 refine QaO (fun h=>Qaw.2 ⟨s,rfl,Bst.none fun q hq=>?_⟩) (fun h=>?_)
 ·simp only [orT,neI_t] at h
  have:=(hval.1 hq.1).2
  rw [this] at h
  omega
 ·simp only [orF,neI_f] at h
  rw [p1,Qak]
  refine QaO (fun h0=>Qaw.2 ⟨s,rfl,Bst.none fun q hq=>?_⟩) (fun h0=>?_)
  ·exact (neI_t.1 h0) hq.1.2.1
  ·rw [neI_f] at h0
   have hv:ValR x b m l:=hval.2 ⟨h0,by omega⟩
   have hS:∀ q,(ValR x b m l∧q=kyX x b l)↔q=kyX x b l:=fun q=>⟨fun h=>h.2,fun h=>⟨hv,h⟩⟩
   have hnew:Qat.mk x b (m:Int) true (Qag.mk b.type_ (m:Int) (prX x (rW b l)).1 (rW b l))=finP x b m (some (kyX x b l)):=rfl
   rw [hnew]
   cases s with
   | none=>exact Qaw.2 ⟨some (kyX x b l),rfl,Bst.one hS (.inl ⟨rfl,fun q h=>by cases h⟩)⟩
   | some q =>
    have hq:=hs q rfl
    show post (br true (bnd (Qh1 (colP b m (kyX x b l)) (colP b m q)) fun r2=>_) _) _
    rw [QhF,Qyo (show l.length≤1048576 by omega) hq,Qak]
    refine QaO (fun h2=>?_) (fun h2=>?_)
    ·have h3:kLt (kyX x b l) q:=of_decide_eq_true h2
     exact Qaw.2 ⟨some (kyX x b l),rfl,Bst.one hS (.inl ⟨rfl,fun q' e h4=>by cases e; exact Qxb (Qwp h3 h4)⟩)⟩
    ·have h3:¬ kLt (kyX x b l) q:=of_decide_eq_false h2
     exact Qaw.2 ⟨some q,rfl,Bst.one hS (.inr ⟨rfl,q,rfl,h3⟩)⟩
theorem Qwd (hv:∀ t,ValR x b m (l++t)→t=[]) (k:Ky):(ValR x b m l∧k=kyX x b l)↔candX x b m l k:=by
 constructor
 ·rintro ⟨h1,h2⟩
  exact ⟨[],by rw [List.append_nil]; exact h1,by rw [List.append_nil]; exact h2⟩
 ·rintro ⟨t,h1,h2⟩
  have:=hv t h1
  subst this
  rw [List.append_nil] at h1 h2
  exact ⟨h1,h2⟩
theorem Qwe {vs:List Qaa} (hv:∀ t,ValR x b m (l++t)→∃ v t',t=v :: t'∧v∈vs) (k:Ky):(∃ v∈vs,candX x b m (l++[v]) k)↔candX x b m l k:=by
 constructor
 ·rintro ⟨v,_,t,h1,h2⟩
  rw [List.append_assoc] at h1 h2
  exact ⟨[v]++t,h1,h2⟩
 ·rintro ⟨t,h1,h2⟩
  obtain ⟨v,t',rfl,hm⟩:=hv t h1
  exact ⟨v,hm,t',by rw [List.append_assoc]; exact h1,by rw [List.append_assoc]; exact h2⟩
theorem Qzm.bst {S:Ky→Prop} {s':Option Ky} (hs:Qzm s) (h:Bst S s s') (hS:∀ k,S k→k.2.length≤1048576):Qzm s':=fun k e=>(h.1 k e).elim (hs k) (hS k)
theorem Qt8 (hf:FewI x) (hR:Qin b) (h:ValR x b m l):SeqOK x l:=QEQ hf hR h.1 h.2.1
theorem Qyj (hf:FewI x) (hR:Qin b) (h:ValR x b m (l++v :: t)):v∈nextS x m l x.orders.length:=QEH (Qt8 hf hR h) h.2.2
theorem QE6 (hf:FewI x) (hR:Qin b) (h:ValR x b m l):nextS x m l x.orders.length=[]:=QDS (Qt8 hf hR h) h.2.2 _
end
end Go.Proofs.YtoedkepcaigkeaaGreatDoor
namespace Go.Proofs.YtoedkepcaigkeaaGreatDoor
set_option linter.unusedSimpArgs false
set_option linter.unusedVariables false
set_option linter.unusedSectionVars false
def finR (x:Qac) (b:Qad) (m:Nat) (s:Option Ky):QaR:=match s with
 | none=>QaR.mk x (m:Int) false QE9 0
 | some k=>QaR.mk x (m:Int) true (rW b k.2) k.1
section
variable {x : Qac} {b r : Qad} {l t : List Qaa} {m n : Nat} {v : Qaa} {s : Option Ky}
theorem QFg:(finR x b m s).x=x:=by unfold finR; split <;> rfl
theorem QFf:(finR x b m s).set_=m:=by unfold finR; split <;> rfl
theorem Qzq (k:Ky) (h:candX x b m l k):k.2.length≤1048576:=by
 obtain ⟨t,h1,rfl⟩:=h
 exact h1.1
theorem QvQ {vs:List Qaa} (k:Ky) (h:∃ v∈vs,candX x b m (l++[v]) k):k.2.length≤1048576:=by
 obtain ⟨v,_,h⟩:=h
 exact Qzq k h
theorem Qzi (hf:FewI x) (hR:Qin b) (hm:m<1024):∀ (n:Nat) {l:List Qaa} {s:Option Ky},GoodL x l→6<l.length+n→Qzm s →
  post (Qdp n (finP x b m s) l) fun f=>∃ s',f=finP x b m s'∧Bst (candX x b m l) s s'
 | 0,l,s,hg,hn,_=>by have:=hg.six hf; omega
 | n+1,l,s,hg,hn,hs=>by
  have hx:=hf.ok
  have h6:=hg.six hf
  show post (Qfv (Qdp n) (finP x b m s) l) _
  unfold Qfv
  rw [QEu,QEt,QCB hx (by omega) hm,Qak]
  have hnl:=Qus (x:=x) (m:=m) (l:=l) x.orders.length
  have h3:=hf.few
  refine QaO (fun h=>?_) (fun h=>?_)
  ·have hnil:nextS x m l x.orders.length=[]:=List.eq_nil_of_length_eq_zero (by simp only [eqI_t,lenI] at h; omega)
   refine Qa1 (Qz4 hf hR hg hs) fun f ⟨s',h1,h2⟩=>Qaw.2 ⟨s',h1,h2.congr (Qwd fun t ht=>?_)⟩
   cases t with
   | nil=>rfl
   | cons v t'=>have:=Qyj hf hR ht; rw [hnil] at this; cases this
  ·refine QkB ?_
   have hne:nextS x m l x.orders.length≠[]:=fun h0=>by rw [h0] at h; simp [lenI] at h
   refine Qdd (fun q:Qat×Int=>∃ (i:Nat) (s':Option Ky),q=(finP x b m s',(i:Int))∧i≤(nextS x m l x.orders.length).length∧Bst (fun k=>∃ v∈(nextS x m l x.orders.length).take i,candX x b m (l++[v]) k) s s') (fun q=>(nextS x m l x.orders.length).length-q.2.toNat) ⟨0,s,rfl,Nat.zero_le _,Bst.none fun k hk=>by simp at hk⟩ (by simp; omega) ?_
   rintro _ ⟨i,s',rfl,hi,hb⟩
   show post (QdM (Qdp n) l (nextS x m l x.orders.length) (finP x b m s') (i:Int)) _
   unfold QdM
   rcases Nat.lt_or_ge i (nextS x m l x.orders.length).length with hlt|hge
   ·have e:(nextS x m l x.orders.length)[i]?=some (nextS x m l x.orders.length)[i]:=List.getElem?_eq_getElem hlt
    have hmem:=List.getElem_mem hlt
    generalize (nextS x m l x.orders.length)[i]=v at e hmem
    have hg2:=QyV hg hmem
    rw [QbH e,QBY (by omega),Qak,QeU (Qf9 (by simp; omega)),incL e (by omega)]
    refine Qa1 (Qzi hf hR hm n hg2 (by simp; omega) (hs.bst hb (QvQ (l:=l)))) fun f ⟨s2,h1,h2⟩=>?_
    subst h1
    exact QdW ⟨⟨i+1,s2,rfl,hlt,hb.more (T:=fun v k=>candX x b m (l++[v]) k) e h2⟩,by simp; omega⟩
   ·obtain rfl:i=(nextS x m l x.orders.length).length:=by omega
    rw [Qba]
    refine Qc1 (Qaw.2 ⟨s',rfl,hb.congr fun k=>?_⟩)
    rw [List.take_length]
    refine Qwe (fun t ht=>?_) k
    cases t with
    | nil=>rw [List.append_nil] at ht; exact absurd (QE6 hf hR ht) hne
    | cons v t'=>exact ⟨v,t',rfl,Qyj hf hR ht⟩
def PreS (s:Option Ky) (l:List Qaa):Prop:=∀ k,s=some k→∀ t,lessV (l++t) k.2=false
theorem Qyk (hf:FewI x) (hR:Qin b) (h:ValR x b m (l++v :: t)):v∈restS x m l x.orders.length∧(v.drop=true→Qaa.mk v.order false ∉ restS x m l x.orders.length):=QEV (Qt8 hf hR h) h.2.2
theorem QBB (hf:FewI x) (hR:Qin b) (h:ValR x b m l):restS x m l x.orders.length=[]:=QDZ (Qt8 hf hR h) h.2.2 _
theorem QzD (hf:FewI x) (hR:Qin b) (hg:GoodL x l) (hp:PreS s l) (g:Bool) (hgv:g=true→¬ ValR x b m l) :
  post (bnd (Qb8 (rW b l)) fun r2=>br (((neI r2.2 0)||(neI r2.1 (m:Int)))||g) (some (finR x b m s)) (bnd (Qdj x (rW b l)) fun r3=>br ((eqI r3.2 0)&&((!(finR x b m s).ok)||(ltI r3.1 (finR x b m s).price))) (some (QaR.mk x (m:Int) true (rW b l) r3.1)) (some (finR x b m s))))
   fun f=>∃ s',f=finR x b m s'∧Bst (fun k=>ValR x b m l∧k=kyX x b l) s s':=by
 have h6:=hg.six hf
 obtain ⟨hR2,h9⟩:=rW_I hR (show l.length≤8 by omega)
 obtain ⟨k,hk1,hk2,_,hk3⟩:=QA0 (r:=rW b l) hf.ok hg (show l.length≤1048576 by omega)
 obtain ⟨_,p1⟩:=Qv5 hf.ok hR2 h9
 have hval:=QC9 (x:=x) (b:=b) (m:=m) (show l.length≤1048576 by omega) (show ordS l k from hk2)
 rw [hk3,Qak]
 refine QaO (fun h=>Qaw.2 ⟨s,rfl,Bst.none fun q hq=>?_⟩) (fun h=>?_)
 ·simp only [orT,neI_t] at h
  rcases h with h|h
  ·have:=(hval.1 hq.1).2
   rw [this] at h
   omega
  ·exact hgv h hq.1
 ·simp only [orF,neI_f] at h
  rw [p1,Qak]
  refine QaO (fun h0=>?_) (fun h0=>?_)
  ·simp only [Bool.and_eq_true,eqI_t,Bool.or_eq_true,Bool.not_eq_true',ltI_t] at h0
   have hv:ValR x b m l:=hval.2 ⟨h0.1,by omega⟩
   have hS:∀ q,(ValR x b m l∧q=kyX x b l)↔q=kyX x b l:=fun q=>⟨fun h=>h.2,fun h=>⟨hv,h⟩⟩
   refine Qaw.2 ⟨some (kyX x b l),rfl,Bst.one hS (.inl ⟨rfl,fun q e=>?_⟩)⟩
   subst e
   have hlt:(prX x (rW b l)).1<q.1:=h0.2.elim (fun h=>by cases h) id
   rintro (h4|⟨h4,_⟩)
   ·have h4':q.1<(prX x (rW b l)).1:=h4
    omega
   ·have h4':q.1=(prX x (rW b l)).1:=h4
    omega
  ·simp only [Bool.and_eq_false_iff,eqI_f,Bool.or_eq_false_iff,Bool.not_eq_false',ltI_f] at h0
   by_cases hz:(prX x (rW b l)).2=0
   ·have hv:ValR x b m l:=hval.2 ⟨hz,by omega⟩
    have hS:∀ q,(ValR x b m l∧q=kyX x b l)↔q=kyX x b l:=fun q=>⟨fun h=>h.2,fun h=>⟨hv,h⟩⟩
    obtain ⟨h1,h2⟩:=h0.resolve_left fun h=>h hz
    cases s with
    | none=>cases h1
    | some q =>
     refine Qaw.2 ⟨some q,rfl,Bst.one hS (.inr ⟨rfl,q,rfl,?_⟩)⟩
     rintro (h4|⟨h4,h5⟩)
     ·have h4':(prX x (rW b l)).1<q.1:=h4
      have h2':q.1≤(prX x (rW b l)).1:=h2
      omega
     ·have:=hp q rfl []
      rw [List.append_nil] at this
      have h5':lessV l q.2=true:=h5
      rw [this] at h5'
      cases h5'
   ·exact Qaw.2 ⟨s,rfl,Bst.none fun q hq=>hz (hval.1 hq.1).1⟩
theorem QCx {vs:List Qaa} {i:Nat} {v:Qaa} (hi:i<vs.length):v∈vs.take i↔∃ j,j<i∧vs[j]?=some v:=Qrl (by omega)
theorem PreS.step {vs:List Qaa} (hs:vs.Pairwise fun a b=>ltV a b=true) {i:Nat} {s':Option Ky} (hp:PreS s l) (hb:Bst (fun k=>∃ v∈vs.take i,candX x b m (l++[v]) k) s s') {w:Qaa} (hw:vs[i]?=some w):PreS s' (l++[w]):=by
 intro k e t
 rcases hb.1 k e with e|⟨v,hv,t',_,rfl⟩
 ·rw [List.append_assoc]
  exact hp k e _
 ·show lessV (l++[w]++t) (l++[v]++t')=false
  rw [List.append_assoc,List.append_assoc,QyK,List.singleton_append,List.singleton_append,lessV]
  obtain ⟨j,hj,hjv⟩:=(QCx (List.getElem?_eq_some_iff.1 hw).1).1 hv
  have hlt:ltV v w=true:=by
   rw [List.pairwise_iff_getElem] at hs
   obtain ⟨a1,a2⟩:=List.getElem?_eq_some_iff.1 hw
   obtain ⟨b1,b2⟩:=List.getElem?_eq_some_iff.1 hjv
   have:=hs j i b1 a1 hj
   rw [a2,b2] at this
   exact this
  have h1:ltV w v=false:=Bool.eq_false_iff.2 fun h=>by
   have:=QyR h hlt
   rw [Qv2] at this
   cases this
  have h2:¬ w=v:=fun h=>by rw [h,Qv2] at hlt; cases hlt
  rw [h1,decide_eq_false h2]
  rfl
theorem QvW (hf:FewI x) (hR:Qin b) (hm:m<1024):∀ (n:Nat) {l:List Qaa} {s:Option Ky},GoodL x l→6<l.length+n→PreS s l →
  post (QfY n (finR x b m s) (rW b l)) fun f=>∃ s',f=finR x b m s'∧Bst (fun k=>if b.rests.length>l.length then ValR x b m l∧k=kyX x b l else candX x b m l k) s s'
 | 0,l,s,hg,hn,_=>by have:=hg.six hf; omega
 | n+1,l,s,hg,hn,hp=>by
  have hx:=hf.ok
  have h6:=hg.six hf
  show post (QjJ (QfY n) (finR x b m s) (rW b l)) _
  unfold QjJ
  rw [QFg,QFf,show (rW b l).visits=l from rfl,QEU hx (by omega) hm,Qak]
  have hnl:=QwF (x:=x) (m:=m) (l:=l) x.orders.length
  have h3:=hf.few
  refine QaO (fun h=>?_) (fun h=>?_)
  ·refine (QzD hf hR hg hp (gtI (lenI (restS x m l x.orders.length)) 0) fun hg1 hv=>?_).mono fun f ⟨s',h1,h2⟩=>⟨s',h1,h2.congr fun k=>?_⟩
   ·rw [QBB hf hR hv] at hg1
    cases hg1
   ·by_cases hfin:b.rests.length>l.length
    ·rw [if_pos hfin]
    ·rw [if_neg hfin]
     have hnil:restS x m l x.orders.length=[]:=List.eq_nil_of_length_eq_zero (by
      simp only [orT,eqI_t,gtI_t,lenI] at h
      have h':(restS x m l x.orders.length).length=(0:Int)∨(b.rests.length:Int)>l.length:=h
      omega)
     refine Qwd (fun t ht=>?_) k
     cases t with
     | nil=>rfl
     | cons v t'=>have:=(Qyk hf hR ht).1; rw [hnil] at this; cases this
  ·have hfin:¬ b.rests.length>l.length:=fun hgt=>by
    simp only [orF,eqI_f,gtI_f,lenI] at h
    have h':(b.rests.length:Int)≤l.length:=h.2
    omega
   have hne:restS x m l x.orders.length≠[]:=fun h0=>by rw [h0] at h; simp [lenI] at h
   refine QkB ?_
   refine Qdd (fun q:QaR×Qad×Int=>∃ (i:Nat) (s':Option Ky),q=(finR x b m s',rW b l,(i:Int))∧i≤(restS x m l x.orders.length).length∧Bst (fun k=>∃ v∈(restS x m l x.orders.length).take i,candX x b m (l++[v]) k) s s') (fun q=>(restS x m l x.orders.length).length-q.2.2.toNat) ⟨0,s,rfl,Nat.zero_le _,Bst.none fun k hk=>by simp at hk⟩ (by simp; omega) ?_
   rintro _ ⟨i,s',rfl,hi,hb⟩
   show post (QiY (QfY n) (restS x m l x.orders.length) (finR x b m s') (rW b l) (i:Int)) _
   unfold QiY
   rcases Nat.lt_or_ge i (restS x m l x.orders.length).length with hlt|hge
   ·have e:(restS x m l x.orders.length)[i]?=some (restS x m l x.orders.length)[i]:=List.getElem?_eq_getElem hlt
    have hmem:=List.getElem_mem hlt
    generalize (restS x m l x.orders.length)[i]=v at e hmem
    have hg2:=QCl hg hmem
    have hp2:=hp.step (Qsq _) hb e
    have hok:okN l.length 16:=Qf9 (by omega)
    have hok2:okN (l++[v]).length 16:=Qf9 (by simp; omega)
    rw [Qbd (by simp [lenI]; omega),show (rW b l).visits=l from rfl,QeU hok,QaW e,Qak,QeU hok2,QCX (by omega),Qak,incL e (by omega)]
    have go:post (bnd (QfY n (finR x b m s') (Qad.mk (rW b l).type_ (rW b l).start (rW b l).rests (l++[v]))) fun r5=>some (Sum.inl (r5,rW b l,(i:Int)+1):(QaR×Qad×Int)⊕QaR)) fun z=>(∀ s2,z=.inl s2→(∃ (i:Nat) (s':Option Ky),s2=(finR x b m s',rW b l,(i:Int))∧i≤(restS x m l x.orders.length).length∧Bst (fun k=>∃ v∈(restS x m l x.orders.length).take i,candX x b m (l++[v]) k) s s')∧(restS x m l x.orders.length).length-s2.2.2.toNat<(restS x m l x.orders.length).length-((i:Int)).toNat)∧∀ e,z=.inr e→post (some e) fun f=>∃ s',f=finR x b m s'∧Bst (fun k=>if b.rests.length>l.length then ValR x b m l∧k=kyX x b l else candX x b m l k) s s':=by
     refine Qa1 (QvW hf hR hm n hg2 (by simp; omega) hp2) fun f ⟨s2,h1,h2⟩=>?_
     subst h1
     refine QdW ⟨⟨i+1,s2,rfl,hlt,hb.more (T:=fun v k=>candX x b m (l++[v]) k) e (h2.congr fun k=>?_)⟩,by simp; omega⟩
     rw [if_neg (by simp; omega)]
    cases hd:v.drop with
    | false=>rw [QgJ]; exact go
    | true =>
     rw [QhF]
     refine QaO (fun hon=>?_) (fun _=>go)
     refine QdW ⟨⟨i+1,s',rfl,hlt,hb.more (T:=fun v k=>candX x b m (l++[v]) k) e (Bst.none fun k hk=>?_)⟩,by simp; omega⟩
     obtain ⟨t',h1,_⟩:=hk
     rw [List.append_assoc] at h1
     exact (Qyk hf hR h1).2 hd (any_V.1 hon)
   ·obtain rfl:i=(restS x m l x.orders.length).length:=by omega
    rw [Qa0 (by simp [lenI])]
    refine Qc1 (Qaw.2 ⟨s',rfl,hb.congr fun k=>?_⟩)
    rw [List.take_length,if_neg hfin]
    refine Qwe (fun t ht=>?_) k
    cases t with
    | nil=>rw [List.append_nil] at ht; exact absurd (QBB hf hR ht) hne
    | cons v t'=>exact ⟨v,t',rfl,(Qyk hf hR ht).1⟩
end
end Go.Proofs.YtoedkepcaigkeaaGreatDoor
namespace Go.Proofs.YtoedkepcaigkeaaGreatDoor
set_option linter.unusedSimpArgs false
set_option linter.unusedVariables false
set_option linter.unusedSectionVars false
def bK (kind:Int):Qad:=Qad.mk kind 0 [] []
section
variable {x : Qac} {b r : Qad} {l t : List Qaa} {m n : Nat} {v : Qaa} {s : Option Ky} {kind : Int}
theorem bK_I (hk:isI64 kind):Qin (bK kind):=⟨hk,⟨by show (-9223372036854775808:Int)≤0; decide,by show (0:Int)≤9223372036854775807; decide⟩,Nat.zero_le _,Nat.zero_le _⟩
theorem QxG (hx:Qdw x) (hR:Qin r) (h9:Qsx r):Qfu x r=some (evX x r).2.2:=by
 unfold Qfu
 rw [(QvV hx hR h9).2.1,Qak]
def isS (v a:Qal):Bool:=eqI v.ready a.ready&&(eqI v.driven a.driven&&true)
theorem isS_t {v a:Qal}:isS v a=true↔a=v:=by
 unfold isS
 cases v; cases a
 simp
 exact ⟨fun ⟨h1,h2⟩=>⟨h1.symm,h2.symm⟩,fun ⟨h1,h2⟩=>⟨h1.symm,h2.symm⟩⟩
theorem any_S {L:List Qal} {a:Qal}:L.any (isS a)=true↔a∈L:=by
 rw [List.any_eq_true]
 exact ⟨fun ⟨c,h,h'⟩=>isS_t.1 h' ▸ h,fun h=>⟨a,h,isS_t.2 rfl⟩⟩
theorem QCQ {L:List Qal} {a:Qal} (hL:L.length≤1000000):QgC L a=some (if L.any (isS a)=true then L else L++[a]):=by
 have:=Qs9 (l:=L) (by omega) (isS a) (fun k=>(.inr (k:Int):Unit⊕Int)) (N:=.inl ()) (B:=fun s=>QaP L a s) (fun i c h=>by
  show QaP L a i=_
  unfold QaP
  rw [QbH h,incL h (by omega),brs]; rfl) (by
  show QaP L a L.length=_
  unfold QaP
  rw [Qba])
 have e:QbC L a=some (ixI (isS a) L):=by
  unfold QbC
  rw [Qc4 this]
  unfold ixI
  cases ixP (isS a) L <;> rfl
 unfold QgC Qb0
 rw [e,Qak,Qak,QmY,QeU (Qf9 (by simp; omega)),brs]
def keepS (L:List Qal) (a:Qal):List Qal:=if L.any (isS a)=true then L else L++[a]
theorem QkA {L:List Qal} {a c:Qal}:c∈keepS L a↔c∈L∨c=a:=by
 unfold keepS
 split
 ·rename_i h
  rw [any_S] at h
  exact ⟨fun h'=>.inl h',fun h'=>h'.elim id fun e=>e ▸ h⟩
 ·simp
theorem QsM {L:List Qal} {a:Qal}:(keepS L a).length≤L.length+1:=by
 unfold keepS
 split <;> simp
def StI (a:Qal):Prop:=0≤a.ready∧a.ready≤12288∧0≤a.driven∧a.driven≤4096
end
end Go.Proofs.YtoedkepcaigkeaaGreatDoor
namespace Go.Proofs.YtoedkepcaigkeaaGreatDoor
set_option linter.unusedSimpArgs false
set_option linter.unusedVariables false
set_option linter.unusedSectionVars false
theorem Qzc:∀ {a b:List Qaa},a.Nodup→(∀ v∈a,v∈b)→a.length≤b.length
 | [],_,_,_=>Nat.zero_le _
 | v :: r,b,hn,hs=>by
  have hv:=hs v (List.mem_cons_self ..)
  have hn':=List.nodup_cons.1 hn
  have:=Qzc (a:=r) (b:=b.erase v) hn'.2 fun w hw=>(List.mem_erase_of_ne fun e:w=v=>hn'.1 (e ▸ hw)).2 (hs w (List.mem_cons_of_mem _ hw))
  rw [List.length_erase_of_mem hv] at this
  have:=List.length_pos_of_mem hv
  rw [List.length_cons]
  omega
theorem QE2 {a b:List Qaa} (hn:a.Nodup) (hs:∀ v∈a,v∈b) (hl:b.length≤a.length):∀ v∈b,v∈a:=fun v hv=>by
 refine Classical.byContradiction fun h=>?_
 have:=Qzc (a:=v :: a) (b:=b) (List.nodup_cons.2 ⟨h,hn⟩) fun w hw=>by
  rcases List.mem_cons.1 hw with rfl|hw
  ·exact hv
  ·exact hs w hw
 rw [List.length_cons] at this
 omega
def lmV (m:Nat):List Qaa:=((List.range 10).filter fun i=>m.testBit i).map fun i:Nat=>Qaa.mk (i:Int) false
theorem Qxc {m:Nat} (hm:m<1024) (i:Nat):m.testBit i=hasO (lmV m) (i:Int):=by
 rw [Bool.eq_iff_iff,QoL]
 constructor
 ·intro h
  have hi:i<10:=Nat.lt_of_not_le fun hge=>by
   have:m.testBit i=false:=Nat.testBit_lt_two_pow (Nat.lt_of_lt_of_le hm (Nat.le_trans (by decide) (Nat.pow_le_pow_right (n:=2) (by omega) hge)))
   rw [this] at h; cases h
  exact ⟨Qaa.mk (i:Int) false,List.mem_map.2 ⟨i,List.mem_filter.2 ⟨List.mem_range.2 hi,h⟩,rfl⟩,rfl⟩
 ·rintro ⟨v,hv,he⟩
  obtain ⟨j,hj,rfl⟩:=List.mem_map.1 hv
  have:j=i:=Int.ofNat.inj he
  rw [← this]
  exact (List.mem_filter.1 hj).2
theorem QAL {m:Nat} (hm:m<1024):SetOf (lmV m) (m:Int):=⟨m,rfl,hm,Qxc hm⟩
section
variable {x : Qac} {b r : Qad} {l t : List Qaa} {m n : Nat} {v : Qaa} {s : Option Ky} {kind : Int}
def allV (x:Qac) (m:Nat):List Qaa:=restS x m [] x.orders.length
theorem Qws:v∈allV x m↔∃ i,i<x.orders.length∧m.testBit i=true∧v∈visO x (i:Int):=by
 unfold allV
 rw [Qrx]
 simp
theorem QzU:(allV x m).Nodup:=(Qsq _).imp fun {a b} h e=>by subst e; rw [Qv2] at h; cases h
theorem QC6 (h:SeqOK x l) (ho:ordS l m):∀ v,v∈l↔v∈allV x m:=fun v=>by
 rw [Qws]
 constructor
 ·intro hv
  have hin:=QmZ h.inn hv
  refine ⟨v.order.toNat,by omega,?_,?_⟩
  ·rw [ho,Int.toNat_of_nonneg hin.1]; exact QoL.2 ⟨v,hv,rfl⟩
  ·rw [Int.toNat_of_nonneg hin.1]; exact h.own hv
 ·rintro ⟨i,h1,h2,h3⟩
  rw [ho] at h2
  exact h.all h2 h3
theorem QEX (h:SeqOK x l) (ho:ordS l m):l.length=(allV x m).length:=Nat.le_antisymm (Qzc h.nodup fun v hv=>(QC6 h ho v).1 hv) (Qzc QzU fun v hv=>(QC6 h ho v).2 hv)
theorem QE8 (hx:Qdw x) {i:Nat} (hi:i<x.orders.length):∃ v,v∈visO x (i:Int):=by
 have e:x.orders[i]?=some x.orders[i]:=List.getElem?_eq_getElem hi
 have hO:=hx.ord _ (List.getElem_mem hi)
 unfold visO
 rw [Int.toNat_natCast,e]
 simp only
 have h1:=hO.pick
 have h2:=hO.drop
 have h3:=hO.one
 unfold QzT at h1 h2
 by_cases hp:0≤x.orders[i].pick.place
 ·rw [if_pos hp]; exact ⟨_,List.mem_append_left _ (List.mem_cons_self ..)⟩
 ·rw [if_pos (show 0≤x.orders[i].drop.place by omega)]
  exact ⟨_,List.mem_append_right _ (List.mem_cons_self ..)⟩
theorem QDu (hx:Qdw x) (hm:m<2 ^ x.orders.length) (hg:GoodL x l) (hs:∀ v∈l,v∈allV x m) (hl:l.length=(allV x m).length):ordS l m:=fun i=>by
 rw [Bool.eq_iff_iff,QoL]
 constructor
 ·intro hb
  have hi:i<x.orders.length:=Nat.lt_of_not_le fun hge=>by
   have:m.testBit i=false:=Nat.testBit_lt_two_pow (Nat.lt_of_lt_of_le hm (Nat.pow_le_pow_right (by omega) hge))
   rw [this] at hb; cases hb
  obtain ⟨v,hv⟩:=QE8 hx hi
  exact ⟨v,QE2 hg.nodup hs (by omega) v (Qws.2 ⟨i,hi,hb,hv⟩),QiN hv⟩
 ·rintro ⟨v,hv,he⟩
  obtain ⟨j,_,h2,h3⟩:=Qws.1 (hs v hv)
  have:=QiN h3
  have:j=i:=by omega
  rw [← this]; exact h2
theorem QxI (hx:Qdw x) (hm:m<2 ^ x.orders.length):post (QgG x (m:Int)) fun e=>∀ l,SeqOK x l→ordS l m→e=0:=by
 have h10:=hx.orders
 have hm2:m<1024:=Nat.lt_of_lt_of_le hm (Nat.le_trans (Nat.pow_le_pow_right (n:=2) (by omega) h10) (by decide))
 have tot:post (QgG x (m:Int)) fun _=>True:=by
  have ha16:=hx.apart
  have hb16:=hx.before
  have hS:=QAL hm2
  have hlen:=Qtx (l:=lmV m) 63
  have hmem:∀ i∈memN (lmV m) 63,0≤i∧i<x.orders.length:=fun i hi=>by
   obtain ⟨k,rfl,_,hk⟩:=QuX hi
   rw [← Qxc hm2] at hk
   refine ⟨by omega,?_⟩
   have:k<x.orders.length:=Nat.lt_of_not_le fun hge=>by
    have:m.testBit k=false:=Nat.testBit_lt_two_pow (Nat.lt_of_lt_of_le hm (Nat.pow_le_pow_right (by omega) hge))
    rw [this] at hk; cases hk
   omega
  unfold QgG
  rw [Qa0 (by simp),QsB hS,Qak]
  generalize memN (lmV m) 63=M at *
  rw [Qc4 (QdF (B:=fun q=>QbF x (m:Int) M q) (l:=M) (by omega) (fun i=>geI i (lenI x.orders)) (y:=(.inr 2:Unit⊕Int)) (N:=.inl ()) (fun i a hh=>by
   show QbF x (m:Int) M i=_
   unfold QbF
   rw [QbH hh,incL hh (by omega),brs]) (by
   show QbF x (m:Int) M M.length=_
   unfold QbF
   rw [Qba]))]
  split
  ·exact Qaw.2 trivial
  rw [Qfw,Qc4 (QdF (B:=fun q=>Qbv x (m:Int) M q) (l:=M) (by omega) (fun i=>offN x i.toNat) (y:=(.inr 9:Unit⊕Int)) (N:=.inl ()) (fun i a hh=>by
   obtain ⟨q0,q1⟩:=hmem a (List.mem_of_getElem? hh)
   show Qbv x (m:Int) M i=_
   unfold Qbv offN
   rw [QbH hh,QuO q0 q1,Qak,incL hh (by omega),brs,List.getElem?_eq_getElem (by omega)]) (by
   show Qbv x (m:Int) M M.length=_
   unfold Qbv
   rw [Qba]))]
  split
  ·exact Qaw.2 trivial
  rw [Qfw,Qc4 (QdF (B:=fun q=>Qbp x (m:Int) M q) (l:=x.apart) (by omega) (Qsc (lmV m)) (y:=(.inr 20:Unit⊕Int)) (N:=.inl ()) (fun i a hh=>by
   obtain ⟨p0,p1,p2,p3,p4⟩:=hx.aparts a (List.mem_of_getElem? hh)
   show Qbp x (m:Int) M i=_
   unfold Qbp Qsc
   rw [QbH hh,hS.Has p0 (by omega),Qak,hS.Has p2 (by omega),Qak,incL hh (by omega)]
   cases hasO (lmV m) a.x0 <;> cases hasO (lmV m) a.x1 <;> rfl) (by
   show Qbp x (m:Int) M x.apart.length=_
   unfold Qbp
   rw [Qba]))]
  split
  ·exact Qaw.2 trivial
  rw [Qfw,Qc4 (QdF (B:=fun q=>Qbf x (m:Int) M q) (l:=x.before) (by omega) (fun a=>hasO (lmV m) a.x1&&!hasO (lmV m) a.x0) (y:=(.inr 21:Unit⊕Int)) (N:=.inl ()) (fun i a hh=>by
   obtain ⟨p0,p1,p2,p3,p4⟩:=hx.befores a (List.mem_of_getElem? hh)
   show Qbf x (m:Int) M i=_
   unfold Qbf
   rw [QbH hh,hS.Has p2 (by omega),Qak,hS.Has p0 (by omega),Qak,incL hh (by omega)]
   cases hasO (lmV m) a.x0 <;> cases hasO (lmV m) a.x1 <;> rfl) (by
   show Qbf x (m:Int) M x.before.length=_
   unfold Qbf
   rw [Qba]))]
  split
  ·exact Qaw.2 trivial
  obtain ⟨c,hc,f,rfl,hf⟩:=QvR hx
  rw [Qfw,hc,Qak,Qc4 (QdF (B:=fun q=>Qbb M (vecN x.orders.length fun i=>((f i:Nat):Int)) q) (l:=M) (by omega) (fun i=>(f i.toNat).testBit i.toNat) (y:=(.inr 21:Unit⊕Int)) (N:=.inl ()) (fun i a hh=>by
   obtain ⟨q0,q1⟩:=hmem a (List.mem_of_getElem? hh)
   obtain ⟨k,rfl⟩:∃ k:Nat,a=k:=⟨a.toNat,by omega⟩
   show Qbb M (vecN x.orders.length fun i=>((f i:Nat):Int)) i=_
   unfold Qbb
   have hlt:=hf.lt k
   have hhas:Qku ((f k:Nat):Int) (k:Int)=some ((f k).testBit k):=by
    have:=(QAL hlt).Has (i:=(k:Int)) (by omega) (by omega)
    rw [this,← Qxc hlt]
   rw [QbH hh,Quw q0 q1,Qak,Int.toNat_natCast,hhas,Qak,incL hh (by omega),brs]) (by
   show Qbb M (vecN x.orders.length fun i=>((f i:Nat):Int)) M.length=_
   unfold Qbb
   rw [Qba]))]
  split <;> exact Qaw.2 trivial
 obtain ⟨e,he,-⟩:=tot
 refine ⟨e,he,fun l hq ho=>?_⟩
 have:=QzW hx hq (s:=(m:Int)) ⟨m,rfl,hm2,ho⟩
 rw [he] at this
 exact Option.some.inj this
end
end Go.Proofs.YtoedkepcaigkeaaGreatDoor
namespace Go.Proofs.YtoedkepcaigkeaaGreatDoor
set_option linter.unusedSimpArgs false
set_option linter.unusedVariables false
set_option linter.unusedSectionVars false
def seaP (x:Qac) (kind:Int) (m:Nat) (total:Int) (s:Option Ky):Qaq:=match s with
 | none=>Qaq.mk x kind (m:Int) total zCol false
 | some k=>Qaq.mk x kind (m:Int) total (colP (bK kind) m k) true
noncomputable def arrS (x:Qac) (ty:Qai) (from_:Int) (st:Qau) (a:Qal):Int×Int×Int:=goN x.net ty.profile from_ st.place a.ready
def goodA (x:Qac) (ty:Qai) (from_:Int) (st:Qau) (a:Qal):Prop:=(arrS x ty from_ st a).2.2=0∧a.driven+(arrS x ty from_ st a).1-a.ready≤ty.drive∧(arrS x ty from_ st a).1≤st.close
noncomputable def depA (x:Qac) (ty:Qai) (from_:Int) (st:Qau) (a:Qal):Int:=max (arrS x ty from_ st a).1 st.open_+st.service
noncomputable def sinA (x:Qac) (ty:Qai) (from_:Int) (st:Qau) (a:Qal):Int:=a.driven+(arrS x ty from_ st a).1-a.ready
section
variable {x : Qac} {b r : Qad} {l t : List Qaa} {m n : Nat} {v : Qaa} {s : Option Ky} {kind from_ total : Int} {ty : Qai} {st : Qau}
theorem QCr:(seaP x kind m total s).x=x:=by unfold seaP; split <;> rfl
theorem QD0:(seaP x kind m total s).kind=kind:=by unfold seaP; split <;> rfl
theorem QFx:(seaP x kind m total s).set_=m:=by unfold seaP; split <;> rfl
theorem QFy:(seaP x kind m total s).total=total:=by unfold seaP; split <;> rfl
structure TyI (x:Qac) (kind:Int) (ty:Qai):Prop where
 at_:getI x.types kind=some ty
 drive:1≤ty.drive∧ty.drive≤4096
 rest:0≤ty.rest_∧ty.rest_≤4096
 opn:0≤ty.open_∧ty.open_≤4096
theorem QBK (hs:SOK st) {a:Int} (h0:0≤a) (ha:a≤1048576):QlJ st a=some (if st.close<a then (0,14) else (max a st.open_+st.service,0)):=by
 have h1:=hs.open0; have h2:=hs.open1; have h3:=hs.close; have h4:=hs.serv0; have h5:=hs.serv1
 unfold QlJ Qkx
 rw [QuW,br_if]
 simp only [gtI_t]
 by_cases h:st.close<a
 ·rw [if_pos (by omega),if_pos h,Qak,Qbd (by decide)]
 ·rw [if_neg (by omega),if_neg h,Qak]
  show br (neI 0 0) _ (some (addK .i64 (max a st.open_) st.service,0))=_
  rw [Qa0 (by decide),addI (by omega) (by omega)]
theorem Qva {L:List Qal} (hT:TyI x kind ty) {s0:Qaq} (hx:s0.x=x) (hk:s0.kind=kind) (hL:L.length≤10000) {d e:Int} (hd:0≤d∧d≤8192) :
  QeT s0 L d e=some (keepS (keepS L (Qal.mk d e)) (Qal.mk (d+ty.rest_) 0),s0):=by
 have h1:=hT.rest
 have h2:=QsM (L:=L) (a:=Qal.mk d e)
 unfold QeT
 rw [QCQ (by omega),Qak,hx,hk,hT.at_,Qak,addI (by omega) (by omega)]
 rw [show (if L.any (isS (Qal.mk d e))=true then L else L++[Qal.mk d e])=keepS L (Qal.mk d e) from rfl,QCQ (by omega),Qak]
 rfl
theorem QBE (hf:FewI x) (hT:TyI x kind ty) (hs:SOK st) {s0:Qaq} (hx:s0.x=x) (hk:s0.kind=kind) {L:List Qal} (hL:L.length≤1000) (hb:∀ a∈L,StI a) :
  post (Qg1 s0 from_ L st) fun r=>r.2=s0∧r.1.length≤2*L.length∧(∀ a∈r.1,StI a) ∧
   ∀ a∈L,goodA x ty from_ st a→Qal.mk (depA x ty from_ st a) (sinA x ty from_ st a)∈r.1∧Qal.mk (depA x ty from_ st a+ty.rest_) 0∈r.1:=by
 have hR:=hT.rest
 have hD:=hT.drive
 have h1:=hs.open0; have h2:=hs.open1; have h3:=hs.close; have h4:=hs.serv0; have h5:=hs.serv1
 unfold Qg1
 rw [hx,hk,hT.at_,Qak]
 refine Qa1 (R:=fun r:List Qal×Qaq=>r.2=s0∧r.1.length≤2*L.length∧(∀ a∈r.1,StI a) ∧
   ∀ a∈L,goodA x ty from_ st a→Qal.mk (depA x ty from_ st a) (sinA x ty from_ st a)∈r.1∧Qal.mk (depA x ty from_ st a+ty.rest_) 0∈r.1) ?_ fun r h=>Qaw.2 h
 refine Qdd (fun q:List Qal×Qaq×Int=>∃ i:Nat,q.2.1=s0∧q.2.2=(i:Int)∧i≤L.length∧q.1.length≤2*i∧(∀ a∈q.1,StI a) ∧
   ∀ a∈L.take i,goodA x ty from_ st a→Qal.mk (depA x ty from_ st a) (sinA x ty from_ st a)∈q.1∧Qal.mk (depA x ty from_ st a+ty.rest_) 0∈q.1) (fun q=>L.length-q.2.2.toNat) ⟨0,rfl,rfl,Nat.zero_le _,Nat.le_refl _,(fun a h=>by cases h),(fun a h=>by cases h)⟩ (by simp; omega) ?_
 rintro ⟨out,sx,_⟩ ⟨i,hsx,rfl,hi,hl,hst,hin⟩
 obtain rfl:s0=sx:=hsx.symm
 replace hl:out.length≤2*i:=hl
 show post (Qd1 from_ L st ty out s0 (i:Int)) _
 unfold Qd1
 rcases Nat.lt_or_ge i L.length with hlt|hge
 ·have e:L[i]?=some L[i]:=List.getElem?_eq_getElem hlt
  have hmem:=List.getElem_mem hlt
  generalize L[i]=a at e hmem
  obtain ⟨a1,a2,a3,a4⟩:=hb a hmem
  have hinT:inT a.ready:=⟨a1,by omega⟩
  have htk:=Qnx e
  have skip:¬ goodA x ty from_ st a→post (some (Sum.inl (out,s0,(i:Int)+1):(List Qal×Qaq×Int)⊕(List Qal×Qaq))) fun z=>(∀ s',z=.inl s'→(∃ i:Nat,s'.2.1=s0∧s'.2.2=(i:Int)∧i≤L.length∧s'.1.length≤2*i∧(∀ a∈s'.1,StI a) ∧
   ∀ a∈L.take i,goodA x ty from_ st a→Qal.mk (depA x ty from_ st a) (sinA x ty from_ st a)∈s'.1∧Qal.mk (depA x ty from_ st a+ty.rest_) 0∈s'.1)∧L.length-s'.2.2.toNat<L.length-((i:Int)).toNat)∧∀ e,z=.inr e→e.2=s0∧e.1.length≤2*L.length∧(∀ a∈e.1,StI a) ∧
   ∀ a∈L,goodA x ty from_ st a→Qal.mk (depA x ty from_ st a) (sinA x ty from_ st a)∈e.1∧Qal.mk (depA x ty from_ st a+ty.rest_) 0∈e.1:=fun hng=>by
   refine QdW ⟨⟨i+1,rfl,rfl,hlt,by simp only; omega,hst,fun c hc hg=>?_⟩,by simp; omega⟩
   rw [htk] at hc
   rcases List.mem_append.1 hc with hc|hc
   ·exact hin c hc hg
   ·rw [List.mem_singleton.1 hc] at hg; exact absurd hg hng
  rw [QbH e,hx,go_eq hf.ok.net _ _ _ hinT,Qak,incL e (by omega)]
  have hA:goN x.net ty.profile from_ st.place a.ready=arrS x ty from_ st a:=rfl
  rw [hA]
  refine QaO (fun h=>skip fun hg=>?_) (fun h=>?_)
  ·simp only [orT,neI_t] at h
   obtain ⟨g1,g2,g3⟩:=hg
   have hbd:=Qvy hf.ok.net hinT g1
   rw [hA] at hbd
   rcases h with h|h
   ·exact h g1
   ·rw [addI (by omega) (by omega),subI (by omega) (by omega),gtI_t] at h
    omega
  ·simp only [orF,neI_f] at h
   have hbd:=Qvy hf.ok.net hinT (show (arrS x ty from_ st a).2.2=0 by omega)
   rw [hA] at hbd
   have h6:=h.2
   rw [addI (by omega) (by omega),subI (by omega) (by omega),gtI_f] at h6
   rw [QBK hs (by omega) (by omega),Qak]
   by_cases hc:st.close<(arrS x ty from_ st a).1
   ·rw [if_pos hc,Qbd (by decide)]
    exact skip fun hg=>by have:=hg.2.2; omega
   ·rw [if_neg hc]
    dsimp only
    rw [Qa0 (by decide),addI (by omega) (by omega),subI (by omega) (by omega),Qva hT hx hk (by omega) (by omega),Qak]
    have k1:=QsM (L:=out) (a:=Qal.mk (max (arrS x ty from_ st a).1 st.open_+st.service) (a.driven+(arrS x ty from_ st a).1-a.ready))
    have k2:=QsM (L:=keepS out (Qal.mk (max (arrS x ty from_ st a).1 st.open_+st.service) (a.driven+(arrS x ty from_ st a).1-a.ready))) (a:=Qal.mk (max (arrS x ty from_ st a).1 st.open_+st.service+ty.rest_) 0)
    refine QdW ⟨⟨i+1,rfl,rfl,hlt,by simp only; omega,fun c hc2=>?_,fun c hc2 hg=>?_⟩,by simp; omega⟩
    ·rw [QkA,QkA] at hc2
     rcases hc2 with (hc2|rfl)|rfl
     ·exact hst c hc2
     ·exact ⟨by simp only; omega,by simp only; omega,by simp only; omega,by simp only; omega⟩
     ·exact ⟨by simp only; omega,by simp only; omega,by simp only; omega,by simp only; omega⟩
    ·rw [QkA,QkA,QkA,QkA]
     rw [htk] at hc2
     rcases List.mem_append.1 hc2 with hc2|hc2
     ·obtain ⟨q1,q2⟩:=hin c hc2 hg
      exact ⟨.inl (.inl q1),.inl (.inl q2)⟩
     ·rw [List.mem_singleton.1 hc2]
      exact ⟨.inl (.inr rfl),.inr rfl⟩
 ·obtain rfl:i=L.length:=by omega
  rw [Qba]
  refine Qc1 ⟨rfl,hl,hst,?_⟩
  rw [List.take_length] at hin
  exact hin
theorem QAW {net:Qam} {stops:List Qau} {start:Int} {q:List Bool} (h:okB net ty stops start q):∀ d k,d+k=q.length→okB net ty stops start (q.take k)
 | 0,k,hk=>by rw [List.take_of_length_le (by omega)]; exact h
 | d+1,k,hk=>by
  have h1:=QAW h d (k+1) (by omega)
  have e:q[k]?=some (q[k]'(by omega)):=List.getElem?_eq_getElem _
  rw [Qnx e] at h1
  exact (Qoz.1 h1).1
def CovS (x:Qac) (kind:Int) (m:Nat) (ty:Qai) (l:List Qaa) (from_:Int) (L:List Qal):Prop :=
 ∀ w,ValR x (bK kind) m w→(∃ u,w=l++u)→from_=fromP ty (QaB x (rW (bK kind) w)) l.length ∧
  ∀ q:List Bool,q.length=l.length→okB x.net ty (QaB x (rW (bK kind) w)) 0 q→∀ c,Qal.mk (depS ty (lbB x.net ty (QaB x (rW (bK kind) w)) 0 q) c) (sinS (lbB x.net ty (QaB x (rW (bK kind) w)) 0 q) c)∈L
theorem QE5 (hf:FewI x) (hk:isI64 kind) (h:ValR x (bK kind) m l):SeqOK x l∧Qin (rW (bK kind) l)∧Qsx (rW (bK kind) l)∧∃ q,EvOK x (rW (bK kind) l) (evX x (rW (bK kind) l)).1 q:=by
 have hR:=bK_I hk
 have hq:=Qt8 hf hR h
 have h6:=hq.good.six hf
 obtain ⟨hR2,h9⟩:=rW_I hR (show l.length≤8 by omega)
 obtain ⟨_,q,hE⟩:=(QvV hf.ok hR2 h9).2.2.2.2 (pr_ev hf.ok hR2 h9 h.2.1)
 exact ⟨hq,hR2,h9,q,hE⟩
theorem typK (hT:TyI x kind ty) (h0:0≤kind):typS x (rW (bK kind) l)=ty:=by
 have h:=hT.at_
 unfold getI at h
 rw [if_pos h0] at h
 unfold typS
 show x.types.getD kind.toNat zType=ty
 rw [List.getD_eq_getElem?_getD,h]
 rfl
theorem QD3 {w:List Qaa} (h:stopV x v=some st) (hw:w=l++v :: t):(QaB x (rW b w))[l.length]?=some st:=by
 subst hw
 unfold QaB
 show ((l++v :: t).map fun v=>(stopV x v).getD zStop)[l.length]?=some st
 rw [List.getElem?_map,List.getElem?_append_right (Nat.le_refl _),Nat.sub_self,List.getElem?_cons_zero]
 simp [h]
theorem QDn (hf:FewI x) (hk:isI64 kind) (h0:0≤kind) (hT:TyI x kind ty) (hv:stopV x v=some st) {L L':List Qal} (hc:CovS x kind m ty l from_ L)
  (hn:∀ a∈L,goodA x ty from_ st a→Qal.mk (depA x ty from_ st a) (sinA x ty from_ st a)∈L'∧Qal.mk (depA x ty from_ st a+ty.rest_) 0∈L'):CovS x kind m ty (l++[v]) st.place L':=by
 rintro w hw ⟨u,hu⟩
 rw [List.append_assoc,List.singleton_append] at hu
 obtain ⟨hfrom,hlab⟩:=hc w hw ⟨v :: u,hu⟩
 obtain ⟨hq,hR2,h9,qE,hE⟩:=QE5 hf hk hw
 have hst:=QD3 (b:=bK kind) hv hu
 have hTr:=QBz hf.ok hE.poss
 rw [typK hT h0] at hTr
 generalize QaB x (rW (bK kind) w)=stops at *
 have hlt:l.length<stops.length:=(List.getElem?_eq_some_iff.1 hst).1
 have hsk:stopK ty stops l.length=st:=by
  have:=QwP (t:=ty) hlt
  rw [hst] at this
  exact (Option.some.inj this).symm
 refine ⟨?_,fun q hql hok c=>?_⟩
 ·rw [List.length_append,List.length_singleton]
  show st.place=(stops.getD l.length zStop).place
  rw [List.getD_eq_getElem?_getD,hst]
  rfl
 ·rw [List.length_append,List.length_singleton] at hql
  have eq:q[l.length]?=some (q[l.length]'(by omega)):=List.getElem?_eq_getElem _
  generalize q[l.length]'(by omega)=d at eq
  have hsplit:q=q.take l.length++[d]:=by rw [← Qnx eq,List.take_of_length_le (by omega)]
  have hdl:(q.take l.length).length=l.length:=by rw [List.length_take]; omega
  generalize q.take l.length=p at hsplit hdl
  subst hsplit
  obtain ⟨g1,g2⟩:=Qoz.1 hok
  have hlb:=Qtu hok
  have hmem:=hlab p hdl g1 d
  rw [hdl] at g2 hlb
  generalize lbB x.net ty stops 0 p=lb at *
  rw [hlb]
  clear hlb
  unfold nxt nxtD at g2 ⊢
  rw [hsk,← hfrom] at g2 ⊢
  have hA:goN x.net ty.profile from_ st.place (depS ty lb d)=arrS x ty from_ st (Qal.mk (depS ty lb d) (sinS lb d)):=rfl
  rw [hA] at g2 ⊢
  generalize hst2:Qal.mk (depS ty lb d) (sinS lb d)=a at *
  have e1:a.ready=depS ty lb d:=by rw [← hst2]
  have e2:a.driven=sinS lb d:=by rw [← hst2]
  by_cases c1:(arrS x ty from_ st a).2.2≠0
  ·rw [if_pos c1] at g2; cases g2
  rw [if_neg c1] at g2 ⊢
  by_cases c2:st.close<(arrS x ty from_ st a).1
  ·rw [if_pos c2] at g2; rw [if_pos hlt] at g2; cases g2
  rw [if_neg c2] at g2 ⊢
  by_cases c3:ty.drive<sinS lb d+(arrS x ty from_ st a).1-depS ty lb d
  ·rw [if_pos c3] at g2; cases g2
  rw [if_neg c3] at g2 ⊢
  obtain ⟨m1,m2⟩:=hn a hmem ⟨by omega,by omega,by omega⟩
  unfold depA sinA at m1
  unfold depA at m2
  rw [e1,e2] at m1
  cases c with
  | false =>
   have e:∀ lab:Qaf,depS ty lab false=lab.ready∧sinS lab false=lab.since:=fun lab=>⟨by unfold depS; simp,by unfold sinS; simp⟩
   rw [(e _).1,(e _).2]
   exact m1
  | true =>
   have e:∀ lab:Qaf,depS ty lab true=lab.ready+ty.rest_∧sinS lab true=0:=fun lab=>⟨by unfold depS; simp,by unfold sinS; simp⟩
   rw [(e _).1,(e _).2]
   exact m2
theorem QFd (hf:FewI x) (hk:isI64 kind) (h0:0≤kind) (hT:TyI x kind ty) {L:List Qal} (hc:CovS x kind m ty l from_ L) {u:List Qaa} (hw:ValR x (bK kind) m (l++u)):L≠[]:=by
 obtain ⟨hq,hR2,h9,qE,hE⟩:=QE5 hf hk hw
 have hfull:=hE.full
 rw [typK hT h0] at hfull
 have hlen:=hfull.1
 rw [QkE] at hlen
 have hl2:(rW (bK kind) (l++u)).visits.length=l.length+u.length:=by
  show (l++u).length=_
  rw [List.length_append]
 have hok:=QAW hfull.2.2 (qE.length-l.length) l.length (by omega)
 have:=(hc _ hw ⟨u,rfl⟩).2 (qE.take l.length) (by rw [List.length_take]; omega) hok true
 exact fun h=>by rw [h] at this; cases this
end
end Go.Proofs.YtoedkepcaigkeaaGreatDoor
namespace Go.Proofs.YtoedkepcaigkeaaGreatDoor
set_option linter.unusedSimpArgs false
set_option linter.unusedVariables false
set_option linter.unusedSectionVars false
section
variable {x : Qac} {b r : Qad} {l t : List Qaa} {m n : Nat} {v : Qaa} {s : Option Ky} {kind from_ total : Int} {ty : Qai} {st : Qau}
theorem QCz {o:Int} (h0:0≤o) (h:v∈visO x o):∃ st,stopV x v=some st:=by
 have ho:=QiN h
 unfold visO at h
 unfold stopV
 rw [ho,if_pos h0]
 split at h
 ·rename_i q hq
  rw [hq]
  simp only
  rcases List.mem_append.1 h with h|h
  ·split at h
   ·rename_i hp
    rw [List.mem_singleton.1 h]
    exact ⟨_,if_pos hp⟩
   ·cases h
  ·split at h
   ·rename_i hp
    rw [List.mem_singleton.1 h]
    exact ⟨_,if_pos hp⟩
   ·cases h
 ·cases h
theorem QEm:QbZ l=some l:=by
 unfold QbZ
 rw [show slcI l 0 (lenI l)=some l by
  unfold slcI lenI
  rw [if_pos (by omega)]
  simp,Qak]
theorem QwW (hf:FewI x) (hk:isI64 kind) (h0:0≤kind) (hT:TyI x kind ty) (hm:m<2 ^ x.orders.length):∀ (n:Nat) {l:List Qaa} {s:Option Ky} {from_:Int} {L:List Qal},GoodL x l→(∀ v∈l,v∈allV x m)→6<l.length+n→Qzm s →
  L.length≤2 ^ (l.length+1)→(∀ a∈L,StI a)→CovS x kind m ty l from_ L →
  post (Qd2 n (seaP x kind m ((allV x m).length:Int) s) l from_ L) fun f=>∃ s',f=seaP x kind m ((allV x m).length:Int) s'∧Bst (candX x (bK kind) m l) s s'
 | 0,l,s,from_,L,hg,_,hn,_,_,_,_=>by have:=hg.six hf; omega
 | n+1,l,s,from_,L,hg,hall,hn,hs,hL,hSt,hcov=>by
  have hx:=hf.ok
  have hR:=bK_I hk
  have h6:=hg.six hf
  have h3:=hf.few
  have hm2:m<1024:=Nat.lt_of_lt_of_le hm (Nat.le_trans (Nat.pow_le_pow_right (n:=2) (by omega) h3) (by decide))
  have hlen:∀ t,ValR x (bK kind) m (l++t)→l.length+t.length=(allV x m).length:=fun t ht=>by
   have:=QEX (Qt8 hf hR ht) ht.2.2
   rw [List.length_append] at this
   exact this
  show post (Qgf (Qd2 n) (seaP x kind m ((allV x m).length:Int) s) l from_ L) _
  unfold Qgf
  rw [QFy,QCr,QD0,QFx]
  refine QaO (fun h=>?_) (fun h=>?_)
  ·have hll:l.length=(allV x m).length:=by simp only [eqI_t,lenI] at h; omega
   have hleaf:∀ t,ValR x (bK kind) m (l++t)→t=[]:=fun t ht=>List.eq_nil_of_length_eq_zero (by have:=hlen t ht; omega)
   suffices hh:post _ fun f=>∃ s',f=seaP x kind m ((allV x m).length:Int) s'∧Bst (fun k=>ValR x (bK kind) m l∧k=kyX x (bK kind) l) s s' from
    hh.mono fun f ⟨s',h1,h2⟩=>⟨s',h1,h2.congr (Qwd hleaf)⟩
   obtain ⟨hR2,h9⟩:=rW_I hR (show l.length≤8 by omega)
   obtain ⟨p1,_⟩:=Qv5 hx hR2 h9
   have hrw:Qad.mk kind 0 [] l=rW (bK kind) l:=rfl
   rw [hrw,p1,Qak]
   refine QaO (fun h1=>?_) (fun h1=>Qaw.2 ⟨s,rfl,Bst.none fun q hq=>?_⟩)
   ·rw [eqI_t] at h1
    have hv:ValR x (bK kind) m l:=⟨by omega,h1,QDu hx hm hg hall hll⟩
    have hS:∀ q,(ValR x (bK kind) m l∧q=kyX x (bK kind) l)↔q=kyX x (bK kind) l:=fun q=>⟨fun h=>h.2,fun h=>⟨hv,h⟩⟩
    have hnew:Qag.mk kind (m:Int) (prX x (rW (bK kind) l)).1 (rW (bK kind) l)=colP (bK kind) m (kyX x (bK kind) l):=rfl
    rw [hnew]
    unfold Qdu
    cases s with
    | none=>exact Qaw.2 ⟨some (kyX x (bK kind) l),rfl,Bst.one hS (.inl ⟨rfl,fun q h=>by cases h⟩)⟩
    | some q =>
     have hq:=hs q rfl
     show post (bnd (br true (bnd (Qh1 (colP (bK kind) m (kyX x (bK kind) l)) (colP (bK kind) m q)) fun r2=>_) _) _) _
     rw [QhF,Qyo (show l.length≤1048576 by omega) hq,Qak,brs,Qak]
     by_cases h2:decide (kLt (kyX x (bK kind) l) q)=true
     ·have h3:kLt (kyX x (bK kind) l) q:=of_decide_eq_true h2
      refine Qaw.2 ⟨some (kyX x (bK kind) l),?_,Bst.one hS (.inl ⟨rfl,fun q' e h4=>by cases e; exact Qxb (Qwp h3 h4)⟩)⟩
      rw [if_pos (show decide (kLt ((colP (bK kind) m (kyX x (bK kind) l)).price,(colP (bK kind) m (kyX x (bK kind) l)).route.visits) ((colP (bK kind) m q).price,(colP (bK kind) m q).route.visits))=true from h2)]
      rfl
     ·have h3:¬ kLt (kyX x (bK kind) l) q:=of_decide_eq_false (by simpa using h2)
      refine Qaw.2 ⟨some q,?_,Bst.one hS (.inr ⟨rfl,q,rfl,h3⟩)⟩
      rw [if_neg (show ¬ decide (kLt ((colP (bK kind) m (kyX x (bK kind) l)).price,(colP (bK kind) m (kyX x (bK kind) l)).route.visits) ((colP (bK kind) m q).price,(colP (bK kind) m q).route.visits))=true from h2)]
      rfl
   ·exact (eqI_f.1 h1) hq.1.2.1
  ·rw [QCB hx (by omega) hm2,Qak]
   have hnl:=Qus (x:=x) (m:=m) (l:=l) x.orders.length
   refine QkB ?_
   refine Qdd (fun q:Qaq×Int=>∃ (i:Nat) (s':Option Ky),q=(seaP x kind m ((allV x m).length:Int) s',(i:Int))∧i≤(nextS x m l x.orders.length).length∧Bst (fun k=>∃ v∈(nextS x m l x.orders.length).take i,candX x (bK kind) m (l++[v]) k) s s') (fun q=>(nextS x m l x.orders.length).length-q.2.toNat) ⟨0,s,rfl,Nat.zero_le _,Bst.none fun k hk=>by simp at hk⟩ (by simp; omega) ?_
   rintro _ ⟨i,s',rfl,hi,hb⟩
   show post (Qey (Qd2 n) l from_ L (nextS x m l x.orders.length) (seaP x kind m ((allV x m).length:Int) s') (i:Int)) _
   unfold Qey
   rcases Nat.lt_or_ge i (nextS x m l x.orders.length).length with hlt|hge
   ·have e:(nextS x m l x.orders.length)[i]?=some (nextS x m l x.orders.length)[i]:=List.getElem?_eq_getElem hlt
    have hmem:=List.getElem_mem hlt
    generalize (nextS x m l x.orders.length)[i]=v at e hmem
    have hg2:=QyV hg hmem
    obtain ⟨j,j1,j2,j3,j4,j5⟩:=Qur.1 hmem
    obtain ⟨st,hst⟩:=QCz (by omega) j4
    have hSok:=QBw hx hst
    have hSOK:SOK st:=⟨hSok.2.2.1,hSok.2.2.2.1,hSok.2.2.2.2.1,hSok.2.2.2.2.2.1,hSok.2.2.2.2.2.2⟩
    have h128:(2:Nat) ^ (l.length+1)≤2 ^ 7:=Nat.pow_le_pow_right (by omega) (by omega)
    rw [QbH e,QCr,Qt3,hst,Qak]
    show post (br (neI 0 0) _ _) _
    rw [Qa0 (by decide),incL e (by omega)]
    refine Qa1 (QBE hf hT hSOK QCr QD0 (by omega) hSt) fun r4 ⟨q1,q2,q3,q4⟩=>?_
    have hcov2:=QDn hf hk h0 hT hst hcov q4
    rw [q1]
    refine QaO (fun hne=>?_) (fun hem=>?_)
    ·rw [QEm,Qak,QeU (Qf9 (by simp; omega))]
     refine Qa1 (QwW hf hk h0 hT hm n hg2 (fun w hw=>?_) (by simp; omega) (hs.bst hb (QvQ (l:=l))) ?_ q3 hcov2) fun f ⟨s2,h1,h2⟩=>?_
     ·rcases List.mem_append.1 hw with hw|hw
      ·exact hall w hw
      ·rw [List.mem_singleton.1 hw]
       exact Qws.2 ⟨j,j1,j2,j4⟩
     ·rw [List.length_append,List.length_singleton,Nat.pow_succ]
      omega
     ·subst h1
      exact QdW ⟨⟨i+1,s2,rfl,hlt,hb.more (T:=fun v k=>candX x (bK kind) m (l++[v]) k) e h2⟩,by simp; omega⟩
    ·refine QdW ⟨⟨i+1,s',rfl,hlt,hb.more (T:=fun v k=>candX x (bK kind) m (l++[v]) k) e (Bst.none fun k hk2=>?_)⟩,by simp; omega⟩
     obtain ⟨t',h1,_⟩:=hk2
     refine QFd hf hk h0 hT hcov2 h1 (List.eq_nil_of_length_eq_zero ?_)
     simp only [gtI_f,lenI] at hem
     omega
   ·obtain rfl:i=(nextS x m l x.orders.length).length:=by omega
    rw [Qba]
    refine Qc1 (Qaw.2 ⟨s',rfl,hb.congr fun k=>?_⟩)
    rw [List.take_length]
    refine Qwe (fun t ht=>?_) k
    cases t with
    | nil =>
     have:=hlen [] ht
     simp only [eqI_f,lenI] at h
     simp only [List.length_nil] at this
     omega
    | cons v t'=>exact ⟨v,t',rfl,Qyj hf hR ht⟩
def QtL (x:Qac) (b:Qad) (m:Nat) (k:Ky):Prop:=if b.rests.length>b.visits.length then ValR x b m b.visits∧k=kyX x b b.visits else candX x b m b.visits k
open Classical in
noncomputable def optX (x:Qac) (b:Qad) (m:Nat):Option Ky:=if h:∃ s,Bst (QtL x b m) none s then h.choose else none
theorem QyX (h:Bst (QtL x b m) none s):s=optX x b m:=by
 have he:∃ s,Bst (QtL x b m) none s:=⟨s,h⟩
 unfold optX
 rw [dif_pos he]
 exact h.uniq he.choose_spec
def colX (b:Qad) (m:Nat) (s:Option Ky):Qag×Int:=match s with
 | none=>(zCol,24)
 | some k=>(colP b m k,0)
noncomputable def bestX (x:Qac) (b:Qad) (set_:Int):Qag×Int :=
 if (0≤b.type_∧b.type_<x.types.length)∧0<set_∧set_<((2 ^ x.orders.length:Nat):Int) then colX b set_.toNat (optX x b set_.toNat) else (zCol,2)
theorem shr0 (hx:Qdw x) (hm:0<m):eqI (shrK .i64 (m:Int) (lenI x.orders)) 0=decide (m<2 ^ x.orders.length):=by
 have h10:=hx.orders
 unfold lenI
 rw [shrN (by omega),Bool.eq_iff_iff,eqI_t,decide_eq_true_iff]
 have h2:=Nat.two_pow_pos x.orders.length
 constructor
 ·intro h
  have:m / 2 ^ x.orders.length=0:=by omega
  rcases (Nat.div_eq_zero_iff).1 this with h'|h'
  ·omega
  ·exact h'
 ·intro h
  rw [Nat.div_eq_of_lt h]
  rfl
theorem pow8 (hf:FewI x):2 ^ x.orders.length≤8:=Nat.le_trans (Nat.pow_le_pow_right (n:=2) (by omega) hf.few) (by decide)
theorem QwC (hf:FewI x) (hR:Qin b) (hg:GoodL x b.visits) {set_:Int}:Qib x b set_=some (bestX x b set_):=by
 have hx:=hf.ok
 have h8:=pow8 hf
 have h6:=hg.six hf
 unfold Qib bestX Qn9
 by_cases ht:0≤b.type_∧b.type_<x.types.length
 ·rw [Qa0 (by simp [lenI]; omega)]
  by_cases hp:0<set_
  ·obtain ⟨m,rfl⟩:∃ m:Nat,set_=m:=⟨set_.toNat,by omega⟩
   have h10:=hx.orders
   rw [Qbd (by simpa using hp),QeU (by unfold lenI; omega),Qak,shr0 hx (by omega)]
   by_cases hm:m<2 ^ x.orders.length
   ·rw [Qbd (decide_eq_true hm),if_pos ⟨ht,hp,by omega⟩,Int.toNat_natCast]
    have hm2:m<1024:=by omega
    obtain ⟨k,hk1,hk2,hk3,_⟩:=QA0 hx hg (show b.visits.length≤1048576 by omega)
    have hJ:∀ s,QfZ (finP x b m s)=some (colX b m s):=fun s=>by
     unfold QfZ
     cases s <;> rfl
    have hz:Qat.mk x b (m:Int) false (Qag.mk 0 0 0 (Qad.mk 0 0 [] []))=finP x b m none:=rfl
    rw [hk3,Qak,hz]
    have fin:∀ s,Bst (QtL x b m) none s→QfZ (finP x b m s)=some (colX b m (optX x b m)):=fun s hs=>by rw [hJ,← QyX hs]
    by_cases hsub:(k:Int)=0∨True
    ·by_cases hno:QrX .i64 (k:Int) (m:Int)=0
     ·rw [Qa0 (by simp; exact hno)]
      unfold QkC
      rw [Qak]
      by_cases hfin:b.rests.length>b.visits.length
      ·rw [Qbd (by simp [lenI]; omega)]
       obtain ⟨f,hfe,s',rfl,hb⟩:=Qz4 (m:=m) hf hR hg (s:=none) (fun k h=>by cases h)
       rw [hfe,Qak]
       exact fin s' (hb.congr fun k=>by unfold QtL; rw [if_pos hfin])
      ·rw [Qa0 (by simp [lenI]; omega)]
       obtain ⟨f,hfe,s',rfl,hb⟩:=Qzi hf hR hm2 QnP hg (s:=none) (by unfold QnP; omega) (fun k h=>by cases h)
       show bnd (Qdp QnP (finP x b m none) b.visits) _=_
       rw [hfe,Qak]
       exact fin s' (hb.congr fun k=>by unfold QtL; rw [if_neg hfin])
     ·rw [Qbd (by simp; exact hno)]
      refine fin none (Bst.none fun q hq=>?_)
      have hval:∃ t,ValR x b m (b.visits++t):=by
       unfold QtL at hq
       split at hq
       ·exact ⟨[],by rw [List.append_nil]; exact hq.1⟩
       ·obtain ⟨t,h,_⟩:=hq; exact ⟨t,h⟩
      obtain ⟨t,hv⟩:=hval
      refine hno ((QzZ (by omega) (by omega)).2 fun i hi=>?_)
      rw [hv.2.2,QoL]
      rw [hk2,QoL] at hi
      obtain ⟨v,h1,h2⟩:=hi
      exact ⟨v,List.mem_append_left _ h1,h2⟩
    ·exact absurd (.inr trivial) hsub
   ·rw [Qa0 (decide_eq_false hm),if_neg (by omega)]
    rfl
  ·rw [Qa0 (by simpa using hp),Qak,QgJ,if_neg (by omega)]
   rfl
 ·rw [Qbd (by simp [lenI]; omega),if_neg (by omega)]
  rfl
end
end Go.Proofs.YtoedkepcaigkeaaGreatDoor
namespace Go.Proofs.YtoedkepcaigkeaaGreatDoor
set_option linter.unusedSimpArgs false
set_option linter.unusedVariables false
set_option linter.unusedSectionVars false
section
variable {x : Qac} {b r : Qad} {l t : List Qaa} {m n : Nat} {v : Qaa} {s : Option Ky} {kind from_ total : Int} {ty : Qai} {st : Qau}
theorem QCw {α:Type} {f:α→Int} {a:α} {l:List α}:sumF f (a :: l)=f a+sumF f l:=by simp [sumF]
theorem QBZ {M:List Int} {f:Int→Int}:∀ s:Int,foldE (fun s a=>(.inl (s+f a):Int⊕Int)) id s M=s+sumF f M:=by
 induction M with
 | nil=>intro s; rw [Qyh,foldE]; simp
 | cons a r ih=>intro s; rw [QyE rfl,ih,QCw]; omega
theorem Qzf (hm:m<1024) (hb:m<2 ^ x.orders.length):∀ k,sumF (fun a=>((visO x a).length:Int)) (memN (lmV m) k)=((restS x m [] (min k x.orders.length)).length:Int)
 | 0=>by simp [memN,sumF,restS]
 | k+1=>by
  have ih:=Qzf hm hb k
  unfold memN
  rw [QtM,ih,← Qxc hm]
  rcases Nat.lt_or_ge k x.orders.length with h|h
  ·rw [Nat.min_eq_left (by omega),Nat.min_eq_left (by omega)]
   show _=((restS x m [] k++_).length:Int)
   rw [List.length_append]
   cases m.testBit k with
   | false=>simp [sumF]
   | true =>
    have hfl:(visO x (k:Int)).filter (fun v=>!([]:List Qaa).any (isV v))=visO x (k:Int):=List.filter_eq_self.2 fun _ _=>rfl
    rw [if_pos rfl,if_pos rfl,QtN,hfl]
    simp
  ·have hz:m.testBit k=false:=Nat.testBit_lt_two_pow (Nat.lt_of_lt_of_le hb (Nat.pow_le_pow_right (by omega) h))
   rw [Nat.min_eq_right (by omega),Nat.min_eq_right (by omega),hz]
   simp [sumF]
theorem tyI (hf:FewI x) (h:0≤kind∧kind<x.types.length):∃ ty,TyI x kind ty:=by
 have hT:=hf.ok.typ _ (List.getElem_mem (show kind.toNat<x.types.length by omega))
 exact ⟨_,QuO h.1 h.2,hT.drive,hT.rest,hT.opn.1,by have:=hT.opn; have:=hT.close; omega⟩
theorem Qwm:GoodL x []:=⟨by simp,fun v h=>by cases h⟩
theorem QwO:QtL x (bK kind) m=candX x (bK kind) m []:=by
 funext k
 unfold QtL
 rw [if_neg (by show ¬ (0>0); omega)]
 rfl
theorem QuB (hf:FewI x) (hk:isI64 kind) {set_:Int}:QnJ x kind set_=some (bestX x (bK kind) set_):=by
 have hx:=hf.ok
 have h8:=pow8 hf
 have h10:=hx.orders
 unfold QnJ bestX
 by_cases ht:0≤kind∧kind<x.types.length
 ·have ht':0≤(bK kind).type_∧(bK kind).type_<x.types.length:=ht
  by_cases hp:0<set_
  ·obtain ⟨m,rfl⟩:∃ m:Nat,set_=m:=⟨set_.toNat,by omega⟩
   rw [Qa0 (by simp [lenI]; omega),QeU (by unfold lenI; omega)]
   have hne:neI (shrK .i64 (m:Int) (lenI x.orders)) 0=!decide (m<2 ^ x.orders.length):=by rw [← shr0 hx (by omega)]; rfl
   rw [hne]
   by_cases hm:m<2 ^ x.orders.length
   ·rw [Qa0 (by simp [hm]),if_pos ⟨ht',hp,by omega⟩,Int.toNat_natCast]
    have hm2:m<1024:=by omega
    obtain ⟨e,he,hall⟩:=QxI hx hm
    rw [he,Qak]
    by_cases he0:e=0
    ·rw [Qa0 (by simpa using he0),QsB (QAL hm2),Qak]
     have hlen:=Qtx (l:=lmV m) 63
     have hsum:=Qzf (x:=x) hm2 hm 63
     rw [Nat.min_eq_right (by omega)] at hsum
     have hmem:∀ i∈memN (lmV m) 63,0≤i∧i<x.orders.length:=fun i hi=>by
      obtain ⟨k,rfl,_,hk⟩:=QuX hi
      rw [← Qxc hm2] at hk
      refine ⟨by omega,?_⟩
      have:k<x.orders.length:=Nat.lt_of_not_le fun hge=>by
       have:m.testBit k=false:=Nat.testBit_lt_two_pow (Nat.lt_of_lt_of_le hm (Nat.pow_le_pow_right (by omega) hge))
       rw [this] at hk; cases hk
      omega
     generalize memN (lmV m) 63=M at *
     have hloop:loopF (fun s:Int×Int=>Qf2 x kind (m:Int) M s.1 s.2) (0,0)=some ((allV x m).length:Int):=by
      rw [Qxg (B:=fun s:Int×Int=>Qf2 x kind (m:Int) M s.1 s.2) (l:=M) (by omega) (fun s a=>(.inl (s+((visO x a).length:Int)):Int⊕Int)) id (fun i s=>0≤s∧s≤2*i) (fun s i a h hi=>⟨by
       obtain ⟨q0,q1⟩:=hmem a (List.mem_of_getElem? h)
       have hl:=(List.getElem?_eq_some_iff.1 h).1
       have hv:=QnB (x:=x) (o:=a)
       show Qf2 x kind (m:Int) M s i=_
       unfold Qf2
       rw [QbH h,QsC hx q0 q1,Qak,incL h (by omega)]
       unfold lenI
       rw [addI (by omega) (by omega)],fun s' h'=>by
       cases h'
       have hv:=QnB (x:=x) (o:=a)
       omega⟩) (fun s _=>by
       show Qf2 x kind (m:Int) M s M.length=_
       unfold Qf2
       rw [Qba]; rfl) ⟨by omega,by omega⟩,QBZ,hsum]
      unfold allV
      simp
     rw [Qc4 hloop]
     obtain ⟨ty,hT⟩:=tyI hf ht
     have hrest:=hT.rest
     have hopn:=hT.opn
     rw [hT.at_,Qak]
     have hz:Qaq.mk x kind (m:Int) ((allV x m).length:Int) (Qag.mk 0 0 0 (Qad.mk 0 0 [] [])) false=seaP x kind m ((allV x m).length:Int) none:=rfl
     rw [hz]
     have hnil:Qep (seaP x kind m ((allV x m).length:Int) none) ty.open_ 0=some (keepS (keepS [] (Qal.mk ty.open_ 0)) (Qal.mk (ty.open_+ty.rest_) 0),seaP x kind m ((allV x m).length:Int) none) :=
      Qva (L:=[]) hT QCr QD0 (Nat.zero_le _) (d:=ty.open_) (e:=0) (by omega)
     rw [hnil,Qak]
     have k1:=QsM (L:=[]) (a:=Qal.mk ty.open_ 0)
     have k2:=QsM (L:=keepS [] (Qal.mk ty.open_ 0)) (a:=Qal.mk (ty.open_+ty.rest_) 0)
     obtain ⟨f,hfe,s',rfl,hb⟩:=QwW hf hk ht.1 hT hm QnP (l:=[]) (s:=none) (from_:=ty.from_) (L:=keepS (keepS [] (Qal.mk ty.open_ 0)) (Qal.mk (ty.open_+ty.rest_) 0)) Qwm (fun v h=>by cases h) (by unfold QnP; omega) (fun k h=>by cases h)
      (by simp only [List.length_nil] at k1 ⊢; omega) (fun a ha=>by
       rw [QkA,QkA] at ha
       rcases ha with (ha|rfl)|rfl
       ·cases ha
       ·exact ⟨by simp only; omega,by simp only; omega,by simp only; omega,by simp only; omega⟩
       ·exact ⟨by simp only; omega,by simp only; omega,by simp only; omega,by simp only; omega⟩)
      (fun w hw _=>⟨rfl,fun q hq hok c=>by
       have hq0:q=[]:=List.eq_nil_of_length_eq_zero hq
       subst hq0
       have hlb:lbB x.net ty (QaB x (rW (bK kind) w)) 0 []=begS ty 0:=rfl
       rw [hlb,QkA,QkA]
       unfold begS
       have hmx:max ty.open_ 0=ty.open_:=by omega
       rw [hmx]
       cases c with
       | false =>
        refine .inl (.inr ?_)
        unfold depS sinS
        simp
       | true =>
        refine .inr ?_
        unfold depS sinS
        simp⟩)
     show bnd (Qd2 QnP (seaP x kind m ((allV x m).length:Int) none) [] ty.from_ _) _=_
     rw [hfe,Qak,← QyX (s:=s') (by rw [QwO]; exact hb)]
     cases s' <;> rfl
    ·rw [Qbd (by simpa using he0)]
     have hno:optX x (bK kind) m=none:=by
      refine (QyX (s:=none) (Bst.none fun q hq=>?_)).symm
      rw [QwO] at hq
      obtain ⟨t,hv,_⟩:=hq
      exact he0 (hall _ (Qt8 hf (bK_I hk) hv) hv.2.2)
     rw [hno]
     rfl
   ·rw [Qbd (by simp; omega),if_neg (by omega)]
    rfl
  ·rw [Qbd (by simp [lenI]; omega),if_neg (by omega)]
   rfl
 ·have ht':¬ (0≤(bK kind).type_∧(bK kind).type_<x.types.length):=ht
  rw [Qbd (by simp [lenI]; omega),if_neg (fun h=>ht' h.1)]
  rfl
end
end Go.Proofs.YtoedkepcaigkeaaGreatDoor
namespace Go.Proofs.YtoedkepcaigkeaaGreatDoor
theorem Qw4:QfL=some true:=by kernel_rfl
theorem QDg:Qfp=some true:=by kernel_rfl
end Go.Proofs.YtoedkepcaigkeaaGreatDoor
namespace Go.Proofs.YtoedkepcaigkeaaGreatDoor
set_option linter.unusedSimpArgs false
set_option linter.unusedVariables false
set_option linter.unusedSectionVars false
section
variable {x : Qac} {b r : Qad} {l t : List Qaa} {m n : Nat} {v : Qaa} {s : Option Ky} {kind set_ : Int} {a c : Qag}
theorem QEW (hI:InstI x):post (QhH x) fun ok=>ok=true→FewI x:=by
 unfold QhH
 refine QaO (fun h3=>Qa1 (QuE hI) fun l hl=>Qaw.2 fun h=>?_) (fun _=>Qaw.2 fun h=>by cases h)
 simp only [eqI_t,leI_t,lenI] at h h3
 exact ⟨hl (List.length_eq_zero_iff.1 (by omega)),by omega⟩
theorem few22 (hI:InstI x):post (Qjs x) fun ok=>ok=true→FewI x∧x.types.length≤3:=by
 unfold Qjs
 refine QaO (fun h3=>Qa1 (QuE hI) fun l hl=>Qaw.2 fun h=>?_) (fun _=>Qaw.2 fun h=>by cases h)
 simp only [Bool.and_eq_true,eqI_t,leI_t,lenI] at h h3
 exact ⟨⟨hl (List.length_eq_zero_iff.1 (by omega)),by omega⟩,by omega⟩
theorem QCY (hf:FewI x) (hR:Qin b) (hg:GoodL x b.visits) (hm:m<1024):Bst (QtL x b m) none (optX x b m):=by
 have h6:=hg.six hf
 obtain ⟨f,hfe,s',rfl,hb⟩:=QvW hf hR hm QnP hg (s:=none) (by unfold QnP; omega) (fun k h=>by cases h)
 rw [← QyX (s:=s') hb]
 exact hb
theorem Qzb {k:Ky} (h:QtL x b m k):∃ t,k.2=b.visits++t∧(b.rests.length>b.visits.length→t=[])∧ValR x b m k.2∧k=kyX x b k.2:=by
 unfold QtL at h
 split at h
 ·rename_i hgt
  obtain ⟨h1,h2⟩:=h
  have e:k.2=b.visits:=by rw [h2]; rfl
  exact ⟨[],by rw [e]; simp,fun _=>rfl,by rw [e]; exact h1,by rw [e]; exact h2⟩
 ·rename_i hle
  obtain ⟨t,h1,h2⟩:=h
  have e:k.2=b.visits++t:=by rw [h2]; rfl
  exact ⟨t,e,fun h=>absurd h hle,by rw [e]; exact h1,by rw [e]; exact h2⟩
structure ColI (c:Qag):Prop where
 visits:c.route.visits.length≤1048576
 rests:c.route.rests.length≤1048576
theorem QDi (hf:FewI x) (hR:Qin b) (hg:GoodL x b.visits):ColI (bestX x b set_).1:=by
 have h8:=pow8 hf
 unfold bestX
 split
 ·rename_i hc
  have hb:=QCY (m:=set_.toNat) hf hR hg (by omega)
  cases ho:optX x b set_.toNat with
  | none=>exact ⟨Nat.zero_le _,Nat.zero_le _⟩
  | some k =>
   rw [ho] at hb
   obtain ⟨t,_,_,h3,_⟩:=Qzb ((hb.1 k rfl).resolve_left fun h=>by cases h)
   exact ⟨h3.1,hR.rests⟩
 ·exact ⟨Nat.zero_le _,Nat.zero_le _⟩
theorem QFw (h:ColI c):QiF c c=some true:=by
 unfold QiF
 rw [Qbd (by simp),QzF (by simp) (fun r hr=>by rw [List.mem_singleton.1 hr]; exact ⟨h.visits,h.rests⟩),Qak]
theorem Qux (x:Qac) (hI:InstI x) (kind:Int) (hk:isI64 kind) (set_:Int):Qgc x kind set_=some true:=by
 apply post.eq
 unfold Qgc
 rw [Qw4]
 refine Qa1 (QEW hI) fun ok hok=>QaO (fun h=>?_) (fun _=>Qaw.2 rfl)
 have hf:=hok h
 rw [show Qad.mk kind 0 [] []=bK kind from rfl,QwC hf (bK_I hk) Qwm,Qak,QuB hf hk,Qak,Qbd (by simp),QFw (QDi hf (bK_I hk) Qwm),Qak,QhF,Qak]
 exact Qaw.2 rfl
end
end Go.Proofs.YtoedkepcaigkeaaGreatDoor
namespace Go.Proofs.YtoedkepcaigkeaaGreatDoor
set_option linter.unusedSimpArgs false
set_option linter.unusedVariables false
set_option linter.unusedSectionVars false
section
variable {x : Qac} {b r : Qad} {l t : List Qaa} {m n : Nat} {v : Qaa} {s : Option Ky} {kind set_ : Int} {a c : Qag}
theorem QDh (hm0:0<m) (hm:m<2 ^ x.orders.length) (ht:0≤b.type_∧b.type_<x.types.length):bestX x b (m:Int)=colX b m (optX x b m):=by
 unfold bestX
 rw [if_pos ⟨ht,by omega,by omega⟩,Int.toNat_natCast]
theorem QCZ (hf:FewI x) (hR:Qin b) (h:ValR x b m l):Qem (rW b l)=some ((m:Int),0)∧Qb8 (rW b l)=some ((m:Int),0)∧Qfj x (rW b l)=some (prX x (rW b l))∧Qdj x (rW b l)=some (prX x (rW b l))∧Qfu x (rW b l)=some 0:=by
 have hq:=Qt8 hf hR h
 obtain ⟨k,hk1,hk2,hk3,hk4⟩:=QA0 (r:=rW b l) hf.ok hq.good h.1
 have hkm:k=m:=Qwy (l:=l) hk2 h.2.2
 have h6:=hq.good.six hf
 obtain ⟨hR2,h9⟩:=rW_I hR (show l.length≤8 by omega)
 obtain ⟨p1,p2⟩:=Qv5 hf.ok hR2 h9
 rw [hkm] at hk3 hk4
 exact ⟨hk3,hk4,p1,p2,by rw [QxG hf.ok hR2 h9,pr_ev hf.ok hR2 h9 h.2.1]⟩
theorem QES:rW r r.visits=r:=rfl
theorem QD8 (hf:FewI x) (hR:Qin r) (h:(prX x r).2=0):∃ m:Nat,0<m∧m<2 ^ x.orders.length∧(0≤r.type_∧r.type_<x.types.length)∧ValR x r m r.visits:=by
 have hq:=QEQ (b:=r) (l:=r.visits) hf hR hR.visits h
 obtain ⟨m,h1,h2,h3,h4⟩:=QA0 hf.ok hq.good hR.visits
 have h6:=hq.good.six hf
 obtain ⟨_,_,_,_,e5⟩:=QvV hf.ok hR (show Qsx r by unfold Qsx; omega)
 obtain ⟨_,q,hE⟩:=e5 (pr_ev hf.ok hR (show Qsx r by unfold Qsx; omega) h)
 refine ⟨m,Nat.pos_of_ne_zero fun h0=>?_,Nat.lt_pow_two_of_testBit m fun i hi=>?_,hE.type_,hR.visits,h,h2⟩
 ·cases hv:r.visits with
  | nil=>exact hq.ne (by rw [hv]; rfl)
  | cons v t =>
   have hin:=QmZ hq.inn (show v∈r.visits by rw [hv]; simp)
   have:=h2 v.order.toNat
   rw [h0,Nat.zero_testBit,Int.toNat_of_nonneg hin.1] at this
   have h5:hasO r.visits v.order=true:=QoL.2 ⟨v,by rw [hv]; simp,rfl⟩
   rw [h5] at this
   cases this
 ·rw [h2,Bool.eq_false_iff]
  intro hh
  obtain ⟨v,hv,he⟩:=QoL.1 hh
  have:=QmZ hq.inn hv
  omega
theorem pr_ok (hx:Qdw x) (hR:Qin r) (h9:Qsx r) (h:(evX x r).2.2=0):(prX x r).2=0:=by
 obtain ⟨e1,_,_,_,e5⟩:=QvV hx hR h9
 obtain ⟨es,q,hE⟩:=e5 h
 obtain ⟨p1,_⟩:=Qv5 hx hR h9
 obtain ⟨c,m,o,w,hs,g1,g2,g3,g4,g5,g6,g7,g8,g9,g10⟩:=hE.score hx
 unfold Qfj at p1
 rw [e1,Qak,Qa0 (by simpa using h),es,hs,QBO ⟨g2,g3⟩ ⟨g4,by omega⟩ ⟨g6,by omega⟩ ⟨g8,g9⟩] at p1
 rw [← Option.some.inj p1]
theorem Qtl (x:Qac) (hI:InstI x) (r:Qad) (hR:Qin r):Qfx x r=some true:=by
 apply post.eq
 unfold Qfx
 rw [QDg]
 refine Qa1 (few22 hI) fun ok hok=>QaO (fun _=>Qaw.2 rfl) (fun h=>?_)
 simp only [orF,Bool.not_eq_false',gtI_f,neI_f,lenI] at h
 obtain ⟨⟨⟨h1,h2⟩,h3⟩,h4⟩:=h
 obtain ⟨hf,_⟩:=hok h1
 have hx:=hf.ok
 have h9:Qsx r:=by unfold Qsx; omega
 rw [QxG hx hR h9,Qak]
 refine QaO (fun _=>Qaw.2 rfl) (fun h5=>?_)
 rw [neI_f] at h5
 have hp:=pr_ok hx hR h9 h5
 obtain ⟨m,hm0,hm,ht,hval⟩:=QD8 hf hR hp
 obtain ⟨o1,o2,o3,o4,o5⟩:=QCZ hf hR hval
 rw [QES] at o1 o2 o3 o4 o5
 have hrb:∀ l,rW r l=rW (bK r.type_) l:=fun l=>by
  have hr0:r.rests=[]:=List.eq_nil_of_length_eq_zero (by omega)
  unfold rW bK
  rw [h3,hr0]
 have hvalb:ValR x (bK r.type_) m r.visits:=by
  unfold ValR at hval ⊢
  rw [← hrb]; exact hval
 have hK:=bK_I hR.type_
 have h8:=pow8 hf
 rw [o2,Qak,o4,Qak,QuB hf hR.type_,Qak,QDh (b:=bK r.type_) hm0 hm ht]
 have hb:=QCY (b:=bK r.type_) (m:=m) hf hK Qwm (by omega)
 have hst:QtL x (bK r.type_) m (kyX x (bK r.type_) r.visits):=by
  rw [QwO]
  exact ⟨r.visits,hvalb,rfl⟩
 obtain ⟨k,hk,hlt⟩:=hb.2 _ (.inr hst)
 obtain ⟨t,e1,_,e3,e4⟩:=Qzb ((hb.1 k hk).resolve_left fun h=>by cases h)
 obtain ⟨q1,q2,q3,q4,q5⟩:=QCZ hf hK e3
 have hpr:(prX x (rW (bK r.type_) k.2)).1=k.1:=by rw [e4]; rfl
 have hky:kyX x (bK r.type_) r.visits=((prX x r).1,r.visits):=by
  unfold kyX
  rw [← hrb]
  rfl
 rw [hky] at hlt
 have hle:k.1≤(prX x r).1:=Int.not_lt.1 fun hl=>hlt (.inl hl)
 have hc:(colX (bK r.type_) m (some k)).1.route=rW (bK r.type_) k.2:=rfl
 have hcol:colX (bK r.type_) m (some k)=(colP (bK r.type_) m k,0):=rfl
 have hroute:(colP (bK r.type_) m k,(0:Int)).1.route=rW (bK r.type_) k.2:=rfl
 rw [hk,hcol,hroute,q2,Qak,q4,Qak,q5,Qak]
 rw [Qa0 (by
  simp only [orF,neI_f,gtI_f,lenI]
  refine ⟨⟨⟨⟨⟨⟨⟨⟨?_,?_⟩,?_⟩,?_⟩,?_⟩,?_⟩,?_⟩,?_⟩,?_⟩ <;> first|exact hp|exact hle|trivial|rfl|exact Int.le_refl 0)]
 rw [Qbd (by simp),Qbd (by
  simp only [Bool.and_eq_true,eqI_t]
  exact ⟨⟨trivial,e3.2.1⟩,hpr⟩)]
 refine QaO (fun _=>Qaw.2 rfl) (fun hnl=>?_)
 have hv:=hR.visits
 have hkl:=e3.1
 rw [show (rW (bK r.type_) k.2).visits=k.2 from rfl,QBL hv hkl,Qak]
 rw [Qa0 (by
  rw [Bool.eq_false_iff]
  intro hl
  refine hlt (.inr ⟨?_,hl⟩)
  have hnl':(prX x r).1≤k.1:=ltI_f.1 hnl
  show (prX x r).1=k.1
  omega)]
 exact Qaw.2 rfl
end
end Go.Proofs.YtoedkepcaigkeaaGreatDoor
namespace Go.Proofs.YtoedkepcaigkeaaGreatDoor
set_option linter.unusedSimpArgs false
set_option linter.unusedVariables false
set_option linter.unusedSectionVars false
section
variable {x : Qac} {b r : Qad} {l t : List Qaa} {m n : Nat} {v : Qaa} {s : Option Ky} {kind set_ : Int} {a c : Qag}
structure BegsI (x:Qac) (l:List Qad):Prop where
 few:l.length≤4
 each:∀ b∈l,Qin b∧GoodL x b.visits
end
end Go.Proofs.YtoedkepcaigkeaaGreatDoor
namespace Go.Proofs.YtoedkepcaigkeaaGreatDoor
set_option linter.unusedSimpArgs false
set_option linter.unusedVariables false
set_option linter.unusedSectionVars false
section
variable {x : Qac} {b r : Qad} {l t : List Qad} {m n : Nat} {v : Qaa} {s : Option Ky} {kind set_ : Int} {a c : List Qad}
theorem BegsI.good (h:BegsI x l):∀ b∈l,GoodL x b.visits:=fun b hb=>(h.each b hb).2
theorem BegsI.vis (h:BegsI x l):∀ b∈l,b.visits.length≤1048576:=fun b hb=>(h.each b hb).1.visits
end
end Go.Proofs.YtoedkepcaigkeaaGreatDoor
