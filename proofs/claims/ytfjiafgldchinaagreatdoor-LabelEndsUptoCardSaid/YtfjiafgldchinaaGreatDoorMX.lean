/- Part MX of the proof: texts Lua Lub Luc Lud Lwa Lwb Lwc Lwd Lwe Lwf Lwg Lwh. -/
import Derived.Test.YtfjiafgldchinaaGreatDoorMR
namespace Go.Proofs.YtfjiafgldchinaaGreatDoor
set_option linter.unusedSimpArgs false
set_option linter.unusedVariables false
set_option linter.unusedSectionVars false
def ltV (a b:Qaa):Bool:=ltI a.order b.order||(eqI a.order b.order&&(!a.drop&&b.drop))
theorem ltV_t {a b:Qaa}:ltV a b=true↔a.order<b.order∨(a.order=b.order∧a.drop=false∧b.drop=true):=by
 unfold ltV
 simp
theorem Qzw {a:Qaa}:ltV a a=false:=by
 rw [Bool.eq_false_iff]
 intro h
 rw [ltV_t] at h
 rcases h with h|⟨_,h1,h2⟩
 ·omega
 ·rw [h1] at h2; cases h2
theorem QyR {a b c:Qaa} (h1:ltV a b=true) (h2:ltV b c=true):ltV a c=true:=by
 rw [ltV_t] at *
 rcases h1 with h1|⟨h1,h3,h4⟩ <;> rcases h2 with h2|⟨h2,h5,h6⟩
 ·exact .inl (by omega)
 ·exact .inl (by omega)
 ·exact .inl (by omega)
 ·rw [h4] at h5; cases h5
theorem QBj (a b:Qaa):a=b∨ltV a b=true∨ltV b a=true:=by
 rcases Int.lt_trichotomy a.order b.order with h|h|h
 ·exact .inr (.inl (ltV_t.2 (.inl h)))
 ·cases ha:a.drop <;> cases hb:b.drop
  ·exact .inl (by cases a; cases b; simp_all)
  ·exact .inr (.inl (ltV_t.2 (.inr ⟨h,ha,hb⟩)))
  ·exact .inr (.inr (ltV_t.2 (.inr ⟨h.symm,hb,ha⟩)))
  ·exact .inl (by cases a; cases b; simp_all)
 ·exact .inr (.inr (ltV_t.2 (.inl h)))
def lessV:List Qaa→List Qaa→Bool
 | [],[]=>false
 | [],_ :: _=>true
 | _ :: _,[]=>false
 | a :: l,b :: m=>ltV a b||(decide (a=b)&&lessV l m)
theorem QvE:∀ {l:List Qaa},lessV l l=false
 | []=>rfl
 | a :: l=>by unfold lessV; rw [Qzw,QvE]; simp
theorem Qtd:∀ {a b c:List Qaa},lessV a b=true→lessV b c=true→lessV a c=true
 | [],[],_,h,_=>by cases h
 | _ :: _,[],_,h,_=>by cases h
 | [],_ :: _,[],_,h=>by cases h
 | [],_ :: _,_ :: _,_,_=>rfl
 | _ :: _,_ :: _,[],_,h=>by cases h
 | x :: a,y :: b,z :: c,h1,h2=>by
  unfold lessV at *
  simp only [Bool.or_eq_true,Bool.and_eq_true,decide_eq_true_iff] at *
  rcases h1 with h1|⟨rfl,h1⟩
  ·rcases h2 with h2|⟨rfl,h2⟩
   ·exact .inl (QyR h1 h2)
   ·exact .inl h1
  ·rcases h2 with h2|⟨rfl,h2⟩
   ·exact .inl h2
   ·exact .inr ⟨rfl,Qtd h1 h2⟩
theorem QvF:∀ (a b:List Qaa),a=b∨lessV a b=true∨lessV b a=true
 | [],[]=>.inl rfl
 | [],_ :: _=>.inr (.inl rfl)
 | _ :: _,[]=>.inr (.inr rfl)
 | x :: a,y :: b=>by
  unfold lessV
  simp only [Bool.or_eq_true,Bool.and_eq_true,decide_eq_true_iff]
  rcases QBj x y with rfl|h|h
  ·rcases QvF a b with rfl|h|h
   ·exact .inl rfl
   ·exact .inr (.inl (.inr ⟨rfl,h⟩))
   ·exact .inr (.inr (.inr ⟨rfl,h⟩))
  ·exact .inr (.inl (.inl h))
  ·exact .inr (.inr (.inl h))
abbrev Ky:=Int×List Qaa
def kLt (k q:Ky):Prop:=k.1<q.1∨(k.1=q.1∧lessV k.2 q.2=true)
theorem Qxh {k:Ky}:¬ kLt k k:=by
 rintro (h|⟨_,h⟩)
 ·omega
 ·rw [QvE] at h; cases h
theorem QyL {a b c:Ky} (h1:kLt a b) (h2:kLt b c):kLt a c:=by
 rcases h1 with h1|⟨h1,h3⟩ <;> rcases h2 with h2|⟨h2,h4⟩
 ·exact .inl (by omega)
 ·exact .inl (by omega)
 ·exact .inl (by omega)
 ·exact .inr ⟨by omega,Qtd h3 h4⟩
theorem QBi (a b:Ky):a=b∨kLt a b∨kLt b a:=by
 rcases Int.lt_trichotomy a.1 b.1 with h|h|h
 ·exact .inr (.inl (.inl h))
 ·rcases QvF a.2 b.2 with h'|h'|h'
  ·exact .inl (Prod.ext h h')
  ·exact .inr (.inl (.inr ⟨h,h'⟩))
  ·exact .inr (.inr (.inr ⟨h.symm,h'⟩))
 ·exact .inr (.inr (.inl h))
theorem QyK {a b c:Ky} (h1:¬ kLt a b) (h2:¬ kLt b c):¬ kLt a c:=fun h=>by
 rcases QBi b c with rfl|h3|h3
 ·exact h1 h
 ·exact h2 h3
 ·exact h1 (QyL h h3)
def Bst (S:Ky→Prop) (s t:Option Ky):Prop:=(∀ k,t=some k→s=some k∨S k)∧(∀ k,(s=some k∨S k)→∃ k',t=some k'∧¬ kLt k k')
theorem Bst.none {S:Ky→Prop} {s:Option Ky} (h:∀ k,¬ S k):Bst S s s :=
 ⟨fun k e=>.inl e,fun k e=>e.elim (fun e=>⟨k,e,Qxh⟩) fun e=>absurd e (h k)⟩
theorem Bst.comp {S T:Ky→Prop} {s t u:Option Ky} (h1:Bst S s t) (h2:Bst T t u):Bst (fun k=>S k∨T k) s u:=by
 refine ⟨fun k e=>?_,fun k e=>?_⟩
 ·rcases h2.1 k e with e|e
  ·rcases h1.1 k e with e|e
   ·exact .inl e
   ·exact .inr (.inl e)
  ·exact .inr (.inr e)
 ·have go:(s=some k∨S k)→∃ k',u=some k'∧¬ kLt k k':=fun e=>by
   obtain ⟨a,ha,hl⟩:=h1.2 k e
   obtain ⟨b,hb,hm⟩:=h2.2 a (.inl ha)
   exact ⟨b,hb,QyK hl hm⟩
  rcases e with e|e|e
  ·exact go (.inl e)
  ·exact go (.inr e)
  ·exact h2.2 k (.inr e)
theorem Bst.congr {S T:Ky→Prop} {s t:Option Ky} (h:Bst S s t) (he:∀ k,S k↔T k):Bst T s t :=
 ⟨fun k e=>(h.1 k e).imp id (he k).1,fun k e=>h.2 k (e.imp id (he k).2)⟩
theorem Bst.one {S:Ky→Prop} {k:Ky} (hS:∀ q,S q↔q=k) {s t:Option Ky} (h:(t=some k∧∀ q,s=some q→¬ kLt q k)∨(t=s∧∃ q,s=some q∧¬ kLt k q)):Bst S s t:=by
 rcases h with ⟨rfl,h⟩|⟨rfl,q,rfl,h⟩
 ·refine ⟨fun q e=>.inr ((hS q).2 (Option.some.inj e).symm),fun q e=>⟨k,rfl,?_⟩⟩
  rcases e with e|e
  ·exact h q e
  ·rw [(hS q).1 e]; exact Qxh
 ·refine ⟨fun q e=>.inl e,fun q' e=>?_⟩
  rcases e with e|e
  ·exact ⟨q',e,Qxh⟩
  ·rw [(hS q').1 e]; exact ⟨q,rfl,h⟩
theorem Bst.nil {S:Ky→Prop} {s:Option Ky} (h:∀ k,¬ S k):Bst S s s:=Bst.none h
theorem Bst.more {α:Type} {T:α→Ky→Prop} {l:List α} {i:Nat} {a:α} {s t u:Option Ky} (h:Bst (fun k=>∃ b∈l.take i,T b k) s t) (ha:l[i]?=some a) (h2:Bst (T a) t u):Bst (fun k=>∃ b∈l.take (i+1),T b k) s u:=by
 refine (h.comp h2).congr fun k=>?_
 rw [take_one ha]
 constructor
 ·rintro (⟨b,hb,h⟩|h)
  ·exact ⟨b,List.mem_append_left _ hb,h⟩
  ·exact ⟨a,by simp,h⟩
 ·rintro ⟨b,hb,h⟩
  rcases List.mem_append.1 hb with hb|hb
  ·exact .inl ⟨b,hb,h⟩
  ·rw [List.mem_singleton.1 hb] at h; exact .inr h
end Go.Proofs.YtfjiafgldchinaaGreatDoor
namespace Go.Proofs.YtfjiafgldchinaaGreatDoor
set_option linter.unusedSimpArgs false
set_option linter.unusedVariables false
set_option linter.unusedSectionVars false
def headV (v:Qaa):List Qaa→List Qaa
 | []=>[]
 | w :: r=>if w=v then [] else w :: headV v r
def Qnf (x:Qac) (l:List Qaa) (o:Int):Bool:=x.before.all fun p=>!eqI p.x1 o||(visO x p.x0).all fun w=>l.any (isV w)
def QjF (x:Qac) (l:List Qaa) (v:Qaa):Bool:=!l.any (isV v)&&((headV v (visO x v.order)).all (fun w=>l.any (isV w))&&Qnf x l v.order)
def offN (x:Qac) (i:Nat):Bool:=match x.orders[i]? with
 | some o=>o.off
 | none=>true
def nextS (x:Qac) (m:Nat) (l:List Qaa):Nat→List Qaa
 | 0=>[]
 | n+1=>nextS x m l n++if (m.testBit n&&!offN x n)=true then (visO x (n:Int)).filter (QjF x l) else []
def restS (x:Qac) (m:Nat) (l:List Qaa):Nat→List Qaa
 | 0=>[]
 | n+1=>restS x m l n++if m.testBit n=true then (visO x (n:Int)).filter (fun v=>!l.any (isV v)) else []
structure GoodL (x:Qac) (l:List Qaa):Prop where
 nodup:l.Nodup
 inn:∀ v∈l,0≤v.order∧v.order<x.orders.length
section
variable {x : Qac} {l t : List Qaa} {m : Nat} {v w : Qaa}
theorem QcP {o:Int} (h:v∈visO x o):v.order=o:=by
 unfold visO at h
 split at h
 ·rcases List.mem_append.1 h with h|h <;> (split at h <;> simp at h; rw [h])
 ·cases h
theorem Qx8 {o:Int}:(visO x o).Pairwise fun a b=>ltV a b=true:=by
 unfold visO
 split
 ·split <;> split <;> simp [ltV]
 ·exact List.Pairwise.nil
theorem Qqs {n:Nat}:v∈nextS x m l n↔∃ i,i<n∧m.testBit i=true∧offN x i=false∧v∈visO x (i:Int)∧QjF x l v=true:=by
 induction n with
 | zero=>simp [nextS]
 | succ n ih =>
  unfold nextS
  rw [List.mem_append,ih]
  constructor
  ·rintro (⟨i,h1,h2⟩|h)
   ·exact ⟨i,by omega,h2⟩
   ·split at h
    ·rename_i hb
     simp only [Bool.and_eq_true,Bool.not_eq_true'] at hb
     obtain ⟨h1,h2⟩:=List.mem_filter.1 h
     exact ⟨n,by omega,hb.1,hb.2,h1,h2⟩
    ·cases h
  ·rintro ⟨i,h1,h2,h3,h4,h5⟩
   rcases Nat.lt_or_eq_of_le (Nat.le_of_lt_succ h1) with h|rfl
   ·exact .inl ⟨i,h,h2,h3,h4,h5⟩
   ·refine .inr ?_
    rw [if_pos (by rw [h2,h3]; rfl)]
    exact List.mem_filter.2 ⟨h4,h5⟩
theorem QAw:(!l.any (isV v))=true↔v ∉ l:=by rw [Bool.not_eq_true',Bool.eq_false_iff,Ne,any_V]
theorem QvO {n:Nat}:v∈restS x m l n↔∃ i,i<n∧m.testBit i=true∧v∈visO x (i:Int)∧(v∈l→False):=by
 induction n with
 | zero=>simp [restS]
 | succ n ih =>
  unfold restS
  rw [List.mem_append,ih]
  constructor
  ·rintro (⟨i,h1,h2⟩|h)
   ·exact ⟨i,by omega,h2⟩
   ·split at h
    ·rename_i hb
     obtain ⟨h1,h2⟩:=List.mem_filter.1 h
     exact ⟨n,by omega,hb,h1,QAw.1 h2⟩
    ·cases h
  ·rintro ⟨i,h1,h2,h3,h4⟩
   rcases Nat.lt_or_eq_of_le (Nat.le_of_lt_succ h1) with h|rfl
   ·exact .inl ⟨i,h,h2,h3,h4⟩
   ·refine .inr ?_
    rw [if_pos h2]
    exact List.mem_filter.2 ⟨h3,QAw.2 h4⟩
theorem Qsw:∀ n,(restS x m l n).Pairwise fun a b=>ltV a b=true
 | 0=>List.Pairwise.nil
 | n+1=>by
  unfold restS
  rw [List.pairwise_append]
  refine ⟨Qsw n,?_,fun a ha b hb=>?_⟩
  ·split
   ·exact Qx8.sublist List.filter_sublist
   ·exact List.Pairwise.nil
  ·obtain ⟨i,h1,_,h2,_⟩:=QvO.1 ha
   split at hb
   ·have h3:=QcP h2
    have h4:=QcP (List.mem_filter.1 hb).1
    exact ltV_t.2 (.inl (by omega))
   ·cases hb
theorem Qst (h:QjF x l v=true):v ∉ l:=by
 unfold QjF at h
 simp only [Bool.and_eq_true,Bool.not_eq_true'] at h
 intro hv
 rw [any_V.2 hv] at h
 cases h.1
theorem GoodL.add (h:GoodL x l) (hv:v ∉ l) (h0:0≤v.order∧v.order<x.orders.length):GoodL x (l++[v]):=by
 refine ⟨List.nodup_append.2 ⟨h.nodup,by simp,fun a ha b hb=>?_⟩,fun w hw=>?_⟩
 ·rw [List.mem_singleton.1 hb]; exact fun e=>hv (e ▸ ha)
 ·rcases List.mem_append.1 hw with hw|hw
  ·exact h.inn w hw
  ·rw [List.mem_singleton.1 hw]; exact h0
theorem QyW (h:GoodL x l) (hv:v∈nextS x m l x.orders.length):GoodL x (l++[v]):=by
 obtain ⟨i,h1,_,_,h2,h3⟩:=Qqs.1 hv
 have:=QcP h2
 exact h.add (Qst h3) (by omega)
theorem GoodL.len (h:GoodL x l):l.length≤2*x.orders.length:=by
 have hm:(l.map fun v:Qaa=>2*v.order.toNat+(if v.drop=true then 1 else 0)).Nodup:=by
  unfold List.Nodup
  rw [List.pairwise_map]
  refine h.nodup.imp_of_mem fun {a b} ha hb hne he=>hne ?_
  have h1:=h.inn a ha
  have h2:=h.inn b hb
  cases a with
  | mk ao ad =>
   cases b with
   | mk bo bd =>
    simp only at h1 h2 he
    have hd:ad=bd∧ao=bo:=by
     cases ad <;> cases bd <;> simp at he ⊢ <;> omega
    rw [hd.1,hd.2]
 have:=QtB (2*x.orders.length) _ hm fun a ha=>by
  obtain ⟨v,hv,rfl⟩:=List.mem_map.1 ha
  have h1:=h.inn v hv
  split <;> omega
 simpa using this
theorem SeqOK.good (h:SeqOK x l):GoodL x l:=⟨h.nodup,fun v hv=>Qxe h.inn hv⟩
theorem SeqOK.all (h:SeqOK x l) {o:Int} (ho:hasO l o=true) (hw:w∈visO x o):w∈l:=by
 obtain ⟨v,hv,rfl⟩:=QnZ.1 ho
 have hp:=h.pair v hv
 unfold pairV at hp
 rw [Bool.and_eq_true] at hp
 have hr:=hp.2
 cases hvis:visO x v.order with
 | nil=>rw [hvis] at hw; cases hw
 | cons a r =>
  rw [hvis] at hr hw
  cases r with
  | nil =>
   simp only [rowB,geI_t] at hr
   rw [List.mem_singleton.1 hw]
   exact Qwn.1 hr
  | cons b r =>
   obtain ⟨rfl,_⟩:=Qp8 hvis
   simp only [rowB,geI_t,Bool.and_eq_true,ltI_t] at hr
   rcases List.mem_cons.1 hw with rfl|hw
   ·exact Qwn.1 hr.1
   ·rw [List.mem_singleton.1 hw]
    exact Qwn.1 (by omega)
theorem SeqOK.own (h:SeqOK x l) (hv:v∈l):v∈visO x v.order:=by
 have hp:=h.pair v hv
 unfold pairV at hp
 rw [Bool.and_eq_true] at hp
 exact any_V.1 hp.1
theorem QBh (h:(l++v :: t).Nodup):ixI (isV v) (l++v :: t)=(l.length:Int):=by
 have h0:=Qwn.2 (show v∈l++v :: t by simp)
 obtain ⟨k,hk⟩:∃ k:Nat,ixI (isV v) (l++v :: t)=k:=⟨(ixI (isV v) (l++v :: t)).toNat,by omega⟩
 obtain ⟨h1,h2⟩:=QBg hk
 rw [hk]
 rcases Nat.lt_trichotomy k l.length with h3|h3|h3
 ·rw [List.getElem?_append_left h3] at h1
  exact absurd rfl ((List.nodup_append.1 h).2.2 v (List.mem_of_getElem? h1) v (by simp))
 ·rw [h3]
 ·exact absurd (by rw [List.getElem?_append_right (Nat.le_refl _)]; simp) (h2 l.length h3)
theorem ix_lt (h:ixI (isV w) (l++t)<(l.length:Int)) (h0:0≤ixI (isV w) (l++t)):w∈l:=by
 obtain ⟨k,hk⟩:∃ k:Nat,ixI (isV w) (l++t)=k:=⟨(ixI (isV w) (l++t)).toNat,by omega⟩
 obtain ⟨h1,_⟩:=QBg hk
 rw [List.getElem?_append_left (by omega)] at h1
 exact List.mem_of_getElem? h1
theorem SeqOK.head (h:SeqOK x (l++v :: t)) (hw:w∈headV v (visO x v.order)):w∈l:=by
 have hp:=h.pair v (by simp)
 unfold pairV at hp
 rw [Bool.and_eq_true] at hp
 obtain ⟨h1,hr⟩:=hp
 have hv:=any_V.1 h1
 have hix:=QBh h.nodup
 cases hvis:visO x v.order with
 | nil=>rw [hvis] at hw; cases hw
 | cons a r =>
  rw [hvis] at hr hw hv
  cases r with
  | nil =>
   rw [headV,if_pos (List.mem_singleton.1 hv).symm] at hw
   cases hw
  | cons b r =>
   obtain ⟨rfl,hne⟩:=Qp8 hvis
   by_cases ha:a=v
   ·rw [headV,if_pos ha] at hw; cases hw
   ·have hb:b=v:=by
     rcases List.mem_cons.1 hv with h|h
     ·exact absurd h.symm ha
     ·exact (List.mem_singleton.1 h).symm
    rw [headV,if_neg ha,headV,if_pos hb] at hw
    rw [List.mem_singleton.1 hw]
    simp only [rowB,geI_t,Bool.and_eq_true,ltI_t] at hr
    rw [hb,hix] at hr
    exact ix_lt hr.2 hr.1
theorem Qym (h:SeqOK x (l++v :: t)) {p:Qap} (hp:p∈x.before) (ho:p.x1=v.order) (hw:w∈visO x p.x0):w∈l:=by
 have hb:hasO (l++v :: t) p.x1=true:=QnZ.2 ⟨v,by simp,ho.symm⟩
 have h1:badB (l++v :: t) p=false:=by simpa using List.any_eq_false.1 h.before p hp
 unfold badB at h1
 rw [hb,Bool.true_and] at h1
 simp only [Bool.or_eq_false_iff,Bool.not_eq_false'] at h1
 obtain ⟨h2,h3⟩:=h1
 have hm:=h.all h2 hw
 rcases List.mem_append.1 hm with hm|hm
 ·exact hm
 ·exfalso
  unfold lateB at h3
  cases e:ixP (isO p.x1) (l++v :: t) with
  | none =>
   have:=QuS e v (by simp)
   rw [isO_t.2 ho.symm] at this
   cases this
  | some k =>
   rw [e] at h3
   simp only at h3
   have hk:k≤l.length:=Nat.le_of_not_lt fun hlt=>by
    have:=(QpJ e).2.2 l.length hlt
    rw [List.getElem_append_right (Nat.le_refl _)] at this
    simp only [Nat.sub_self,List.getElem_cons_zero] at this
    rw [isO_t.2 ho.symm] at this
    cases this
   have:hasO ((l++v :: t).drop k) p.x0=true:=QnZ.2 ⟨w,by rw [List.drop_append_of_le_length hk]; exact List.mem_append_right _ hm,QcP hw⟩
   rw [this] at h3
   cases h3
theorem SeqOK.ready (h:SeqOK x (l++v :: t)):QjF x l v=true:=by
 unfold QjF
 have hn:v ∉ l:=fun hv=>(List.nodup_append.1 h.nodup).2.2 v hv v (by simp) rfl
 have e1:l.any (isV v)=false:=by rw [Bool.eq_false_iff,Ne,any_V]; exact hn
 rw [e1,Bool.not_false,Bool.true_and,Bool.and_eq_true,List.all_eq_true]
 refine ⟨fun w hw=>any_V.2 (h.head hw),?_⟩
 unfold Qnf
 rw [List.all_eq_true]
 intro p hp
 by_cases ho:p.x1=v.order
 ·rw [Bool.or_eq_true]
  exact .inr (List.all_eq_true.2 fun w hw=>any_V.2 (Qym h hp ho hw))
 ·rw [Bool.or_eq_true]
  exact .inl (by simpa using ho)
end
end Go.Proofs.YtfjiafgldchinaaGreatDoor
namespace Go.Proofs.YtfjiafgldchinaaGreatDoor
set_option linter.unusedSimpArgs false
set_option linter.unusedVariables false
set_option linter.unusedSectionVars false
theorem Qq0 {α E:Type} {l:List α} (hl:l.length≤1048576) (p:α→Bool) (N:List α→E) {B:List α×Int→Option ((List α×Int)⊕E)} (s0:List α)
  (hin:∀ (s:List α) (i:Nat) (a:α),l[i]?=some a→s.length≤s0.length+i→B (s,(i:Int))=some (.inl (if p a=true then s++[a] else s,(i:Int)+1)))
  (hend:∀ s,B (s,(l.length:Int))=some (.inr (N s))):loopF B (s0,0)=some (N (s0++l.filter p)):=by
 rw [Qxt (B:=B) hl (fun s a=>.inl (if p a=true then s++[a] else s)) N (fun i s=>s.length≤s0.length+i) (fun s i a h hi=>⟨hin s i a h hi,fun s' h'=>by
  cases h'
  split
  ·simp; omega
  ·omega⟩) (fun s _=>hend s) (Nat.le_refl _)]
 congr 1
 have key:∀ (l s:List α),foldE (fun s a=>(.inl (if p a=true then s++[a] else s):List α⊕E)) N s l=N (s++l.filter p):=by
  intro l
  induction l with
  | nil=>intro s; simp [foldE]
  | cons a r ih =>
   intro s
   rw [QyA rfl,ih,List.filter_cons]
   split <;> simp
 exact key l s0
section
variable {x : Qac} {l : List Qaa} {m : Nat} {v : Qaa}
theorem QBf {a:Qaa}:(eqI a.order v.order&&(eqB a.drop v.drop&&true))=isV v a:=by
 rw [Bool.eq_iff_iff,isV_t]; cases v; cases a; simp
theorem QwM {r:List Qaa}:(!r.any (fun a=>ltI (ixI (isV a) l) 0))=r.all (fun w=>l.any (isV w)):=by
 rw [List.all_eq_not_any_not]
 congr 1
 congr 1
 funext a
 rw [Qxv,Qrm]
theorem Qzr:∀ {r:List Qaa},(match ixP (fun a=>isV v a||!l.any (isV a)) r with
  | some k=>(match r[k]? with|some a=>if isV v a=true then (.inl ():Unit⊕Bool) else .inr false|none=>.inl ())
  | none=>.inl ())=if (headV v r).all (fun w=>l.any (isV w))=true then .inl () else .inr false
 | []=>rfl
 | a :: r=>by
  unfold ixP headV
  by_cases ha:isV v a=true
  ·rw [if_pos (by rw [ha]; rfl),if_pos (isV_t.1 ha)]
   simp only [List.getElem?_cons_zero]
   rw [if_pos ha]
   rfl
  ·rw [if_neg (show ¬ a=v from fun h=>ha (isV_t.2 h))]
   by_cases hl:l.any (isV a)=true
   ·rw [if_neg (by rw [hl]; simpa using ha),List.all_cons,hl,Bool.true_and,← Qzr (r:=r)]
    cases ixP (fun a=>isV v a||!l.any (isV a)) r <;> rfl
   ·rw [if_pos (by simp [hl])]
    simp only [List.getElem?_cons_zero]
    rw [if_neg ha,List.all_cons,if_neg (by simp [hl])]
theorem QAA (hx:Qa5 x) (hl:l.length≤1048576) (h0:0≤v.order) (h1:v.order<x.orders.length):Qh5 x l v=some (QjF x l v):=by
 unfold Qh5 QjF
 rw [QtH hl,Qaj,Qrm]
 cases hv:l.any (isV v) with
 | true=>rfl
 | false =>
  rw [Qbb,QrL hx h0 h1,Qaj,Bool.not_false,Bool.true_and]
  have h2:=QjM (x:=x) (o:=v.order)
  have l1:=QxV (B:=fun s=>Qcl x l v (visO x v.order) s) (l:=visO x v.order) (by omega) (fun a=>isV v a||!l.any (isV a)) (fun k=>(match (visO x v.order)[k]? with|some a=>if isV v a=true then (.inl ():Unit⊕Bool) else .inr false|none=>.inl ())) (N:=.inl ()) (fun i a h=>by
   show Qcl x l v (visO x v.order) i=_
   unfold Qcl
   rw [Qbh h,QBf,QtH hl,Qaj,Qxv,Qrm,incL h (by omega),h]
   cases hv:isV v a with
   | true=>rw [if_pos (by rfl)]; simp only [hv]; rfl
   | false =>
    cases hq:l.any (isV a) with
    | true=>rfl
    | false=>rw [if_pos (by rfl)]; simp only [hv]; rfl) (by
   show Qcl x l v (visO x v.order) (visO x v.order).length=_
   unfold Qcl
   rw [QaV])
  have l1':loopF (fun s=>Qcl x l v (visO x v.order) s) 0=some (if (headV v (visO x v.order)).all (fun w=>l.any (isV w))=true then .inl () else .inr false):=l1.trans (congrArg some Qzr)
  rw [l1',Qaj]
  by_cases hh:(headV v (visO x v.order)).all (fun w=>l.any (isV w))=true
  ·rw [if_pos hh,Qdd,hh,Bool.true_and]
   have hb:=hx.before
   have l2:=QcR (B:=fun s=>Qcm x l v s) (l:=x.before) (by omega) (fun p=>!(!eqI p.x1 v.order||(visO x p.x0).all fun w=>l.any (isV w))) (y:=(.inr false:Unit⊕Bool)) (N:=.inl ()) (fun i p h=>by
    obtain ⟨p0,p1,p2,p3,p4⟩:=hx.befores p (List.mem_of_getElem? h)
    show Qcm x l v i=_
    unfold Qcm
    rw [Qbh h,incL h (by omega)]
    have hne:neI p.x1 v.order=!eqI p.x1 v.order:=rfl
    rw [hne]
    cases eqI p.x1 v.order with
    | false=>rfl
    | true =>
     rw [Bool.not_true,Qbb,QrL hx p0 p1,Qaj,Bool.false_or]
     have h3:=QjM (x:=x) (o:=p.x0)
     have l3:=QcR (B:=fun s=>QcH x l v i (visO x p.x0) s) (l:=visO x p.x0) (by omega) (fun w=>ltI (ixI (isV w) l) 0) (y:=(.inr false:Unit⊕Bool)) (N:=.inl ()) (fun j w hw=>by
      show QcH x l v i (visO x p.x0) j=_
      unfold QcH
      rw [Qbh hw,QtH hl,Qaj,incL hw (by omega),brs]) (by
      show QcH x l v i (visO x p.x0) (visO x p.x0).length=_
      unfold QcH
      rw [QaV])
     rw [Qbg l3,← QwM]
     cases (visO x p.x0).any (fun w=>ltI (ixI (isV w) l) 0) <;> rfl) (by
    show Qcm x l v x.before.length=_
    unfold Qcm
    rw [QaV])
   rw [Qbg l2]
   unfold Qnf
   rw [List.all_eq_not_any_not]
   cases x.before.any (fun p=>!(!eqI p.x1 v.order||(visO x p.x0).all fun w=>l.any (isV w))) <;> rfl
  ·rw [if_neg hh,QqF]
   rw [Bool.eq_false_iff.2 hh,Bool.false_and]
theorem QoZ:∀ n,(nextS x m l n).length≤2*n
 | 0=>Nat.le_refl _
 | n+1=>by
  have h1:=QoZ n
  unfold nextS
  rw [List.length_append]
  split
  ·have h2:=List.length_filter_le (QjF x l) (visO x (n:Int))
   have h3:=QjM (x:=x) (o:=(n:Int))
   omega
  ·simp; omega
theorem QA3 {i:Nat} (hm:m<1024) (hi:i≤62):eqI (andK .i64 (shrK .i64 (m:Int) (i:Int)) 1) 0=!m.testBit i:=by
 rw [shrN (by omega),show (1:Int)=((1:Nat):Int) from rfl]
 have hd:=Nat.div_le_self m (2 ^ i)
 rw [andN (by omega) (by omega),Nat.and_one_is_mod,Nat.testBit_eq_decide_div_mod_eq]
 generalize m / 2 ^ i=q
 rw [Bool.eq_iff_iff,eqI_t,Bool.not_eq_true',decide_eq_false_iff_not]
 omega
theorem QAT (hx:Qa5 x) (hl:l.length≤1048576) (hm:m<1024):Qjy x (m:Int) l=some (nextS x m l x.orders.length):=by
 have h10:=hx.orders
 unfold Qjy
 have this:loopF (fun q:List Qaa×Int=>QcF x (m:Int) l q.1 q.2) ([],0)=some (nextS x m l x.orders.length):=QcQ x.orders.length (fun k=>(nextS x m l k,(k:Int))) (B:=fun q:List Qaa×Int=>QcF x (m:Int) l q.1 q.2) (e:=nextS x m l x.orders.length) (by omega) (fun k hk=>by
  obtain ⟨o,ho⟩:∃ o,x.orders[k]?=some o:=⟨_,List.getElem?_eq_getElem hk⟩
  show QcF x (m:Int) l (nextS x m l k) (k:Int)=_
  have hlen:=QoZ (x:=x) (m:=m) (l:=l) k
  unfold QcF
  rw [Qbh ho,QaO (by simp; omega),Qb5 (by omega),QA3 hm (by omega),incL ho (by omega)]
  have hoff:offN x k=o.off:=by unfold offN; rw [ho]
  show _=some (Sum.inl (nextS x m l k++(if (m.testBit k&&!offN x k)=true then _ else _),((k+1:Nat):Int)))
  rw [hoff]
  cases hb:m.testBit k with
  | false=>simp
  | true =>
   cases hf:o.off with
   | true=>simp
   | false =>
    rw [Bool.not_true,Bool.false_or,Qbb,QrL hx (by omega) (by omega),Qaj]
    have h2:=QjM (x:=x) (o:=(k:Int))
    rw [Qbg (Qq0 (B:=fun q:List Qaa×Int=>Qc4 x (m:Int) l (k:Int) (visO x (k:Int)) q.1 q.2) (l:=visO x (k:Int)) (by omega) (QjF x l) id (nextS x m l k) (fun s i a h hs=>by
     have ha:=QcP (List.mem_of_getElem? h)
     show Qc4 x (m:Int) l (k:Int) (visO x (k:Int)) s i=_
     unfold Qc4
     rw [Qbh h,QAA hx hl (by omega) (by omega),Qaj,incL h (by omega),Qb5 (QeM (by have:=(List.getElem?_eq_some_iff.1 h).1; simp; omega)),brs]
     split <;> rfl) (fun s=>by
     show Qc4 x (m:Int) l (k:Int) (visO x (k:Int)) s (visO x (k:Int)).length=_
     unfold Qc4
     rw [QaV]; rfl))]
    simp) (by
  show QcF x (m:Int) l (nextS x m l x.orders.length) (x.orders.length:Int)=_
  unfold QcF
  rw [QaV])
 rw [Qbg this]
theorem Qum (hx:Qa5 x) (hl:l.length≤1048576) (o:Int):Qe9 x o l=some (Qnf x l o):=by
 have hb:=hx.before
 unfold Qe9
 rw [Qbg (QcR (B:=fun s=>Qb4 x o l s) (l:=x.before) (by omega) (fun p=>!(!eqI p.x1 o||(visO x p.x0).all fun w=>l.any (isV w))) (y:=(.inr false:Unit⊕Bool)) (N:=.inl ()) (fun i p h=>by
  obtain ⟨p0,p1,p2,p3,p4⟩:=hx.befores p (List.mem_of_getElem? h)
  show Qb4 x o l i=_
  unfold Qb4
  rw [Qbh h,incL h (by omega)]
  cases eqI p.x1 o with
  | false=>rfl
  | true =>
   rw [Qbx,QaO (by simp [lenI]; omega),QoP hx p0 p1,Qaj,QnY hl QjM,Qaj,QwM]
   cases (visO x p.x0).all (fun w=>l.any (isV w)) <;> rfl) (by
  show Qb4 x o l x.before.length=_
  unfold Qb4
  rw [QaV]))]
 unfold Qnf
 rw [List.all_eq_not_any_not]
 cases x.before.any (fun p=>!(!eqI p.x1 o||(visO x p.x0).all fun w=>l.any (isV w))) <;> rfl
theorem Qtj (hx:Qa5 x) (hl:l.length≤1048576) (hm:m<1024):QfS x (m:Int) l=some (nextS x m l x.orders.length):=by
 have h10:=hx.orders
 unfold QfS
 have this:loopF (fun q:List Qaa×Int=>QbS x (m:Int) l q.1 q.2) ([],0)=some (nextS x m l x.orders.length):=QcQ x.orders.length (fun k=>(nextS x m l k,(k:Int))) (B:=fun q:List Qaa×Int=>QbS x (m:Int) l q.1 q.2) (e:=nextS x m l x.orders.length) (by omega) (fun k hk=>by
  obtain ⟨o,ho⟩:∃ o,x.orders[k]?=some o:=⟨_,List.getElem?_eq_getElem hk⟩
  show QbS x (m:Int) l (nextS x m l k) (k:Int)=_
  have hlen:=QoZ (x:=x) (m:=m) (l:=l) k
  unfold QbS
  rw [QbO (by simp [lenI]; omega),Qr7 (by omega) (by omega) (by omega),Qaj,QaB ho,Qaj,Qum hx hl,Qaj,QoP hx (by omega) (by omega),Qaj,incL ho (by omega),Int.toNat_natCast]
  have hoff:offN x k=o.off:=by unfold offN; rw [ho]
  show _=some (Sum.inl (nextS x m l k++(if (m.testBit k&&!offN x k)=true then _ else _),((k+1:Nat):Int)))
  rw [hoff]
  cases hb:m.testBit k with
  | false=>simp
  | true =>
   cases hf:o.off with
   | true=>simp
   | false =>
    rw [Qbx,Qbb]
    cases hr:Qnf x l (k:Int) with
    | false =>
     rw [Qbb]
     have:(visO x (k:Int)).filter (QjF x l)=[]:=by
      rw [List.filter_eq_nil_iff]
      intro a ha
      unfold QjF
      rw [QcP ha,hr]
      simp
     simp [this]
    | true =>
     rw [Qbx]
     have h2:=QjM (x:=x) (o:=(k:Int))
     rw [Qbg (Qq0 (B:=fun q:List Qaa×Int=>Qcs x (m:Int) l (k:Int) (visO x (k:Int)) q.1 q.2) (l:=visO x (k:Int)) (by omega) (QjF x l) id (nextS x m l k) (fun s i a h hs=>by
      have ha:=QcP (List.mem_of_getElem? h)
      have hi:=(List.getElem?_eq_some_iff.1 h).1
      show Qcs x (m:Int) l (k:Int) (visO x (k:Int)) s i=_
      unfold Qcs
      have hok:okN (s++[a]).length 16:=QeM (by simp; omega)
      rw [Qbh h,Qr9 hl,Qaj,incL h (by omega),Qb5 hok,Qxv,Qrm]
      try rw [Qb5 hok]
      have hrv:QjF x l a=(!l.any (isV a)&&(headV a (visO x (k:Int))).all (fun w=>l.any (isV w))):=by
       unfold QjF
       rw [ha,hr,Bool.and_true]
      rw [hrv]
      cases l.any (isV a) with
      | true=>rfl
      | false =>
       rw [Bool.not_false,Qbx,Bool.true_and]
       cases hvis:visO x (k:Int) with
       | nil=>rw [hvis] at h; simp at h
       | cons c r =>
        rw [hvis] at h
        cases i with
        | zero =>
         simp at h
         subst h
         rw [headV,if_pos rfl]
         rfl
        | succ i =>
         cases r with
         | nil=>simp at h
         | cons d r =>
          obtain ⟨rfl,hne⟩:=Qp8 hvis
          cases i with
          | succ i=>simp at h
          | zero =>
           simp at h
           subst h
           rw [headV,if_neg hne,headV,if_pos rfl,List.all_cons,List.all_nil,Bool.and_true]
           show br false _ (bnd (some c) fun x3=>bnd (Qdy l x3) fun r4=>_)=_
           rw [Qbb,Qaj,Qr9 hl,Qaj,Qrm]
           cases l.any (isV c) <;> rfl) (fun s=>by
      show Qcs x (m:Int) l (k:Int) (visO x (k:Int)) s (visO x (k:Int)).length=_
      unfold Qcs
      rw [QaV]; rfl))]
     simp) (by
  show QbS x (m:Int) l (nextS x m l x.orders.length) (x.orders.length:Int)=_
  unfold QbS
  rw [QaO (by simp [lenI])])
 rw [Qbg this]
end
end Go.Proofs.YtfjiafgldchinaaGreatDoor
namespace Go.Proofs.YtfjiafgldchinaaGreatDoor
set_option linter.unusedSimpArgs false
set_option linter.unusedVariables false
set_option linter.unusedSectionVars false
def inS (m:Nat) (i:Int):Bool:=decide (0≤i)&&m.testBit i.toNat
def memS (m:Nat):Nat→List Int
 | 0=>[]
 | n+1=>memS m n++(if m.testBit n=true then [(n:Int)] else [])
section
variable {m : Nat}
theorem Qta {k:Nat}:inS m (k:Int)=m.testBit k:=by simp [inS]
theorem tb63 (hm:m<9223372036854775808) {i:Nat} (hi:63≤i):m.testBit i=false :=
 Nat.testBit_lt_two_pow (Nat.lt_of_lt_of_le hm (show 2 ^ 63≤2 ^ i from Nat.pow_le_pow_right (by omega) hi))
theorem bitA (hm:m<9223372036854775808) {k:Nat} (hk:k≤62):eqI (andK .i64 (shrK .i64 (m:Int) (k:Int)) 1) 1=m.testBit k:=by
 rw [shrN (by omega)]
 have h1:m / 2 ^ k≤m:=Nat.div_le_self ..
 rw [show (1:Int)=((1:Nat):Int) from rfl,andN (by omega) (by omega),Nat.and_one_is_mod,Nat.testBit_eq_decide_div_mod_eq]
 generalize m / 2 ^ k=q
 unfold eqI
 rw [Bool.eq_iff_iff,beq_iff_eq,decide_eq_true_eq]
 omega
theorem QtX (hm:m<9223372036854775808) (i:Int):QbN (m:Int) i=some (inS m i):=by
 unfold QbN
 by_cases h:0≤i∧i≤62
 ·obtain ⟨k,rfl⟩:∃ k:Nat,i=k:=⟨i.toNat,by omega⟩
  rw [QbO (by simp; omega),Qb5 (by omega),bitA hm (by omega),Qta]
 ·rw [QaO (by rw [Bool.and_eq_false_iff,geI_f,leI_f]; omega)]
  unfold inS
  by_cases h0:0≤i
  ·rw [tb63 hm (by omega)]; simp
  ·simp [h0]
theorem pow62 {k:Nat} (hk:k≤62):2 ^ k≤4611686018427387904:=Nat.pow_le_pow_right (n:=2) (by omega) hk
theorem QzL {k:Nat} (hk:k≤62):QdW (k:Int)=some ((2 ^ k:Nat):Int):=by
 unfold QdW
 have:loopF (fun s:Int×Int=>Qcc (k:Int) s.1 s.2) (1,0)=some ((2 ^ k:Nat):Int) :=
  QcQ k (fun j=>(((2 ^ j:Nat):Int),(j:Int))) (B:=fun s:Int×Int=>Qcc (k:Int) s.1 s.2) (by omega) (fun j hj=>by
   show Qcc (k:Int) ((2 ^ j:Nat):Int) (j:Int)=_
   have:=pow62 (k:=j+1) (by omega)
   have h2:2 ^ (j+1)=2*2 ^ j:=by rw [Nat.pow_succ]; omega
   unfold Qcc
   rw [QbO (by simp; omega),mulI (by omega) (by omega),addI (by omega) (by omega)]
   rw [h2]; simp) (by
   show Qcc (k:Int) ((2 ^ k:Nat):Int) (k:Int)=_
   unfold Qcc
   rw [QaO (by simp)])
 rw [Qbg this]
theorem quoN {a b:Nat} (ha:a<9223372036854775808):quoK .i64 (a:Int) (b:Int)=((a / b:Nat):Int):=by
 have h1:(a:Int).tdiv (b:Int)=((a / b:Nat):Int):=by rw [Int.tdiv_eq_ediv_of_nonneg (by omega)]; rfl
 have h2:a / b≤a:=Nat.div_le_self ..
 generalize a / b=q at h1 h2
 rw [quoI (by rw [h1]; omega) (by rw [h1]; omega),h1]
theorem QnW (hm:m<9223372036854775808) (i:Int):QaN (m:Int) i=some (inS m i):=by
 unfold QaN
 by_cases h:0≤i∧i≤62
 ·obtain ⟨k,rfl⟩:∃ k:Nat,i=k:=⟨i.toNat,by omega⟩
  have hp:0<2 ^ k:=Nat.pow_pos (by omega)
  rw [QbO (by simp; omega),QzL (by omega),Qaj,Qb5 (by omega),quoN hm,QtZ,Qta]
 ·rw [QaO (by rw [Bool.and_eq_false_iff,geI_f,leI_f]; omega)]
  unfold inS
  by_cases h0:0≤i
  ·rw [tb63 hm (by omega)]; simp
  ·simp [h0]
theorem Qmh:∀ n,(memS m n).length≤n
 | 0=>Nat.le_refl 0
 | n+1=>by have:=Qmh n; unfold memS; split <;> simp <;> omega
theorem QuX {i:Int}:∀ {n:Nat},i∈memS m n↔∃ k:Nat,i=k∧k<n∧m.testBit k=true
 | 0=>by simp [memS]
 | n+1=>by
  unfold memS
  rw [List.mem_append,QuX]
  constructor
  ·rintro (⟨k,h1,h2,h3⟩|h)
   ·exact ⟨k,h1,by omega,h3⟩
   ·split at h
    ·rename_i hb; exact ⟨n,by simpa using h,by omega,hb⟩
    ·cases h
  ·rintro ⟨k,rfl,h2,h3⟩
   rcases Nat.lt_or_eq_of_le (Nat.le_of_lt_succ h2) with h|rfl
   ·exact .inl ⟨k,rfl,h,h3⟩
   ·exact .inr (by rw [if_pos h3]; simp)
theorem QoY {n0:Nat} (h:m<2 ^ n0):∀ {n:Nat},n0≤n→memS m n=memS m n0
 | 0,hn=>by rw [Nat.le_zero.1 hn]
 | n+1,hn=>by
  rcases Nat.lt_or_eq_of_le hn with h1|rfl
  ·rw [memS,QoY h (Nat.le_of_lt_succ h1),if_neg (by rw [Nat.testBit_lt_two_pow (Nat.lt_of_lt_of_le h (Nat.pow_le_pow_right (by omega) (Nat.le_of_lt_succ h1)))]; decide),List.append_nil]
  ·rfl
theorem Quh (hm:m<9223372036854775808):QfC (m:Int)=some (memS m 63):=by
 unfold QfC
 have this:loopF (fun q:List Int×Int=>Qbf (m:Int) q.1 q.2) ([],0)=some (memS m 63):=QcQ 63 (fun k=>(memS m k,(k:Int))) (B:=fun q:List Int×Int=>Qbf (m:Int) q.1 q.2) (by omega) (fun k hk=>by
  show Qbf (m:Int) (memS m k) (k:Int)=_
  have:=Qmh (m:=m) k
  unfold Qbf
  rw [QbO (by simp; omega),QtX hm,Qaj,Qta,addI (by omega) (by omega),Qb5 (by unfold okN; simp; omega),brs]
  show _=some (Sum.inl (memS m k++(if m.testBit k=true then [(k:Int)] else []),((k+1:Nat):Int)))
  split <;> simp) (by
  show Qbf (m:Int) (memS m 63) ((63:Nat):Int)=_
  unfold Qbf
  rw [QaO (by decide)])
 rw [Qbg this]
theorem QpY (hm:m<9223372036854775808):Qdh (m:Int)=some (memS m 63):=by
 unfold Qdh
 have this:loopF (fun q:List Int×Int=>Qbd (m:Int) q.1 q.2) ([],0)=some (memS m 63):=QcQ 63 (fun k=>(memS m k,(k:Int))) (B:=fun q:List Int×Int=>Qbd (m:Int) q.1 q.2) (by omega) (fun k hk=>by
  show Qbd (m:Int) (memS m k) (k:Int)=_
  have:=Qmh (m:=m) k
  unfold Qbd
  rw [QbO (by simp; omega),QnW hm,Qaj,Qta,addI (by omega) (by omega),Qb5 (by unfold okN; simp; omega),brs]
  show _=some (Sum.inl (memS m k++(if m.testBit k=true then [(k:Int)] else []),((k+1:Nat):Int)))
  split <;> simp) (by
  show Qbd (m:Int) (memS m 63) ((63:Nat):Int)=_
  unfold Qbd
  rw [QaO (by decide)])
 rw [Qbg this]
end
end Go.Proofs.YtfjiafgldchinaaGreatDoor
namespace Go.Proofs.YtfjiafgldchinaaGreatDoor
set_option linter.unusedSimpArgs false
set_option linter.unusedVariables false
set_option linter.unusedSectionVars false
def qL (a:Qae):Qad:=Qad.mk a.type_ a.visits a.place a.time a.driven a.miles a.load a.done a.open_
def restL (t:Qai) (l:Qae):Qae:=Qae.mk l.type_ l.visits l.place (l.time+t.rest_) 0 l.miles l.load l.done l.open_
def withL (t:Qai) (l:Qae):List Qae:=[l,restL t l]
noncomputable def ablB (t:Qai) (s:Int):Bool:=match QhB t s with
 | some b=>b
 | none=>false
def skO (x:Qac) (i:Nat):Int:=match x.orders[i]? with
 | some o=>o.skills
 | none=>0
def typK0 (x:Qac) (kind:Int):Qai:=x.types.getD kind.toNat zType
def QxE (x:Qac) (m:Nat):Bool:=!x.apart.any (fun p=>inS m p.x0&&inS m p.x1)&&!x.before.any (fun p=>inS m p.x1&&!inS m p.x0)
def offsB (x:Qac) (m:Nat):Bool:=(memS m x.orders.length).any fun i=>offN x i.toNat
noncomputable def unabB (x:Qac) (t:Qai) (m:Nat):Bool:=(memS m x.orders.length).any fun i=>!ablB t (skO x i.toNat)
noncomputable def mayB (x:Qac) (kind:Int) (m:Nat):Bool:=decide (0≤kind∧kind<x.types.length∧0<m∧m<2 ^ x.orders.length)&&(!offsB x m&&(QxE x m&&!unabB x (typK0 x kind) m))
def openS (x:Qac) (m:Nat):Nat→Nat
 | 0=>0
 | n+1=>openS x m n ||| (if (m.testBit n&&pk0 x n)=true then 2 ^ n else 0)
def stL (x:Qac) (m:Nat) (k d:Nat):Int:=sumF (stO x d) ((memS m x.orders.length).take k)
def baseL (x:Qac) (kind:Int) (m:Nat):Qae :=
 Qae.mk kind [] (typK0 x kind).from_ (typK0 x kind).open_ 0 0 (vecN (Qc8 x.types) fun d=>sumF (stO x d) (memS m x.orders.length)) 0 (openS x m x.orders.length:Nat)
noncomputable def Qhg (x:Qac) (kind:Int) (m:Nat):List Qae :=
 if mayB x kind m=true then (if overB (typK0 x kind).cap (baseL x kind m).load=true then [] else withL (typK0 x kind) (baseL x kind m)) else []
section
variable {x : Qac} {m : Nat} {kind : Int} {t : Qai}
theorem Qvk {s:Int} (ht:0≤t.skills∧t.skills≤1073741823) (hs:0≤s∧s≤1073741823):QhB t s=some (ablB t s)∧Qd6 t s=some (ablB t s):=by
 obtain ⟨b,h1,h2⟩:=QBI ht hs
 unfold ablB
 rw [h1]
 exact ⟨rfl,h2⟩
theorem QsO (h0:0≤kind) (h1:kind<x.types.length):getI x.types kind=some (typK0 x kind)∧typK0 x kind∈x.types:=by
 unfold typK0
 rw [Qrn h0 h1,List.getD_eq_getElem?_getD,List.getElem?_eq_getElem (by omega)]
 exact ⟨rfl,List.getElem_mem _⟩
theorem QtD (i:Nat):∀ n,(openS x m n).testBit i=(decide (i<n)&&(m.testBit i&&pk0 x i))
 | 0=>by simp [openS]
 | n+1=>by
  unfold openS
  rw [Nat.testBit_or,QtD i n]
  by_cases hi:i=n
  ·subst hi
   by_cases hc:(m.testBit i&&pk0 x i)=true
   ·rw [if_pos hc,hc]; simp
   ·rw [if_neg hc]; simp at hc ⊢; exact hc
  ·have h1:(if (m.testBit n&&pk0 x n)=true then 2 ^ n else 0).testBit i=false:=by
    split
    ·rw [Nat.testBit_two_pow]; simp; omega
    ·simp
   rw [h1,Bool.or_false]
   have h2:decide (i<n+1)=decide (i<n):=by rw [Bool.eq_iff_iff]; simp; omega
   rw [h2]
theorem Qsp:∀ n,openS x m n<2 ^ n
 | 0=>by simp [openS]
 | n+1=>by
  have h1:=Qsp n
  have h2:2 ^ n<2 ^ (n+1):=Nat.pow_lt_pow_right (by omega) (by omega)
  unfold openS
  refine Nat.or_lt_two_pow (by omega) ?_
  split
  ·exact h2
  ·exact Nat.pow_pos (by omega)
theorem Qug {n k:Nat} {i:Int} (h:(memS m n)[k]?=some i):∃ j:Nat,i=j∧j<n∧m.testBit j=true∧(memS m n).take k=memS m j∧(memS m n).take (k+1)=memS m (j+1):=by
 induction n with
 | zero=>simp [memS] at h
 | succ n ih =>
  have e:memS m (n+1)=memS m n++(if m.testBit n=true then [(n:Int)] else []):=rfl
  rw [e] at h ⊢
  rcases Nat.lt_or_ge k (memS m n).length with hk|hk
  ·rw [List.getElem?_append_left hk] at h
   obtain ⟨j,h1,h2,h3,h4,h5⟩:=ih h
   refine ⟨j,h1,by omega,h3,?_,?_⟩
   ·rw [List.take_append_of_le_length (by omega)]; exact h4
   ·rw [List.take_append_of_le_length (by omega)]; exact h5
  ·rw [List.getElem?_append_right hk] at h
   split at h
   ·rename_i hb
    have h0:k-(memS m n).length=0:=by
     have:=(List.getElem?_eq_some_iff.1 h).1
     simp at this; omega
    rw [h0] at h
    have hk':k=(memS m n).length:=by omega
    simp at h
    subst hk'
    refine ⟨n,h.symm,by omega,hb,?_,?_⟩
    ·simp
    ·rw [← e]; exact List.take_of_length_le (by rw [e,if_pos hb]; simp)
   ·simp at h
def opL (x:Qac) (l:List Int):Nat:=l.foldl (fun a i=>if pk0 x i.toNat=true then a ||| 2 ^ i.toNat else a) 0
theorem QtC {l:List Int} {i:Int}:opL x (l++[i])=if pk0 x i.toNat=true then opL x l ||| 2 ^ i.toNat else opL x l:=by simp [opL]
theorem Qso:∀ n,opL x (memS m n)=openS x m n
 | 0=>rfl
 | n+1=>by
  have ih:=Qso n
  unfold memS openS
  cases hb:m.testBit n with
  | false=>simp [ih]
  | true =>
   rw [if_pos rfl,QtC,Int.toNat_natCast,ih]
   cases hp:pk0 x n <;> simp
theorem QBx (hx:Qa5 x) {d:Nat} {k:Nat}:0≤stL x m k d∧stL x m k d≤10000:=by
 have h:=Qv7 (f:=stO x d) (l:=(memS m x.orders.length).take k) fun a _=>QBw hx d a
 have h1:=Qmh (m:=m) x.orders.length
 have h2:=hx.orders
 rw [List.length_take] at h
 unfold stL
 omega
theorem QAg (hx:Qa5 x) {s:Int} (hs:isI64 s):Qmm x s=some (decide (0<s∧s<((2 ^ x.orders.length:Nat):Int))&&!offsB x s.toNat):=by
 have h10:=hx.orders
 have hp:2 ^ x.orders.length≤2 ^ 10:=Nat.pow_le_pow_right (by omega) h10
 unfold Qmm
 by_cases h0:s≤0
 ·rw [QbO (by simpa using h0),show decide (0<s∧s<((2 ^ x.orders.length:Nat):Int))=false by simp; omega]; rfl
 rw [QaO (by simpa using h0),show (lenI x.orders)=((x.orders.length:Nat):Int) from rfl,cvuN (by omega),Qb5 (by omega),shlN (by omega)]
 by_cases h1:¬ s<((2 ^ x.orders.length:Nat):Int)
 ·rw [QbO (by simp only [geI_t]; omega),show decide (0<s∧s<((2 ^ x.orders.length:Nat):Int))=false by simp only [decide_eq_false_iff_not]; omega]; rfl
 rw [Decidable.not_not] at h1
 rw [QaO (by simp only [geI_f]; omega)]
 obtain ⟨n,rfl⟩:∃ n:Nat,s=n:=⟨s.toNat,by omega⟩
 have hn:n<2 ^ x.orders.length:=by omega
 rw [Quh (by omega),Qaj,QoY hn (by omega),show decide (0<(n:Int)∧(n:Int)<((2 ^ x.orders.length:Nat):Int))=true by simp only [decide_eq_true_eq]; omega,Bool.true_and,Int.toNat_natCast]
 have hl:=Qmh (m:=n) x.orders.length
 rw [Qbg (QcR (B:=fun s=>QdV x (memS n x.orders.length) s) (l:=memS n x.orders.length) (by omega) (fun i=>offN x i.toNat) (y:=(.inr false:Unit⊕Bool)) (N:=.inl ()) (fun i a h=>by
  obtain ⟨j,rfl,h2,_⟩:=Qug h
  obtain ⟨o,e,_⟩:=QrE hx h2
  show QdV x (memS n x.orders.length) i=_
  unfold QdV
  rw [Qbh h,QaB e,Qaj,incL h (by omega),brs,Int.toNat_natCast]
  unfold offN; rw [e]) (by
  show QdV x (memS n x.orders.length) (memS n x.orders.length).length=_
  unfold QdV
  rw [QaV]))]
 unfold offsB
 cases (memS n x.orders.length).any fun i=>offN x i.toNat <;> rfl
theorem Qxu (hx:Qa5 x) (hm:m<9223372036854775808):QkJ x (m:Int)=some (QxE x m):=by
 have ha:=hx.apart
 have hb:=hx.before
 unfold QkJ
 rw [Qbg (QcR (B:=fun s=>Qdq x (m:Int) s) (l:=x.apart) (by omega) (fun p=>inS m p.x0&&inS m p.x1) (y:=(.inr false:Unit⊕Bool)) (N:=.inl ()) (fun i a h=>by
  show Qdq x (m:Int) i=_
  unfold Qdq
  rw [Qbh h,QtX hm,Qaj,QtX hm,Qaj,incL h (by omega)]
  cases inS m a.x0 <;> cases inS m a.x1 <;> rfl) (by
  show Qdq x (m:Int) x.apart.length=_
  unfold Qdq
  rw [QaV]))]
 unfold QxE
 by_cases h1:(x.apart.any fun p=>inS m p.x0&&inS m p.x1)=true
 ·rw [if_pos h1,h1]; rfl
 have h1':(x.apart.any fun p=>inS m p.x0&&inS m p.x1)=false:=by simpa using h1
 rw [if_neg h1,Qdd,h1',Qbg (QcR (B:=fun s=>QcT x (m:Int) s) (l:=x.before) (by omega) (fun p=>inS m p.x1&&!inS m p.x0) (y:=(.inr false:Unit⊕Bool)) (N:=.inl ()) (fun i a h=>by
  show QcT x (m:Int) i=_
  unfold QcT
  rw [Qbh h,QtX hm,Qaj,QtX hm,Qaj,incL h (by omega)]
  cases inS m a.x1 <;> cases inS m a.x0 <;> rfl) (by
  show QcT x (m:Int) x.before.length=_
  unfold QcT
  rw [QaV]))]
 cases (x.before.any fun p=>inS m p.x1&&!inS m p.x0) <;> rfl
theorem QzJ {l:Qae} (h:0≤l.time∧l.time≤1000000) (ht:0≤t.rest_∧t.rest_≤4096):QkK t l=some (withL t l):=by
 unfold QkK withL restL
 rw [addI (by omega) (by omega)]
theorem QwD (hx:Qa5 x) (h0:0≤kind) (h1:kind<x.types.length):TypOK x.net.places.length (Qc8 x.types) (typK0 x kind):=hx.typ _ (QsO h0 h1).2
theorem Qzd {D:Nat}:List.replicate D (0:Int)=vecN D fun _=>0:=by
 refine List.ext_getElem? fun i=>?_
 rcases Nat.lt_or_ge i D with h|h
 ·rw [Qev h]; simp [h]
 ·rw [List.getElem?_eq_none (by simp; omega),List.getElem?_eq_none (by rw [Qcw]; omega)]
theorem Qx2 {k:Nat} {i:Int} {d:Nat} (h:(memS m x.orders.length)[k]?=some i):stL x m (k+1) d=stL x m k d+stO x d i:=Qv8 h
theorem sk_ok (hx:Qa5 x) {i:Nat} (hi:i<x.orders.length):0≤skO x i∧skO x i≤1073741823:=by
 obtain ⟨o,e,hm,_⟩:=QrE hx hi
 unfold skO
 rw [e]
 exact (hx.ord o hm).skills
end
end Go.Proofs.YtfjiafgldchinaaGreatDoor
namespace Go.Proofs.YtfjiafgldchinaaGreatDoor
set_option linter.unusedSimpArgs false
set_option linter.unusedVariables false
set_option linter.unusedSectionVars false
section
variable {x : Qac} {m : Nat} {kind : Int} {t : Qai}
theorem Qwp (hx:Qa5 x) (h0:0≤kind) (h1:kind<x.types.length) (hm:m<2 ^ x.orders.length) :
  loopF (fun s:Int×Int×List Int×Int×Int=>Qfo x kind (typK0 x kind) (List.replicate (Qc8 x.types) 0) (memS m x.orders.length) s.1 s.2.1 s.2.2.1 s.2.2.2.1 s.2.2.2.2) ((typK0 x kind).open_,(typK0 x kind).open_,List.replicate (Qc8 x.types) 0,0,0) =
   some (if unabB x (typK0 x kind) m=true then .inr [] else .inl ((typK0 x kind).open_,(typK0 x kind).open_,vecN (Qc8 x.types) (fun d=>sumF (stO x d) (memS m x.orders.length)),((openS x m x.orders.length:Nat):Int))):=by
 have hT:=QwD hx h0 h1
 have hD:=Qrl hx
 have h10:=hx.orders
 have hp:2 ^ x.orders.length≤2 ^ 10:=Nat.pow_le_pow_right (by omega) h10
 have hlen:=Qmh (m:=m) x.orders.length
 generalize hTT:typK0 x kind=T at hT ⊢
 apply post.eq
 refine Qde (fun s:Int×Int×List Int×Int×Int=>∃ k:Nat,s=(T.open_,T.open_,vecN (Qc8 x.types) (stL x m k),((opL x ((memS m x.orders.length).take k):Nat):Int),(k:Int))∧k≤(memS m x.orders.length).length∧∀ a∈(memS m x.orders.length).take k,ablB T (skO x a.toNat)=true)
  (fun s=>(memS m x.orders.length).length-s.2.2.2.2.toNat) ⟨0,by rw [Qzd]; rfl,Nat.zero_le _,fun a h=>by simp at h⟩ (by simp; omega) ?_
 rintro _ ⟨k,rfl,hk,hab⟩
 show post (Qfo x kind T (List.replicate (Qc8 x.types) 0) (memS m x.orders.length) T.open_ T.open_ (vecN (Qc8 x.types) (stL x m k)) ((opL x ((memS m x.orders.length).take k):Nat):Int) (k:Int)) _
 unfold Qfo
 rcases Nat.lt_or_ge k (memS m x.orders.length).length with h|h
 ·have e:(memS m x.orders.length)[k]?=some (memS m x.orders.length)[k]:=List.getElem?_eq_getElem h
  generalize (memS m x.orders.length)[k]=i at e
  obtain ⟨j,rfl,j1,j2,j3,j4⟩:=Qug e
  obtain ⟨o,o1,o2,o3,o4,o5⟩:=QrE hx j1
  have hsk:skO x j=o.skills:=by unfold skO; rw [o1]
  have hso:=sk_ok hx j1
  rw [Qbh e,QaB o1,Qaj,← hsk]
  have hab1:QhB (Qai.mk T.name T.count T.from_ T.to_ T.cap T.skills T.profile T.open_ T.close T.drive T.rest_ T.fixed T.perMile T.perTick) (skO x j)=some (ablB T (skO x j)):=(Qvk hT.skills hso).1
  rw [hab1,Qaj]
  have hopl:opL x ((memS m x.orders.length).take k)<1024:=by
   rw [j3,Qso]
   have h1:=Qsp (x:=x) (m:=m) j
   have h2:2 ^ j≤2 ^ 10:=Nat.pow_le_pow_right (by omega) (by omega)
   omega
  refine QaC (fun hb=>?_) (fun hb=>?_)
  ·have hnext:∀ a∈(memS m x.orders.length).take (k+1),ablB T (skO x a.toNat)=true:=fun a ha=>by
    rw [take_one e] at ha
    rcases List.mem_append.1 ha with ha|ha
    ·exact hab a ha
    ·rw [List.mem_singleton.1 ha,Int.toNat_natCast]; exact hb
   refine QaC (fun hpk=>?_) (fun hpk=>?_)
   ·have hp0:pk0 x j=true:=by rw [o5]; simpa using hpk
    have hb1:∀ d,-4000000000≤stL x m k d∧stL x m k d≤4000000000:=fun d=>by have:=QBx hx (m:=m) (d:=d) (k:=k); omega
    have h2:2 ^ j≤2 ^ 9:=Nat.pow_le_pow_right (by omega) (by omega)
    rw [o3,QAP hD.2 (fun d _=>hb1 d) (fun d _=>by have:=o4 d; omega),Qaj,cvuN (by omega),Qb5 (by omega),shlN (by omega),orN (by omega) (by omega),incL e (by omega)]
    refine Qeu ⟨⟨k+1,?_,h,hnext⟩,by simp; omega⟩
    have e1:opL x ((memS m x.orders.length).take (k+1))=opL x ((memS m x.orders.length).take k) ||| 2 ^ j:=by rw [take_one e,QtC,Int.toNat_natCast,if_pos hp0]
    have e2:vecN (Qc8 x.types) (stL x m (k+1))=vecN (Qc8 x.types) (fun d=>stL x m k d+loadO x j d):=QfP fun d _=>by
     rw [Qx2 e]; unfold stO; rw [Int.toNat_natCast,if_pos hp0]
    rw [e1,e2]; rfl
   ·have hp0:pk0 x j=false:=by rw [o5]; simpa using hpk
    rw [incL e (by omega)]
    refine Qeu ⟨⟨k+1,?_,h,hnext⟩,by simp; omega⟩
    have e1:opL x ((memS m x.orders.length).take (k+1))=opL x ((memS m x.orders.length).take k):=by rw [take_one e,QtC,Int.toNat_natCast,hp0]; simp
    have e2:vecN (Qc8 x.types) (stL x m (k+1))=vecN (Qc8 x.types) (stL x m k):=QfP fun d _=>by
     rw [Qx2 e]; unfold stO; rw [Int.toNat_natCast,hp0]; simp
    rw [e1,e2]; rfl
  ·have:unabB x T m=true:=List.any_eq_true.2 ⟨(j:Int),List.mem_of_getElem? e,by rw [Int.toNat_natCast,hb]; rfl⟩
   rw [if_pos this]
   exact Qdn rfl
 ·obtain rfl:k=(memS m x.orders.length).length:=by omega
  rw [QaV]
  rw [List.take_length] at hab ⊢
  have:unabB x T m=false:=by
   unfold unabB
   rw [List.any_eq_false]
   intro a ha
   rw [hab a ha]; decide
  rw [if_neg (by rw [this]; decide),Qso]
  refine Qdn ?_
  congr 4
  refine QfP fun d _=>?_
  unfold stL
  rw [List.take_length]
theorem QyN (hx:Qa5 x) {s:Int} (hs:isI64 s):QkB x kind s=some (Qhg x kind s.toNat):=by
 have h10:=hx.orders
 have hp:2 ^ x.orders.length≤2 ^ 10:=Nat.pow_le_pow_right (by omega) h10
 have hD:=Qrl hx
 unfold QkB Qhg mayB
 by_cases hk:¬ (0≤kind∧kind<x.types.length)
 ·rw [QbO (by rw [Bool.or_eq_true,ltI_t,geI_t,lenI]; omega),decide_eq_false (by omega)]; rfl
 obtain ⟨h0,h1⟩:=Decidable.not_not.1 hk
 rw [QaO (by rw [Bool.or_eq_false_iff,ltI_f,geI_f,lenI]; omega),QAg hx hs,Qaj]
 by_cases hs0:¬ (0<s∧s<((2 ^ x.orders.length:Nat):Int))
 ·rw [QaO (by rw [decide_eq_false hs0]; rfl),decide_eq_false (by omega)]; rfl
 have hs1:=Decidable.not_not.1 hs0
 obtain ⟨m,rfl⟩:∃ m:Nat,s=m:=⟨s.toNat,by omega⟩
 rw [decide_eq_true hs1,Bool.true_and,Int.toNat_natCast,decide_eq_true (by omega),Bool.true_and]
 have hm:m<2 ^ x.orders.length:=by omega
 cases offsB x m with
 | true=>rfl
 | false =>
  rw [Bool.not_false,Qbx,Qxu hx (by omega),Qaj,Bool.true_and]
  cases QxE x m with
  | false=>rfl
  | true =>
   obtain ⟨t1,t2⟩:=QsO h0 h1
   have hT:=QwD hx h0 h1
   rw [Qbx,t1,Qaj,Bool.true_and]
   have hmk:mkI (lenI (typK0 x kind).cap) (lenI (typK0 x kind).cap) 8 (0:Int)=some (List.replicate (Qc8 x.types) 0):=by
    unfold mkI lenI
    rw [hT.cap,if_pos (by omega)]; rfl
   rw [hmk,Qaj,Quh (by omega),Qaj,QoY hm (by omega),Qbg (Qwp hx h0 h1 hm)]
   cases hu:unabB x (typK0 x kind) m with
   | true=>rfl
   | false =>
    rw [if_neg (by decide),Qdd,Bool.not_false,if_pos rfl]
    have hL:vecN (Qc8 x.types) (fun d=>sumF (stO x d) (memS m x.orders.length))=(baseL x kind m).load:=rfl
    have hlen:(baseL x kind m).load.length=(typK0 x kind).cap.length:=by rw [← hL,Qcw,hT.cap]
    rw [hL]
    show bnd (QhE (baseL x kind m).load (typK0 x kind).cap) _=_
    rw [(Qs7 hlen (by rw [← hL,Qcw]; omega)).1,Qaj]
    cases overB (typK0 x kind).cap (baseL x kind m).load with
    | true=>rfl
    | false =>
     rw [Bool.not_false,Qbx,if_neg (by decide)]
     have ho:=hT.opn
     have hc:=hT.close
     exact Qbg (QzJ (l:=baseL x kind m) (by show 0≤(typK0 x kind).open_∧(typK0 x kind).open_≤1000000; omega) hT.rest)
theorem QBN (hx:Qa5 x) {s:Int} (hs:isI64 s):Qh1 x kind s=some (mayB x kind s.toNat):=by
 have h10:=hx.orders
 have ha:=hx.apart
 have hb:=hx.before
 have hp:2 ^ x.orders.length≤2 ^ 10:=Nat.pow_le_pow_right (by omega) h10
 unfold Qh1 mayB
 by_cases hk:¬ (0≤kind∧kind<x.types.length∧0<s)
 ·rw [QbO (by rw [Bool.or_eq_true,Bool.or_eq_true,ltI_t,geI_t,leI_t,lenI]; omega),decide_eq_false (by omega)]; rfl
 obtain ⟨h0,h1,h2⟩:=Decidable.not_not.1 hk
 obtain ⟨t1,t2⟩:=QsO h0 h1
 have hT:=QwD hx h0 h1
 obtain ⟨m,rfl⟩:∃ m:Nat,s=m:=⟨s.toNat,by omega⟩
 have hm63:m<9223372036854775808:=by have:=hs.2; omega
 rw [QaO (by rw [Bool.or_eq_false_iff,Bool.or_eq_false_iff,ltI_f,geI_f,leI_f,lenI]; omega),QpY hm63,Qaj,Int.toNat_natCast]
 have hl:=Qmh (m:=m) 63
 have hone:loopF (fun s=>Qci x kind (m:Int) (memS m 63) s) 0=some (if (memS m 63).any (fun i=>decide (x.orders.length≤i)||(offN x i.toNat||!ablB (typK0 x kind) (skO x i.toNat)))=true then .inr false else .inl ()) :=
  QcR (B:=fun s=>Qci x kind (m:Int) (memS m 63) s) (l:=memS m 63) (by omega) _ (fun i a h=>by
   obtain ⟨j,rfl,j2,_⟩:=Qug h
   show Qci x kind (m:Int) (memS m 63) i=_
   unfold Qci
   rw [Qbh h,incL h (by omega)]
   rcases Nat.lt_or_ge j x.orders.length with hj|hj
   ·obtain ⟨o,o1,o2,_⟩:=QrE hx hj
    have hsk:skO x j=o.skills:=by unfold skO; rw [o1]
    rw [QaO (by simp [lenI]; omega),QaB o1,Qaj,decide_eq_false (by omega),Bool.false_or,Int.toNat_natCast]
    have ho:offN x j=o.off:=by unfold offN; rw [o1]
    rw [ho]
    cases o.off with
    | true=>rfl
    | false =>
     rw [Qbb,t1,Qaj,← hsk,(Qvk hT.skills (sk_ok hx hj)).2,Qaj]
     cases ablB (typK0 x kind) (skO x j) <;> rfl
   ·rw [QbO (by simp [lenI]; omega),decide_eq_true (by omega)]; rfl) (by
   show Qci x kind (m:Int) (memS m 63) (memS m 63).length=_
   unfold Qci
   rw [QaV])
 rw [Qbg hone]
 by_cases hm:m<2 ^ x.orders.length
 ·rw [QoY hm (by omega),decide_eq_true (by omega),Bool.true_and]
  have hany:(memS m x.orders.length).any (fun i=>decide (x.orders.length≤i)||(offN x i.toNat||!ablB (typK0 x kind) (skO x i.toNat)))=(offsB x m||unabB x (typK0 x kind) m):=by
   unfold offsB unabB
   rw [Bool.eq_iff_iff]
   simp only [List.any_eq_true,Bool.or_eq_true,decide_eq_true_eq]
   constructor
   ·rintro ⟨i,hi,h|h|h⟩
    ·obtain ⟨k,rfl,hk,_⟩:=QuX.1 hi; omega
    ·exact .inl ⟨i,hi,h⟩
    ·exact .inr ⟨i,hi,h⟩
   ·rintro (⟨i,hi,h⟩|⟨i,hi,h⟩)
    ·exact ⟨i,hi,.inr (.inl h)⟩
    ·exact ⟨i,hi,.inr (.inr h)⟩
  rw [hany]
  by_cases ho:(offsB x m||unabB x (typK0 x kind) m)=true
  ·rw [if_pos ho,QqF]
   rw [Bool.or_eq_true] at ho
   rcases ho with ho|ho <;> simp [ho]
  ·rw [if_neg ho,Qdd]
   simp only [Bool.or_eq_true,not_or,Bool.not_eq_true] at ho
   rw [ho.1,ho.2,Bool.not_false,Bool.true_and,Bool.and_true]
   rw [Qbg (QcR (B:=fun s=>Qcj x (m:Int) s) (l:=x.apart) (by omega) (fun p=>inS m p.x0&&inS m p.x1) (y:=(.inr false:Unit⊕Bool)) (N:=.inl ()) (fun i a h=>by
    show Qcj x (m:Int) i=_
    unfold Qcj
    rw [Qbh h,QnW hm63,Qaj,QnW hm63,Qaj,incL h (by omega)]
    cases inS m a.x0 <;> cases inS m a.x1 <;> rfl) (by
    show Qcj x (m:Int) x.apart.length=_
    unfold Qcj
    rw [QaV]))]
   unfold QxE
   by_cases h1:(x.apart.any fun p=>inS m p.x0&&inS m p.x1)=true
   ·rw [if_pos h1,h1]; rfl
   have h1':(x.apart.any fun p=>inS m p.x0&&inS m p.x1)=false:=by simpa using h1
   rw [if_neg h1,Qdd,h1',Qbg (QcR (B:=fun s=>QbP x (m:Int) s) (l:=x.before) (by omega) (fun p=>inS m p.x1&&!inS m p.x0) (y:=(.inr false:Unit⊕Bool)) (N:=.inl ()) (fun i a h=>by
    show QbP x (m:Int) i=_
    unfold QbP
    rw [Qbh h,QnW hm63,Qaj,QnW hm63,Qaj,incL h (by omega)]
    cases inS m a.x1 <;> cases inS m a.x0 <;> rfl) (by
    show QbP x (m:Int) x.before.length=_
    unfold QbP
    rw [QaV]))]
   cases (x.before.any fun p=>inS m p.x1&&!inS m p.x0) <;> rfl
 ·rw [decide_eq_false (by omega),Bool.false_and]
  have hany:(memS m 63).any (fun i=>decide (x.orders.length≤i)||(offN x i.toNat||!ablB (typK0 x kind) (skO x i.toNat)))=true:=by
   obtain ⟨i,hi,hb⟩:=Nat.exists_ge_and_testBit_of_ge_two_pow (Nat.le_of_not_lt hm)
   have hi63:i<63:=Nat.lt_of_not_le fun h=>by rw [tb63 hm63 h] at hb; cases hb
   rw [List.any_eq_true]
   exact ⟨(i:Int),QuX.2 ⟨i,rfl,hi63,hb⟩,by rw [decide_eq_true (by omega)]; rfl⟩
  rw [if_pos hany]; rfl
theorem QAX {a i:Nat} (h:a.testBit i=false):a+2 ^ i=a ||| 2 ^ i:=by
 apply Nat.eq_of_testBit_eq
 intro j
 rw [QAW h,Nat.testBit_or,Nat.testBit_two_pow]
theorem Qxz {d:Nat} {N:Nat}:∀ n,n≤N→sumF (fun i:Int=>loadO x i.toNat d) (memS (openS x m N) n)=sumF (stO x d) (memS m n)
 | 0,_=>rfl
 | n+1,hn=>by
  have ih:=Qxz (d:=d) (N:=N) n (by omega)
  have e1:memS (openS x m N) (n+1)=memS (openS x m N) n++(if (openS x m N).testBit n=true then [(n:Int)] else []):=rfl
  have e2:memS m (n+1)=memS m n++(if m.testBit n=true then [(n:Int)] else []):=rfl
  rw [e1,e2,QsJ,QsJ,ih,QtD,decide_eq_true (show n<N by omega),Bool.true_and]
  congr 1
  cases hb:m.testBit n with
  | false=>rfl
  | true =>
   rw [Bool.true_and,if_pos rfl,QsK]
   unfold stO
   rw [Int.toNat_natCast]
   cases hp:pk0 x n with
   | true=>rw [if_pos rfl,if_pos rfl,QsK,Int.toNat_natCast]
   | false=>rfl
theorem Qwt (hx:Qa5 x) (hm:m<2 ^ x.orders.length) {T:Qai} :
  loopF (fun s:Int×Int×Int=>QbE x kind T (memS m x.orders.length) s.1 s.2.1 s.2.2) (T.open_,0,0)=some (T.open_,((openS x m x.orders.length:Nat):Int)):=by
 have h10:=hx.orders
 have hlen:=Qmh (m:=m) x.orders.length
 have:=QcQ (memS m x.orders.length).length (fun k=>(T.open_,((opL x ((memS m x.orders.length).take k):Nat):Int),(k:Int))) (B:=fun s:Int×Int×Int=>QbE x kind T (memS m x.orders.length) s.1 s.2.1 s.2.2) (e:=(T.open_,((openS x m x.orders.length:Nat):Int))) (by omega) (fun k hk=>by
  have e:(memS m x.orders.length)[k]?=some (memS m x.orders.length)[k]:=List.getElem?_eq_getElem hk
  generalize (memS m x.orders.length)[k]=i at e
  obtain ⟨j,rfl,j1,j2,j3,j4⟩:=Qug e
  obtain ⟨o,o1,o2,o3,o4,o5⟩:=QrE hx j1
  have hlt:=Qsp (x:=x) (m:=m) j
  have h2:2 ^ j≤2 ^ 9:=Nat.pow_le_pow_right (by omega) (by omega)
  show QbE x kind T (memS m x.orders.length) T.open_ ((opL x ((memS m x.orders.length).take k):Nat):Int) (k:Int)=some (Sum.inl (T.open_,((opL x ((memS m x.orders.length).take (k+1)):Nat):Int),((k+1:Nat):Int)))
  unfold QbE
  rw [Qbh e,QaB o1,Qaj,QzL (by omega),Qaj,incL e (by omega),take_one e,QtC,Int.toNat_natCast,j3,Qso,o5]
  have hbit:(openS x m j).testBit j=false:=by rw [QtD]; simp
  cases hp:ltI o.pick.place 0 with
  | true =>
   rw [Qbx,if_pos (by simpa using hp),addI (by omega) (by omega),← QAX hbit]
   simp
  | false =>
   rw [Qbb,if_neg (by simpa using hp)]
   simp) (by
  show QbE x kind T (memS m x.orders.length) T.open_ ((opL x ((memS m x.orders.length).take (memS m x.orders.length).length):Nat):Int) ((memS m x.orders.length).length:Int)=_
  unfold QbE
  rw [QaV,List.take_length,Qso])
 rw [show ((0:Int))=((opL x ((memS m x.orders.length).take 0):Nat):Int) from rfl]
 exact this
theorem Qyg (hx:Qa5 x) {n:Nat} (hn:n<2 ^ x.orders.length):QfR x.orders (n:Int) (Qc8 x.types:Int)=some (vecN (Qc8 x.types) (fun d=>sumF (fun i:Int=>loadO x i.toNat d) (memS n x.orders.length)),0):=by
 have h10:=hx.orders
 have hD:=Qrl hx
 have hp:2 ^ x.orders.length≤2 ^ 10:=Nat.pow_le_pow_right (by omega) h10
 have hlen:=Qmh (m:=n) x.orders.length
 unfold QfR Qa6
 rw [QaO (by simp),Qaj,QbO (by simp; omega),QpY (by omega),Qaj,QoY hn (by omega)]
 have hloop:loopF (fun s:List (List Int)×Int=>QbR x.orders (Qc8 x.types:Int) (memS n x.orders.length) s.1 s.2) ([],0)=some (.inl ((memS n x.orders.length).map fun i:Int=>vecN (Qc8 x.types) (loadO x i.toNat))):=by
  have:=QcQ (memS n x.orders.length).length (fun k=>(((memS n x.orders.length).take k).map fun i:Int=>vecN (Qc8 x.types) (loadO x i.toNat),(k:Int))) (B:=fun s:List (List Int)×Int=>QbR x.orders (Qc8 x.types:Int) (memS n x.orders.length) s.1 s.2) (e:=(Sum.inl ((memS n x.orders.length).map fun i:Int=>vecN (Qc8 x.types) (loadO x i.toNat)):List (List Int)⊕(List Int×Int))) (by omega) (fun k hk=>by
   have e:(memS n x.orders.length)[k]?=some (memS n x.orders.length)[k]:=List.getElem?_eq_getElem hk
   generalize (memS n x.orders.length)[k]=i at e
   obtain ⟨j,rfl,j1,j2,j3,j4⟩:=Qug e
   obtain ⟨o,o1,o2,o3,o4,o5⟩:=QrE hx j1
   show QbR x.orders (Qc8 x.types:Int) (memS n x.orders.length) (((memS n x.orders.length).take k).map fun i:Int=>vecN (Qc8 x.types) (loadO x i.toNat)) (k:Int)=some (Sum.inl (((memS n x.orders.length).take (k+1)).map fun i:Int=>vecN (Qc8 x.types) (loadO x i.toNat),((k+1:Nat):Int)))
   unfold QbR
   rw [Qbh e,QaO (by simp [lenI]; omega),QaB o1,Qaj,Qb5 (by unfold okN; simp [List.length_take]; omega),incL e (by omega),take_one e,List.map_append,o3]
   simp) (by
   show QbR x.orders (Qc8 x.types:Int) (memS n x.orders.length) (((memS n x.orders.length).take (memS n x.orders.length).length).map fun i:Int=>vecN (Qc8 x.types) (loadO x i.toNat)) ((memS n x.orders.length).length:Int)=_
   unfold QbR
   rw [QaV,List.take_length])
  exact this
 rw [Qbg hloop,Qdd,QAJ hD.2 (by simp; omega) (fun a ha=>by
  obtain ⟨i,_,rfl⟩:=List.mem_map.1 ha; exact Qcw) (fun a ha d=>by
  obtain ⟨i,_,rfl⟩:=List.mem_map.1 ha
  rw [List.getD_eq_getElem?_getD]
  rcases Nat.lt_or_ge d (Qc8 x.types) with h|h
  ·rw [Qev h]; exact QuU hx _ _
  ·rw [List.getElem?_eq_none (by rw [Qcw]; omega)]; simp),Qaj]
 congr 2
 refine QfP fun d hd=>?_
 unfold sumF
 rw [List.map_map]
 congr 1
 refine List.map_congr_left fun i _=>?_
 show (vecN (Qc8 x.types) (loadO x i.toNat)).getD d 0=_
 rw [List.getD_eq_getElem?_getD,Qev hd]; rfl
theorem Qy3 (hx:Qa5 x) {s:Int} (hs:isI64 s):Qgs x kind s=some ((Qhg x kind s.toNat).map qL):=by
 have h10:=hx.orders
 have hp:2 ^ x.orders.length≤2 ^ 10:=Nat.pow_le_pow_right (by omega) h10
 have hD:=Qrl hx
 unfold Qgs Qhg
 rw [QBN hx hs,Qaj]
 cases hmay:mayB x kind s.toNat with
 | false=>rfl
 | true =>
  rw [Qbx,if_pos rfl]
  unfold mayB at hmay
  rw [Bool.and_eq_true,decide_eq_true_eq] at hmay
  obtain ⟨⟨h0,h1,h2,hm⟩,-⟩:=hmay
  obtain ⟨m,rfl⟩:∃ m:Nat,s=m:=⟨s.toNat,by omega⟩
  rw [Int.toNat_natCast] at h2 hm ⊢
  obtain ⟨t1,t2⟩:=QsO h0 h1
  have hT:=QwD hx h0 h1
  have ho:=hT.opn
  have hc:=hT.close
  have hr:=hT.rest
  rw [t1,Qaj,QpY (by omega),Qaj,QoY hm (by omega),Qbg (Qwt hx hm)]
  have hcap:lenI (typK0 x kind).cap=((Qc8 x.types:Nat):Int):=by unfold lenI; rw [hT.cap]
  have hL:vecN (Qc8 x.types) (fun d=>sumF (fun i:Int=>loadO x i.toNat d) (memS (openS x m x.orders.length) x.orders.length))=(baseL x kind m).load:=QfP fun d _=>Qxz _ (Nat.le_refl _)
  have hlen:(baseL x kind m).load.length=(typK0 x kind).cap.length:=by rw [← hL,Qcw,hT.cap]
  simp only
  rw [hcap,Qyg hx (Qsp _),Qaj,QaO (by simp),hL]
  show bnd (Qd5 (baseL x kind m).load (typK0 x kind).cap) _=_
  rw [(Qs7 hlen (by rw [← hL,Qcw]; omega)).2,Qaj]
  cases overB (typK0 x kind).cap (baseL x kind m).load with
  | true=>rfl
  | false =>
   rw [Bool.not_false,Qbx,if_neg (by decide)]
   unfold Qdb
   rw [t1,Qaj,Qaj]
   unfold withL restL qL baseL
   simp only [List.map_cons,List.map_nil]
   rw [addI (by omega) (by omega)]
end
end Go.Proofs.YtfjiafgldchinaaGreatDoor
namespace Go.Proofs.YtfjiafgldchinaaGreatDoor
set_option linter.unusedSimpArgs false
set_option linter.unusedVariables false
set_option linter.unusedSectionVars false
structure LbI (x:Qac) (l:Qae):Prop where
 ty:0≤l.type_∧l.type_<x.types.length
 vis:l.visits.length≤100
 time:(typK0 x l.type_).open_≤l.time∧l.time≤12288
 driven:0≤l.driven∧l.driven≤4096
 miles:0≤l.miles∧l.miles≤10000*l.visits.length
 load:∃ f:Nat→Int,l.load=vecN (Qc8 x.types) f∧∀ d,-(10000+1000*(l.visits.length:Int))≤f d∧f d≤10000+1000*(l.visits.length:Int)
 done:∃ n:Nat,l.done=n∧n<1024
 open_:∃ n:Nat,l.open_=n∧n<1024
def hereL (l:Qae):Nat:=l.done.toNat ||| l.open_.toNat
def confB (l:Qae) (v:Qaa) (p:Qap):Bool:=(eqI p.x0 v.order&&inS (hereL l) p.x1)||(eqI p.x1 v.order&&inS (hereL l) p.x0)
def lateL (l:Qae) (v:Qaa) (p:Qap):Bool:=eqI p.x1 v.order&&!(inS l.done.toNat p.x0&&!inS l.open_.toNat p.x0)
noncomputable def fitB (x:Qac) (l:Qae) (v:Qaa):Bool :=
 !offN x v.order.toNat&&(ablB (typK0 x l.type_) (skO x v.order.toNat)&&((if v.drop=true then inS l.open_.toNat v.order else !inS l.done.toNat v.order)&&(!x.apart.any (confB l v)&&(inS l.done.toNat v.order||!x.before.any (lateL l v)))))
def arvL (x:Qac) (l:Qae) (place:Int):Int×Int×Int:=goN x.net (typK0 x l.type_).profile l.place place l.time
def slowL (x:Qac) (l:Qae) (st:Qas):Bool:=neI (arvL x l st.place).2.2 0||gtI (l.driven+(arvL x l st.place).1-l.time) (typK0 x l.type_).drive||gtI (arvL x l st.place).1 st.close
def loadL (x:Qac) (l:Qae) (v:Qaa):List Int:=vecN (Qc8 x.types) fun d=>if v.drop=true then l.load.getD d 0-loadO x v.order.toNat d else l.load.getD d 0+loadO x v.order.toNat d
def dropP (x:Qac) (i:Nat):Bool:=match x.orders[i]? with
 | some o=>geI o.drop.place 0
 | none=>false
def openL (x:Qac) (l:Qae) (v:Qaa):Nat :=
 if v.drop=true then l.open_.toNat ^^^ 2 ^ v.order.toNat else if dropP x v.order.toNat=true then l.open_.toNat ||| 2 ^ v.order.toNat else l.open_.toNat
def nextL (x:Qac) (l:Qae) (v:Qaa) (st:Qas):Qae :=
 Qae.mk l.type_ (l.visits++[v]) st.place (max (arvL x l st.place).1 st.open_+st.service) (l.driven+(arvL x l st.place).1-l.time) (l.miles+(arvL x l st.place).2.1) (loadL x l v) ((l.done.toNat ||| 2 ^ v.order.toNat:Nat):Int) ((openL x l v:Nat):Int)
noncomputable def extL (x:Qac) (l:Qae) (v:Qaa):List Qae:=match stopV x v with
 | none=>[]
 | some st=>if fitB x l v=true then (if slowL x l st=true then [] else if overB (typK0 x l.type_).cap (loadL x l v)=true then [] else withL (typK0 x l.type_) (nextL x l v st)) else []
section
variable {x : Qac} {l : Qae} {v : Qaa} {st : Qas} {m : Nat}
theorem Qs0 (hx:Qa5 x) (h:LbI x l):getI x.types l.type_=some (typK0 x l.type_)∧TypOK x.net.places.length (Qc8 x.types) (typK0 x l.type_):=⟨(QsO h.ty.1 h.ty.2).1,QwD hx h.ty.1 h.ty.2⟩
theorem LbI.t0 (hx:Qa5 x) (h:LbI x l):0≤l.time∧l.time≤12288:=by
 have h1:=(Qs0 hx h).2.opn
 have h2:=h.time
 omega
theorem QBD {a i:Nat} (h:a.testBit i=true):(a ^^^ 2 ^ i)+2 ^ i=a:=by
 have h0:(a ^^^ 2 ^ i).testBit i=false:=by rw [Nat.testBit_xor,h,Nat.testBit_two_pow_self]; rfl
 rw [QAX h0]
 apply Nat.eq_of_testBit_eq
 intro j
 rw [Nat.testBit_or,Nat.testBit_xor,Nat.testBit_two_pow]
 by_cases hj:i=j
 ·subst hj; simp [h]
 ·simp [hj]
theorem QwL {a i:Nat} (ha:a<1024) (hi:i≤62) (h:a.testBit i=true):Qpr .i64 (a:Int) ((2 ^ i:Nat):Int)=((a ^^^ 2 ^ i:Nat):Int):=by
 show IntKind.i64.wrap (((BitVec.ofInt 64 (a:Int) &&& ~~~BitVec.ofInt 64 ((2 ^ i:Nat):Int)).toNat:Nat):Int)=_
 rw [BitVec.ofInt_natCast,BitVec.ofInt_natCast]
 have hle:(BitVec.ofNat 64 a &&& ~~~BitVec.ofNat 64 (2 ^ i)).toNat<9223372036854775808:=by
  rw [BitVec.toNat_and,BitVec.toNat_ofNat,Nat.mod_eq_of_lt (by omega)]
  exact Nat.lt_of_le_of_lt Nat.and_le_left (by omega)
 rw [wrapN hle]
 congr 1
 apply Nat.eq_of_testBit_eq
 intro j
 rw [BitVec.testBit_toNat,BitVec.getLsbD_and,BitVec.getLsbD_not,BitVec.getLsbD_ofNat,BitVec.getLsbD_ofNat,Nat.testBit_xor,Nat.testBit_two_pow]
 rcases Nat.lt_or_ge j 64 with hj|hj
 ·by_cases hij:i=j
  ·subst hij; simp [hj,h]
  ·simp [hj,hij]
 ·have h1:a.testBit j=false:=Nat.testBit_lt_two_pow (Nat.lt_of_lt_of_le (show a<2 ^ 10 by omega) (Nat.pow_le_pow_right (by omega) (by omega)))
  have:i≠j:=by omega
  simp [h1,this]
theorem QBV {a i:Nat} (ha:a<1024) (hi:i<10):a ^^^ 2 ^ i<1024:=Nat.xor_lt_two_pow (n:=10) ha (Nat.pow_lt_pow_right (by omega) hi)
theorem or_lt {a i:Nat} (ha:a<1024) (hi:i<10):a ||| 2 ^ i<1024:=Nat.or_lt_two_pow (n:=10) ha (Nat.pow_lt_pow_right (by omega) hi)
theorem Quo {v:Qaa} {st:Qas} (hx:Qa5 x) (h:stopV x v=some st):Qd7 x.orders v=some (st,0):=by
 have hlen:=hx.orders
 unfold stopV at h
 split at h
 ·cases h
 ·rename_i o ho
  split at ho
  ·rename_i h0
   have hlt:=(List.getElem?_eq_some_iff.1 ho).1
   unfold Qd7
   have hs:subK .i64 (lenI x.orders) 1=(x.orders.length:Int)-1:=by unfold lenI; exact subI (by omega) (by omega)
   rw [hs]
   apply post.eq
   refine QqU ?_
   rw [QbO (by rw [decide_eq_true_iff]; omega),Qrn h0 (by omega),Qaj]
   have e:x.orders[v.order.toNat]'(by omega)=o:=by rw [List.getElem?_eq_getElem hlt] at ho; exact Option.some.inj ho
   rw [e]
   unfold Qei
   split at h
   ·rename_i h1
    cases h
    cases hd:v.drop with
    | true=>rw [Qbx,atS_t hd] at *; rw [QaO (by simpa using h1)]; exact Qay.2 rfl
    | false=>rw [Qbb,atS_f hd] at *; rw [QaO (by simpa using h1)]; exact Qay.2 rfl
   ·cases h
  ·cases ho
theorem QxQ (hx:Qa5 x) (h:stopV x v=none):∃ e,Qd7 x.orders v=some (Qas.mk 0 0 0 0,e)∧neI e 0=true:=by
 have hlen:=hx.orders
 unfold Qd7 Qa6
 have hs:subK .i64 (lenI x.orders) 1=(x.orders.length:Int)-1:=by unfold lenI; exact subI (by omega) (by omega)
 rw [hs,Qaj]
 by_cases hin:0≤v.order∧v.order<x.orders.length
 ·rw [QbO (by rw [Bool.and_eq_true,geI_t,leI_t]; omega),Qrn hin.1 hin.2,Qaj]
  unfold stopV at h
  rw [if_pos hin.1,List.getElem?_eq_getElem (by omega)] at h
  generalize x.orders[v.order.toNat]'(by omega)=o at h ⊢
  simp only at h
  unfold Qei
  split at h
  ·cases h
  ·rename_i hp
   cases hd:v.drop with
   | true=>rw [atS_t hd] at hp; rw [Qbx,QbO (by simp; omega)]; exact ⟨19,rfl,rfl⟩
   | false=>rw [atS_f hd] at hp; rw [Qbb,QbO (by simp; omega)]; exact ⟨19,rfl,rfl⟩
 ·rw [QaO (by rw [Bool.and_eq_false_iff,geI_f,leI_f]; omega)]
  exact ⟨2,rfl,rfl⟩
theorem QtT (h:stopV x v=some st):0≤v.order∧v.order<x.orders.length:=by
 unfold stopV at h
 split at h
 ·cases h
 ·rename_i o ho
  split at ho
  ·rename_i h0
   have:=(List.getElem?_eq_some_iff.1 ho).1
   omega
  ·cases ho
theorem QrY {α:Type} (hx:Qa5 x) {B:Int→Option (Int⊕(Unit⊕Bool))} (hB:∀ (i:Nat) (a:Qap),x.apart[i]?=some a→B (i:Int)=br (eqI a.x0 v.order) (br (inS (hereL l) a.x1) (some (.inr (.inr false))) (br (eqI a.x1 v.order) (br (inS (hereL l) a.x0) (some (.inr (.inr false))) (some (.inl ((i:Int)+1)))) (some (.inl ((i:Int)+1))))) (br (eqI a.x1 v.order) (br (inS (hereL l) a.x0) (some (.inr (.inr false))) (some (.inl ((i:Int)+1)))) (some (.inl ((i:Int)+1)))))
  (hend:B (x.apart.length:Int)=some (.inr (.inl ()))):loopF B 0=some (if x.apart.any (confB l v)=true then .inr false else .inl ()):=by
 have ha:=hx.apart
 refine QcR (by omega) (confB l v) (fun i a h=>?_) hend
 rw [hB i a h]
 unfold confB
 cases eqI a.x0 v.order <;> cases eqI a.x1 v.order <;> cases inS (hereL l) a.x1 <;> cases inS (hereL l) a.x0 <;> rfl
theorem QqT {α:Type} (hx:Qa5 x) {B:Int→Option (Int⊕(Unit⊕Bool))} (hB:∀ (i:Nat) (a:Qap),x.before[i]?=some a→B (i:Int)=br (eqI a.x1 v.order) (br (inS l.done.toNat a.x0) (br (inS l.open_.toNat a.x0) (some (.inr (.inr false))) (some (.inl ((i:Int)+1)))) (some (.inr (.inr false)))) (some (.inl ((i:Int)+1))))
  (hend:B (x.before.length:Int)=some (.inr (.inl ()))):loopF B 0=some (if x.before.any (lateL l v)=true then .inr false else .inl ()):=by
 have ha:=hx.before
 refine QcR (by omega) (lateL l v) (fun i a h=>?_) hend
 rw [hB i a h]
 unfold lateL
 cases eqI a.x1 v.order <;> cases inS l.done.toNat a.x0 <;> cases inS l.open_.toNat a.x0 <;> rfl
theorem Qy5 (hx:Qa5 x) (h:LbI x l) (hv:0≤v.order∧v.order<x.orders.length):Qmp x l v=some (fitB x l v):=by
 have ha:=hx.apart
 have hb:=hx.before
 obtain ⟨t1,hT⟩:=Qs0 hx h
 obtain ⟨dn,hdn,hdn2⟩:=h.done
 obtain ⟨op,hop,hop2⟩:=h.open_
 obtain ⟨j,hj⟩:∃ j:Nat,v.order=j:=⟨v.order.toNat,by omega⟩
 obtain ⟨o,o1,o2,o3,o4,o5⟩:=QrE hx (i:=j) (by omega)
 have hsk:skO x j=o.skills:=by unfold skO; rw [o1]
 have hoff:offN x j=o.off:=by unfold offN; rw [o1]
 have hor:orK .i64 l.done l.open_=((hereL l:Nat):Int):=by
  unfold hereL; rw [hdn,hop,orN (by omega) (by omega)]; simp
 have hhere:hereL l<9223372036854775808:=by
  have:=Nat.or_lt_two_pow (n:=10) hdn2 hop2
  unfold hereL; rw [hdn,hop]; simp only [Int.toNat_natCast]; omega
 have eD:∀ i,QbN l.done i=some (inS l.done.toNat i):=fun i=>by rw [hdn]; exact QtX (by omega) i
 have eO:∀ i,QbN l.open_ i=some (inS l.open_.toNat i):=fun i=>by rw [hop]; exact QtX (by omega) i
 have eH:∀ i,QbN (orK .i64 l.done l.open_) i=some (inS (hereL l) i):=fun i=>by rw [hor]; exact QtX hhere i
 unfold Qmp fitB
 rw [show v.order.toNat=j by omega,hj,QaB o1,Qaj,hoff]
 cases o.off with
 | true=>rfl
 | false =>
  rw [Qbb,t1,Qaj,← hsk,(Qvk hT.skills (sk_ok hx (by omega))).1,Qaj,Bool.not_false,Bool.true_and]
  cases ablB (typK0 x l.type_) (skO x j) with
  | false=>rfl
  | true =>
   rw [Qbx,Bool.true_and]
   have L1:loopF (fun s=>Qdr x l v o s) 0=some (if x.apart.any (confB l v)=true then .inr false else .inl ()):=QrY (α:=Unit) (B:=fun s=>Qdr x l v o s) hx (fun i a e=>by
    show Qdr x l v o i=_
    unfold Qdr
    rw [Qbh e,eH,eH,Qaj,Qaj,incL e (by omega)]) (by
    show Qdr x l v o x.apart.length=_
    unfold Qdr
    rw [QaV])
   have L2:loopF (fun s=>QcY x l v o s) 0=some (if x.before.any (lateL l v)=true then .inr false else .inl ()):=QqT (α:=Unit) (B:=fun s=>QcY x l v o s) hx (fun i a e=>by
    show QcY x l v o i=_
    unfold QcY
    rw [Qbh e,eD,eO,Qaj,Qaj,incL e (by omega)]) (by
    show QcY x l v o x.before.length=_
    unfold QcY
    rw [QaV])
   have L3:loopF (fun s=>Qds x l v o s) 0=some (if x.apart.any (confB l v)=true then .inr false else .inl ()):=QrY (α:=Unit) (B:=fun s=>Qds x l v o s) hx (fun i a e=>by
    show Qds x l v o i=_
    unfold Qds
    rw [Qbh e,eH,eH,Qaj,Qaj,incL e (by omega)]) (by
    show Qds x l v o x.apart.length=_
    unfold Qds
    rw [QaV])
   have L4:loopF (fun s=>QcZ x l v o s) 0=some (if x.before.any (lateL l v)=true then .inr false else .inl ()):=QqT (α:=Unit) (B:=fun s=>QcZ x l v o s) hx (fun i a e=>by
    show QcZ x l v o i=_
    unfold QcZ
    rw [Qbh e,eD,eO,Qaj,Qaj,incL e (by omega)]) (by
    show QcZ x l v o x.before.length=_
    unfold QcZ
    rw [QaV])
   rw [← hj] at *
   cases hd:v.drop with
   | true =>
    rw [Qbx,eO,Qaj,if_pos rfl]
    cases inS l.open_.toNat v.order with
    | false=>rfl
    | true =>
     rw [Qbx,Qbg L1,Bool.true_and]
     cases x.apart.any (confB l v) with
     | true=>rfl
     | false =>
      rw [if_neg (by decide),Qdd,eD,Qaj,Bool.not_false,Bool.true_and]
      cases inS l.done.toNat v.order with
      | true=>rfl
      | false =>
       rw [Qbb,Qbg L2]
       cases x.before.any (lateL l v) <;> rfl
   | false =>
    rw [Qbb,eD,Qaj,if_neg (by decide)]
    cases hdd:inS l.done.toNat v.order with
    | true=>rfl
    | false =>
     rw [Qbb,Qbg L3,Bool.not_false,Bool.true_and]
     cases x.apart.any (confB l v) with
     | true=>rfl
     | false =>
      rw [if_neg (by decide),Qdd,Qaj,Qbb,Qbg L4]
      cases x.before.any (lateL l v) <;> rfl
theorem Qz2 (hx:Qa5 x) (h:LbI x l) (hs:stopV x v=some st):QeT x (qL l) v=some (fitB x l v):=by
 have ha:=hx.apart
 have hb:=hx.before
 have hv:=QtT hs
 obtain ⟨t1,hT⟩:=Qs0 hx h
 obtain ⟨dn,hdn,hdn2⟩:=h.done
 obtain ⟨op,hop,hop2⟩:=h.open_
 obtain ⟨j,hj⟩:∃ j:Nat,v.order=j:=⟨v.order.toNat,by omega⟩
 obtain ⟨o,o1,o2,o3,o4,o5⟩:=QrE hx (i:=j) (by omega)
 have hsk:skO x j=o.skills:=by unfold skO; rw [o1]
 have hoff:offN x j=o.off:=by unfold offN; rw [o1]
 have hor:orK .i64 (qL l).done (qL l).open_=((hereL l:Nat):Int):=by
  show orK .i64 l.done l.open_=_
  unfold hereL; rw [hdn,hop,orN (by omega) (by omega)]; simp
 have hhere:hereL l<9223372036854775808:=by
  have:=Nat.or_lt_two_pow (n:=10) hdn2 hop2
  unfold hereL; rw [hdn,hop]; simp only [Int.toNat_natCast]; omega
 have eD:∀ i,QaN (qL l).done i=some (inS l.done.toNat i):=fun i=>by show QaN l.done i=_; rw [hdn]; exact QnW (by omega) i
 have eO:∀ i,QaN (qL l).open_ i=some (inS l.open_.toNat i):=fun i=>by show QaN l.open_ i=_; rw [hop]; exact QnW (by omega) i
 have eH:∀ i,QaN (orK .i64 (qL l).done (qL l).open_) i=some (inS (hereL l) i):=fun i=>by rw [hor]; exact QnW hhere i
 unfold QeT fitB
 rw [Quo hx hs,Qaj,QaO (by simp),show v.order.toNat=j by omega,hj,QaB o1,Qaj,hoff]
 cases o.off with
 | true=>rfl
 | false =>
  have hab:=(Qvk hT.skills (sk_ok hx (show j<x.orders.length by omega))).2
  rw [Qbb,eD,Qaj,Bool.not_false,Bool.true_and]
  have scan1:∀ (B:Int→Option (Int⊕(Unit⊕Bool))),(∀ (i:Nat) (a:Qap),x.apart[i]?=some a→B (i:Int)=br (eqI a.x0 v.order) (br (inS (hereL l) a.x1) (some (.inr (.inr false))) (br (eqI a.x1 v.order) (br (inS (hereL l) a.x0) (some (.inr (.inr false))) (some (.inl ((i:Int)+1)))) (some (.inl ((i:Int)+1))))) (br (eqI a.x1 v.order) (br (inS (hereL l) a.x0) (some (.inr (.inr false))) (some (.inl ((i:Int)+1)))) (some (.inl ((i:Int)+1)))))→B (x.apart.length:Int)=some (.inr (.inl ()))→loopF B 0=some (if x.apart.any (confB l v)=true then .inr false else .inl ()):=fun B h1 h2=>QrY (α:=Unit) hx h1 h2
  have bloop:∀ (B:Int→Option (Int⊕(Unit⊕Bool))),(∀ (i:Nat) (a:Qap),x.before[i]?=some a→B (i:Int)=br (!inS l.done.toNat v.order) (br (eqI a.x1 v.order) (br (inS l.done.toNat a.x0) (br (inS l.open_.toNat a.x0) (some (.inr (.inr false))) (some (.inl ((i:Int)+1)))) (some (.inr (.inr false)))) (some (.inl ((i:Int)+1)))) (some (.inr (.inl ()))))→B (x.before.length:Int)=some (.inr (.inl ())) →
    loopF B 0=some (if (inS l.done.toNat v.order||!x.before.any (lateL l v))=true then .inl () else .inr false):=fun B h1 h2=>by
   cases hdd:inS l.done.toNat v.order with
   | false =>
    rw [QqT (l:=l) (v:=v) (α:=Unit) hx (fun i a e=>by rw [h1 i a e,hdd]; rfl) h2]
    cases x.before.any (lateL l v) <;> rfl
   | true =>
    have:B 0=some (.inr (.inl ())):=by
     cases hbl:x.before with
     | nil=>rw [hbl] at h2; exact h2
     | cons p r =>
      have:=h1 0 p (by rw [hbl]; rfl)
      rw [hdd] at this
      exact this
    rw [Bool.true_or,if_pos rfl]
    exact QuW 1 (by decide) (by simp only [iterF,this])
  have L1:loopF (fun s=>Qcu x (qL l) v o (inS l.done.toNat v.order) s) 0=_:=scan1 _ (fun i a e=>by
   show Qcu x (qL l) v o _ i=_
   unfold Qcu
   rw [Qbh e,eH,eH,Qaj,Qaj,incL e (by omega)]) (by
   show Qcu x (qL l) v o _ x.apart.length=_
   unfold Qcu
   rw [QaV])
  have L3:loopF (fun s=>Qcv x (qL l) v o (inS l.done.toNat v.order) s) 0=_:=scan1 _ (fun i a e=>by
   show Qcv x (qL l) v o _ i=_
   unfold Qcv
   rw [Qbh e,eH,eH,Qaj,Qaj,incL e (by omega)]) (by
   show Qcv x (qL l) v o _ x.apart.length=_
   unfold Qcv
   rw [QaV])
  have L2:loopF (fun s=>QbV x (qL l) v o (inS l.done.toNat v.order) s) 0=_:=bloop _ (fun i a e=>by
   have hlt:=(List.getElem?_eq_some_iff.1 e).1
   show QbV x (qL l) v o _ i=_
   unfold QbV
   rw [show ltI (i:Int) (lenI x.before)=true by simp [lenI]; omega,Bool.true_and,QaB e,Qaj,eD,eO,Qaj,Qaj,incL e (by omega)]) (by
   show QbV x (qL l) v o _ x.before.length=_
   unfold QbV
   rw [show ltI (x.before.length:Int) (lenI x.before)=false by simp [lenI]]; rfl)
  have L4:loopF (fun s=>QbW x (qL l) v o (inS l.done.toNat v.order) s) 0=_:=bloop _ (fun i a e=>by
   have hlt:=(List.getElem?_eq_some_iff.1 e).1
   show QbW x (qL l) v o _ i=_
   unfold QbW
   rw [show ltI (i:Int) (lenI x.before)=true by simp [lenI]; omega,Bool.true_and,QaB e,Qaj,eD,eO,Qaj,Qaj,incL e (by omega)]) (by
   show QbW x (qL l) v o _ x.before.length=_
   unfold QbW
   rw [show ltI (x.before.length:Int) (lenI x.before)=false by simp [lenI]]; rfl)
  rw [← hj] at *
  show br (!v.drop&&inS l.done.toNat v.order) _ _=_
  have hTy:getI x.types (qL l).type_=some (typK0 x l.type_):=t1
  rw [hTy]
  simp only [Qaj]
  rw [← hsk,hab]
  simp only [Qaj]
  generalize hA:ablB (typK0 x l.type_) (skO x j)=A
  cases hd:v.drop with
  | true =>
   rw [Bool.not_true,Bool.false_and,Qbb,Qbx,eO,Qaj,if_pos rfl]
   cases inS l.open_.toNat v.order with
   | false=>rw [Bool.false_and,Bool.and_false]; rfl
   | true =>
    rw [Qbx,Bool.true_and]
    cases A with
    | false=>rfl
    | true =>
     rw [Qbx,Qbg L1,Bool.true_and]
     cases x.apart.any (confB l v) with
     | true=>rfl
     | false =>
      rw [if_neg (by decide),Qdd,Qbg L2,Bool.not_false,Bool.true_and]
      cases (inS l.done.toNat v.order||!x.before.any (lateL l v)) <;> rfl
  | false =>
   rw [Bool.not_false,Bool.true_and,Qbb,if_neg (by decide)]
   cases hdd:inS l.done.toNat v.order with
   | true=>rw [Qbx,Bool.not_true,Bool.false_and,Bool.and_false]
   | false =>
    rw [hdd] at L3 L4
    rw [Qbb,Bool.not_false,Bool.true_and]
    cases A with
    | false=>rfl
    | true =>
     rw [Qbx,Qbg L3,Bool.true_and]
     cases x.apart.any (confB l v) with
     | true=>rfl
     | false =>
      rw [if_neg (by decide),Qdd,Qbg L4,Bool.not_false,Bool.true_and]
      cases (false||!x.before.any (lateL l v)) <;> rfl
end
end Go.Proofs.YtfjiafgldchinaaGreatDoor
namespace Go.Proofs.YtfjiafgldchinaaGreatDoor
set_option linter.unusedSimpArgs false
set_option linter.unusedVariables false
set_option linter.unusedSectionVars false
section
variable {x : Qac} {l : Qae} {v : Qaa} {st : Qas} {m : Nat}
theorem Qvf (hx:Qa5 x) (h:stopV x v=some st):SOK st:=by
 obtain ⟨h1,h2,h3,h4,h5,h6,h7⟩:=QAI hx h
 exact ⟨h3,h4,h5,h6,h7⟩
theorem QtW (hs:SOK st) {a:Int} (h0:0≤a) (ha:a≤1048576):QjB st a=some (if st.close<a then (0,14) else (max a st.open_+st.service,0))∧QfJ st a=some (if st.close<a then (0,14) else (max a st.open_+st.service,0)):=by
 have h1:=hs.open0; have h2:=hs.open1; have h3:=hs.close; have h4:=hs.serv0; have h5:=hs.serv1
 constructor
 ·unfold QjB Qnk
  rw [Qzx,br_if]
  simp only [gtI_t]
  by_cases h:st.close<a
  ·rw [if_pos (by omega),if_pos h,Qaj,QbO (by decide)]
  ·rw [if_neg (by omega),if_neg h,Qaj]
   show br (neI 0 0) _ (some (addK .i64 (max a st.open_) st.service,0))=_
   rw [QaO (by decide),addI (by omega) (by omega)]
 ·unfold QfJ QhP
  by_cases h:st.close<a
  ·rw [QbO (by simpa using h),if_pos h,Qaj,QbO (by decide)]
  ·rw [QaO (by simpa using h),if_neg h]
   by_cases h6:a<st.open_
   ·rw [QbO (by simpa using h6),Qaj]
    show br (neI 0 0) _ (some (addK .i64 st.open_ st.service,0))=_
    rw [QaO (by decide),addI (by omega) (by omega)]
    congr 2; omega
   ·rw [QaO (by simpa using h6),Qaj]
    show br (neI 0 0) _ (some (addK .i64 a st.service,0))=_
    rw [QaO (by decide),addI (by omega) (by omega)]
    congr 2; omega
theorem QzK {D:Nat} {f g:Nat→Int} (hD:D≤3) (hf:∀ d,d<D→-4000000000≤f d∧f d≤4000000000) (hg:∀ d,d<D→-4000000000≤g d∧g d≤4000000000):QgB (vecN D f) (vecN D g)=some (vecN D (fun d=>f d+g d),0):=by
 unfold QgB
 rw [QaO (by simp [lenI,Qcw])]
 have:=QcQ D (fun k=>(vecN k (fun d=>f d+g d),(k:Int))) (B:=fun q:List Int×Int=>Qcd (vecN D f) (vecN D g) q.1 q.2) (e:=vecN D fun d=>f d+g d) (by omega) (fun k hk=>by
  have h1:=hf k hk
  have h2:=hg k hk
  show Qcd (vecN D f) (vecN D g) (vecN k (fun d=>f d+g d)) (k:Int)=some (Sum.inl (vecN (k+1) (fun d=>f d+g d),((k+1:Nat):Int)))
  have ev:vecN (k+1) (fun d=>f d+g d)=vecN k (fun d=>f d+g d)++[f k+g k]:=by simp [vecN,List.range_succ]
  unfold Qcd
  rw [QbO (by simp [lenI,Qcw]; omega),QaB (Qev hk),QaB (Qev hk),Qaj,Qaj,addI (by omega) (by omega),Qb5 (by unfold okN; simp [Qcw]; omega),addI (by omega) (by omega),ev]
  rfl) (by
  show Qcd (vecN D f) (vecN D g) (vecN D (fun d=>f d+g d)) (D:Int)=_
  unfold Qcd
  rw [QaO (by simp [lenI,Qcw])])
 rw [Qbg (show loopF (fun q:List Int×Int=>Qcd (vecN D f) (vecN D g) q.1 q.2) ([],0)=_ from this)]
theorem QzP {D:Nat} {f g:Nat→Int} (hD:D≤3) (hf:∀ d,d<D→-4000000000≤f d∧f d≤4000000000) (hg:∀ d,d<D→-4000000000≤g d∧g d≤4000000000):Qfs (vecN D f) (vecN D g)=some (vecN D (fun d=>f d-g d),0):=by
 unfold Qfs
 rw [QaO (by simp [lenI,Qcw])]
 have:=QcQ D (fun k=>(vecN k (fun d=>f d-g d),(k:Int))) (B:=fun q:List Int×Int=>Qce (vecN D f) (vecN D g) q.1 q.2) (e:=vecN D fun d=>f d-g d) (by omega) (fun k hk=>by
  have h1:=hf k hk
  have h2:=hg k hk
  show Qce (vecN D f) (vecN D g) (vecN k (fun d=>f d-g d)) (k:Int)=some (Sum.inl (vecN (k+1) (fun d=>f d-g d),((k+1:Nat):Int)))
  have ev:vecN (k+1) (fun d=>f d-g d)=vecN k (fun d=>f d-g d)++[f k-g k]:=by simp [vecN,List.range_succ]
  unfold Qce
  rw [QbO (by simp [lenI,Qcw]; omega),QaB (Qev hk),QaB (Qev hk),Qaj,Qaj,subI (by omega) (by omega),Qb5 (by unfold okN; simp [Qcw]; omega),addI (by omega) (by omega),ev]
  rfl) (by
  show Qce (vecN D f) (vecN D g) (vecN D (fun d=>f d-g d)) (D:Int)=_
  unfold Qce
  rw [QaO (by simp [lenI,Qcw])])
 rw [Qbg (show loopF (fun q:List Int×Int=>Qce (vecN D f) (vecN D g) q.1 q.2) ([],0)=_ from this)]
theorem Qw0 {l:List Qaa}:cpyL (List.replicate l.length (Qaa.mk 0 false)) l=l:=by simp [cpyL,cpyN]
theorem Qxl (hx:Qa5 x) (h:LbI x l):l.load=vecN (Qc8 x.types) (fun d=>l.load.getD d 0)∧∀ d,-(10000+1000*(l.visits.length:Int))≤l.load.getD d 0∧l.load.getD d 0≤10000+1000*(l.visits.length:Int):=by
 obtain ⟨f,hf,hb⟩:=h.load
 have hg:∀ d,d<Qc8 x.types→l.load.getD d 0=f d:=fun d hd=>by rw [hf,List.getD_eq_getElem?_getD,Qev hd]; rfl
 refine ⟨?_,fun d=>?_⟩
 ·rw [hf]; exact QfP fun d hd=>by rw [List.getD_eq_getElem?_getD,Qev hd]; rfl
 ·rcases Nat.lt_or_ge d (Qc8 x.types) with hd|hd
  ·rw [hg d hd]; exact hb d
  ·rw [hf,List.getD_eq_getElem?_getD,List.getElem?_eq_none (by rw [Qcw]; omega)]
   show -(10000+1000*(l.visits.length:Int))≤0∧(0:Int)≤_
   omega
theorem Qxm (hx:Qa5 x) (h:LbI x l) (hv:0≤v.order∧v.order<x.orders.length):QkI x l v=some (loadL x l v):=by
 have hD:=Qrl hx
 have h100:=h.vis
 obtain ⟨j,hj⟩:∃ j:Nat,v.order=j:=⟨v.order.toNat,by omega⟩
 obtain ⟨o,o1,o2,o3,o4,o5⟩:=QrE hx (i:=j) (by omega)
 obtain ⟨l1,l2⟩:=Qxl hx h
 have hb:∀ d,d<Qc8 x.types→-4000000000≤l.load.getD d 0∧l.load.getD d 0≤4000000000:=fun d _=>by have:=l2 d; omega
 have hb2:∀ d,d<Qc8 x.types→-4000000000≤loadO x j d∧loadO x j d≤4000000000:=fun d _=>by have:=o4 d; omega
 unfold QkI loadL
 rw [show v.order.toNat=j by omega,hj,QaB o1,Qaj,Qaj,o3]
 cases v.drop with
 | true =>
  rw [Qbx]
  have:=QBH hD.2 hb hb2
  rw [← l1] at this
  rw [this,Qaj]
  simp
 | false =>
  rw [Qbb]
  have:=QAP hD.2 hb hb2
  rw [← l1] at this
  rw [this,Qaj]
  simp
theorem QrP:(loadL x l v).length=Qc8 x.types:=Qcw
theorem Qz1 (hx:Qa5 x) (h:LbI x l) (hs:stopV x v=some st) (hns:slowL x l st=false) :
  (arvL x l st.place).2.2=0∧l.time≤(arvL x l st.place).1∧(arvL x l st.place).1≤st.close∧0≤(arvL x l st.place).2.1∧(arvL x l st.place).2.1≤10000∧l.driven+(arvL x l st.place).1-l.time≤(typK0 x l.type_).drive:=by
 have ht:=h.t0 hx
 unfold slowL at hns
 simp only [Bool.or_eq_false_iff,neI_f,gtI_f] at hns
 have:=QuQ hx.net (profile:=(typK0 x l.type_).profile) (a:=l.place) (b:=st.place) (t:=l.time) ⟨ht.1,by omega⟩ hns.1.1
 unfold arvL at *
 omega
theorem QAv (hx:Qa5 x) (h:LbI x l) (h99:l.visits.length≤99) (hs:stopV x v=some st) (hf:fitB x l v=true) (hns:slowL x l st=false):LbI x (nextL x l v st)∧LbI x (restL (typK0 x l.type_) (nextL x l v st)):=by
 have ht:=h.t0 hx
 obtain ⟨t1,hT⟩:=Qs0 hx h
 have ho:=hT.opn
 have hr:=hT.rest
 have hdr:=hT.drive
 have h10:=hx.orders
 obtain ⟨g1,g2,g3,g4,g5,g6⟩:=Qz1 hx h hs hns
 have hS:=Qvf hx hs
 have s1:=hS.open0; have s2:=hS.open1; have s3:=hS.close; have s4:=hS.serv0; have s5:=hS.serv1
 have hd:=h.driven
 have hm:=h.miles
 have htime:=h.time
 have hv:=QtT hs
 obtain ⟨j,hj⟩:∃ j:Nat,v.order=j:=⟨v.order.toNat,by omega⟩
 obtain ⟨dn,hdn,hdn2⟩:=h.done
 obtain ⟨op,hop,hop2⟩:=h.open_
 have hj9:v.order.toNat<10:=by omega
 have l2:=(Qxl hx h).2
 have hload:∃ f:Nat→Int,loadL x l v=vecN (Qc8 x.types) f∧∀ d,-(10000+1000*((l.visits++[v]).length:Int))≤f d∧f d≤10000+1000*((l.visits++[v]).length:Int):=by
  refine ⟨_,rfl,fun d=>?_⟩
  have:=l2 d
  have:=QuU hx v.order.toNat d
  rw [List.length_append,List.length_singleton]
  split <;> omega
 have hdone:∃ n:Nat,((l.done.toNat ||| 2 ^ v.order.toNat:Nat):Int)=n∧n<1024:=⟨_,rfl,or_lt (by rw [hdn,Int.toNat_natCast]; exact hdn2) hj9⟩
 have hopen:∃ n:Nat,((openL x l v:Nat):Int)=n∧n<1024:=⟨_,rfl,by
  have:l.open_.toNat<1024:=by rw [hop,Int.toNat_natCast]; exact hop2
  unfold openL
  split
  ·exact QBV this hj9
  ·split
   ·exact or_lt this hj9
   ·exact this⟩
 have hlen:(l.visits++[v]).length=l.visits.length+1:=by simp
 constructor
 ·exact ⟨h.ty,by show (l.visits++[v]).length≤100; omega,by show _≤max _ _+_∧max _ _+_≤(12288:Int); exact ⟨Int.le_trans htime.1 (by omega),by omega⟩,by show 0≤l.driven+(arvL x l st.place).1-l.time∧l.driven+(arvL x l st.place).1-l.time≤(4096:Int); omega,by show 0≤l.miles+(arvL x l st.place).2.1∧l.miles+(arvL x l st.place).2.1≤10000*((l.visits++[v]).length:Int); omega,hload,hdone,hopen⟩
 ·exact ⟨h.ty,by show (l.visits++[v]).length≤100; omega,by show _≤max _ _+_+(typK0 x l.type_).rest_∧max _ _+_+(typK0 x l.type_).rest_≤(12288:Int); exact ⟨Int.le_trans htime.1 (by omega),by omega⟩,by show (0:Int)≤0∧(0:Int)≤4096; omega,by show 0≤l.miles+(arvL x l st.place).2.1∧l.miles+(arvL x l st.place).2.1≤10000*((l.visits++[v]).length:Int); omega,hload,hdone,hopen⟩
theorem Qyf (hx:Qa5 x) (h:LbI x l) (h99:l.visits.length≤99):Qiw x l v=some (extL x l v):=by
 have ht:=h.t0 hx
 have hd:=h.driven
 have hm:=h.miles
 obtain ⟨t1,hT⟩:=Qs0 hx h
 have hD:=Qrl hx
 have hr:=hT.rest
 unfold Qiw extL
 rw [QaO (by rw [Bool.or_eq_false_iff,ltI_f,geI_f,lenI]; have:=h.ty; omega),Quj,Qaj]
 cases hs:stopV x v with
 | none =>
  simp only
  rw [QbO (by split <;> rfl)]
 | some st =>
  have hv:=QtT hs
  simp only
  rw [QaO (by decide),Qy5 hx h hv,Qaj]
  cases hf:fitB x l v with
  | false=>rfl
  | true =>
   rw [Qbx,if_pos rfl,t1,Qaj,go_eq hx.net _ _ _ ⟨ht.1,by omega⟩,Qaj]
   have hg:goN x.net (typK0 x l.type_).profile l.place st.place l.time=arvL x l st.place:=rfl
   rw [hg]
   have hsl:((neI (arvL x l st.place).2.2 0||gtI (subK .i64 (addK .i64 l.driven (arvL x l st.place).1) l.time) (typK0 x l.type_).drive)||gtI (arvL x l st.place).1 st.close)=slowL x l st:=by
    unfold slowL
    cases h0:neI (arvL x l st.place).2.2 0 with
    | true=>simp
    | false =>
     rw [neI_f] at h0
     have:=QuQ hx.net (profile:=(typK0 x l.type_).profile) (a:=l.place) (b:=st.place) (t:=l.time) ⟨ht.1,by omega⟩ h0
     rw [hg] at this
     rw [addI (by omega) (by omega),subI (by omega) (by omega)]
   rw [hsl]
   cases hns:slowL x l st with
   | true=>rfl
   | false =>
    obtain ⟨g1,g2,g3,g4,g5,g6⟩:=Qz1 hx h hs hns
    have hS:=Qvf hx hs
    have s1:=hS.open0; have s2:=hS.open1; have s3:=hS.close; have s4:=hS.serv0; have s5:=hS.serv1
    obtain ⟨j,hj⟩:∃ j:Nat,v.order=j:=⟨v.order.toNat,by omega⟩
    obtain ⟨o,o1,o2,o3,o4,o5⟩:=QrE hx (i:=j) (by omega)
    obtain ⟨dn,hdn,hdn2⟩:=h.done
    obtain ⟨op,hop,hop2⟩:=h.open_
    have h10:=hx.orders
    have h2j:2 ^ j≤2 ^ 9:=Nat.pow_le_pow_right (by omega) (by omega)
    rw [Qbb,if_neg (by decide),(QtW hS (by omega) (by omega)).1,Qaj,if_neg (by omega),Qxm hx h hv,Qaj,QaO (show neI (0:Int) 0=false by decide)]
    have hlen:(loadL x l v).length=(typK0 x l.type_).cap.length:=by rw [QrP,hT.cap]
    rw [(Qs7 hlen (by rw [QrP]; omega)).1,Qaj]
    cases hov:overB (typK0 x l.type_).cap (loadL x l v) with
    | true=>rfl
    | false =>
     rw [Bool.not_false,Qbx,if_neg (by decide)]
     have hmk:mkI (lenI l.visits) (addK .i64 (lenI l.visits) 1) 16 (Qaa.mk 0 false)=some (List.replicate l.visits.length (Qaa.mk 0 false)):=by
      unfold mkI lenI
      rw [addI (by omega) (by omega),if_pos (by omega)]; rfl
     rw [hmk,Qaj,Qw0,Qb5 (by unfold okN; simp; omega),hj,cvuN (by omega),Qb5 (by omega),shlN (by omega)]
     have hfin:∀ q:Nat,openL x l v=q→QeO l v (st,0) (typK0 x l.type_) (arvL x l st.place) (max (arvL x l st.place).1 st.open_+st.service,0) (loadL x l v) (List.replicate l.visits.length (Qaa.mk 0 false)) (q:Int)=some (withL (typK0 x l.type_) (nextL x l v st)):=fun q hq=>by
      unfold QeO
      rw [Qw0,hj,cvuN (by omega),shlN (by omega)]
      have e1:subK .i64 (addK .i64 l.driven (arvL x l st.place).1) l.time=l.driven+(arvL x l st.place).1-l.time:=by rw [addI (by omega) (by omega),subI (by omega) (by omega)]
      have e2:addK .i64 l.miles (arvL x l st.place).2.1=l.miles+(arvL x l st.place).2.1:=addI (by omega) (by omega)
      have e3:orK .i64 l.done ((2 ^ j:Nat):Int)=((l.done.toNat ||| 2 ^ v.order.toNat:Nat):Int):=by rw [hj,hdn,orN (by omega) (by omega)]; simp
      simp only
      rw [e1,e2,e3,← hq]
      have hn:Qae.mk l.type_ (l.visits++[v]) st.place (max (arvL x l st.place).1 st.open_+st.service) (l.driven+(arvL x l st.place).1-l.time) (l.miles+(arvL x l st.place).2.1) (loadL x l v) ((l.done.toNat ||| 2 ^ v.order.toNat:Nat):Int) ((openL x l v:Nat):Int)=nextL x l v st:=rfl
      rw [hn]
      exact Qbg (QzJ (l:=nextL x l v st) (by show 0≤max (arvL x l st.place).1 st.open_+st.service∧max (arvL x l st.place).1 st.open_+st.service≤1000000; omega) hr)
     cases hdp:v.drop with
     | true =>
      have hb:l.open_.toNat.testBit j=true:=by
       unfold fitB at hf
       simp only [Bool.and_eq_true,hdp,if_pos] at hf
       have:=hf.2.2.1
       rw [hj,Qta] at this
       exact this
      rw [Qbx]
      rw [hop,QwL hop2 (by omega) (by rw [hop,Int.toNat_natCast] at hb; exact hb)]
      exact hfin _ (by unfold openL; rw [if_pos hdp,hop,hj]; simp)
     | false =>
      rw [Qbb,QaB o1,Qaj]
      cases hdr:geI o.drop.place 0 with
      | true =>
       rw [Qbx,hop,orN (by omega) (by omega)]
       exact hfin _ (by unfold openL dropP; rw [if_neg (by rw [hdp]; decide),show v.order.toNat=j by omega,o1]; simp only; rw [if_pos hdr,hop]; simp)
      | false =>
       rw [Qbb,hop]
       exact hfin _ (by unfold openL dropP; rw [if_neg (by rw [hdp]; decide),show v.order.toNat=j by omega,o1]; simp only; rw [if_neg (by rw [hdr]; decide),hop]; simp)
end
end Go.Proofs.YtfjiafgldchinaaGreatDoor
namespace Go.Proofs.YtfjiafgldchinaaGreatDoor
set_option linter.unusedSimpArgs false
set_option linter.unusedVariables false
set_option linter.unusedSectionVars false
section
variable {x : Qac} {l a b : Qae} {v : Qaa} {st : Qas} {m : Nat}
theorem QxR (hx:Qa5 x) (h:LbI x l) (ht:l.time≤12288) {l':Qae} (hty:l'.type_=l.type_) (h1:0≤l'.time∧l'.time≤1000000):Qdb x (qL l')=some ((withL (typK0 x l.type_) l').map qL):=by
 obtain ⟨t1,hT⟩:=Qs0 hx h
 have hr:=hT.rest
 unfold Qdb
 have:getI x.types (qL l').type_=some (typK0 x l.type_):=by show getI x.types l'.type_=_; rw [hty]; exact t1
 rw [this,Qaj]
 unfold withL restL qL
 simp only [List.map_cons,List.map_nil]
 rw [addI (by omega) (by omega)]
theorem QxN (hx:Qa5 x) (h:LbI x l) (h99:l.visits.length≤99):QfO x (qL l) v=some ((extL x l v).map qL):=by
 have ht:=h.t0 hx
 have hd:=h.driven
 have hm:=h.miles
 obtain ⟨t1,hT⟩:=Qs0 hx h
 have hD:=Qrl hx
 have hr:=hT.rest
 unfold QfO extL
 cases hs:stopV x v with
 | none =>
  obtain ⟨e,e1,e2⟩:=QxQ hx hs
  have:QeT x (qL l) v=some false:=by
   unfold QeT
   rw [e1,Qaj,QbO e2]
  rw [this]; rfl
 | some st =>
  have hv:=QtT hs
  rw [Qz2 hx h hs,Qaj]
  simp only
  cases hf:fitB x l v with
  | false=>rfl
  | true =>
   obtain ⟨j,hj⟩:∃ j:Nat,v.order=j:=⟨v.order.toNat,by omega⟩
   obtain ⟨o,o1,o2,o3,o4,o5⟩:=QrE hx (i:=j) (by omega)
   have hTy:getI x.types (qL l).type_=some (typK0 x l.type_):=t1
   rw [Qbx,if_pos rfl,hTy,Qaj,hj,QaB o1,Qaj,Quo hx hs,Qaj]
   show bnd (Qfj x.net (typK0 x l.type_).profile l.place st.place l.time) _=_
   rw [Qti hx.net _ _ _ ⟨ht.1,by omega⟩,Qaj]
   have hg:goN x.net (typK0 x l.type_).profile l.place st.place l.time=arvL x l st.place:=rfl
   rw [hg]
   show br (neI (arvL x l st.place).2.2 0||gtI (subK .i64 (addK .i64 l.driven (arvL x l st.place).1) l.time) (typK0 x l.type_).drive) _ _=_
   cases h0:neI (arvL x l st.place).2.2 0 with
   | true =>
    rw [Bool.true_or,Qbx,if_pos (by unfold slowL; rw [h0]; rfl)]; rfl
   | false =>
    have hb:=QuQ hx.net (profile:=(typK0 x l.type_).profile) (a:=l.place) (b:=st.place) (t:=l.time) ⟨ht.1,by omega⟩ (by rw [hg]; simpa using h0)
    rw [hg] at hb
    rw [Bool.false_or,addI (by omega) (by omega),subI (by omega) (by omega)]
    cases h1:gtI (l.driven+(arvL x l st.place).1-l.time) (typK0 x l.type_).drive with
    | true =>
     rw [Qbx,if_pos (by unfold slowL; rw [h0,h1]; rfl)]; rfl
    | false =>
     have hS:=Qvf hx hs
     have s1:=hS.open0; have s2:=hS.open1; have s3:=hS.close; have s4:=hS.serv0; have s5:=hS.serv1
     rw [Qbb,(QtW hS (by omega) (by omega)).2,Qaj]
     cases h2:gtI (arvL x l st.place).1 st.close with
     | true =>
      rw [if_pos (by simpa using h2),QbO (by decide),if_pos (by unfold slowL; rw [h0,h1,h2]; rfl)]; rfl
     | false =>
      have hns:slowL x l st=false:=by unfold slowL; rw [h0,h1,h2]; rfl
      obtain ⟨g1,g2,g3,g4,g5,g6⟩:=Qz1 hx h hs hns
      rw [if_neg (by simpa using h2),QaO (show neI (0:Int) 0=false by decide),if_neg (by rw [hns]; decide)]
      obtain ⟨l1,l2⟩:=Qxl hx h
      have hbd:∀ d,d<Qc8 x.types→-4000000000≤l.load.getD d 0∧l.load.getD d 0≤4000000000:=fun d _=>by have:=l2 d; omega
      have hb2:∀ d,d<Qc8 x.types→-4000000000≤loadO x j d∧loadO x j d≤4000000000:=fun d _=>by have:=o4 d; omega
      have hadd:=QzK hD.2 hbd hb2
      have hsub:=QzP hD.2 hbd hb2
      rw [← l1,← o3] at hadd hsub
      have hjj:v.order.toNat=j:=by omega
      obtain ⟨dn,hdn,hdn2⟩:=h.done
      obtain ⟨op,hop,hop2⟩:=h.open_
      have h10:=hx.orders
      have h2j:2 ^ j≤2 ^ 9:=Nat.pow_le_pow_right (by omega) (by omega)
      have hlen:(loadL x l v).length=(typK0 x l.type_).cap.length:=by rw [QrP,hT.cap]
      have J1:Qcb x (qL l) v (typK0 x l.type_) o (st,0) (arvL x l st.place) (max (arvL x l st.place).1 st.open_+st.service,0) (loadL x l v) 0=some ((if overB (typK0 x l.type_).cap (loadL x l v)=true then [] else withL (typK0 x l.type_) (nextL x l v st)).map qL):=by
       unfold Qcb
       rw [QaO (by decide),(Qs7 hlen (by rw [QrP]; omega)).2,Qaj]
       cases hov:overB (typK0 x l.type_).cap (loadL x l v) with
       | true=>rfl
       | false =>
        rw [Bool.not_false,Qbx,if_neg (by decide),hj,QzL (by omega),Qaj]
        show chk (okN l.visits.length 16) (chk (okN (l.visits++[v]).length 16) _)=_
        rw [Qb5 (by unfold okN; omega),Qb5 (by unfold okN; simp; omega)]
        have hfin:∀ q:Nat,openL x l v=q→QcJ x (qL l) v (st,0) (arvL x l st.place) (max (arvL x l st.place).1 st.open_+st.service,0) (loadL x l v) ((2 ^ j:Nat):Int) (q:Int)=some ((withL (typK0 x l.type_) (nextL x l v st)).map qL):=fun q hq=>by
         unfold QcJ
         have e1:subK .i64 (addK .i64 (qL l).driven (arvL x l st.place).1) (qL l).time=l.driven+(arvL x l st.place).1-l.time:=by show subK .i64 (addK .i64 l.driven (arvL x l st.place).1) l.time=_; rw [addI (by omega) (by omega),subI (by omega) (by omega)]
         have e2:addK .i64 (qL l).miles (arvL x l st.place).2.1=l.miles+(arvL x l st.place).2.1:=addI (a:=l.miles) (by omega) (by omega)
         have e3:orK .i64 (qL l).done ((2 ^ j:Nat):Int)=((l.done.toNat ||| 2 ^ v.order.toNat:Nat):Int):=by show orK .i64 l.done _=_; rw [hjj,hdn,orN (by omega) (by omega)]; simp
         simp only
         rw [e1,e2,e3,← hq]
         have hn:Qad.mk (qL l).type_ ((qL l).visits++[v]) st.place (max (arvL x l st.place).1 st.open_+st.service) (l.driven+(arvL x l st.place).1-l.time) (l.miles+(arvL x l st.place).2.1) (loadL x l v) ((l.done.toNat ||| 2 ^ v.order.toNat:Nat):Int) ((openL x l v:Nat):Int)=qL (nextL x l v st):=rfl
         rw [hn,QxR hx h ht.2 (l':=nextL x l v st) rfl (by show 0≤max (arvL x l st.place).1 st.open_+st.service∧max (arvL x l st.place).1 st.open_+st.service≤1000000; omega),Qaj]
        cases hdp:v.drop with
        | true =>
         have hb:l.open_.toNat.testBit j=true:=by
          unfold fitB at hf
          simp only [Bool.and_eq_true,hdp,if_pos] at hf
          have:=hf.2.2.1
          rw [hj,Qta] at this
          exact this
         rw [Qbx,Qaj]
         have hxb:=QBD hb
         have e:subK .i64 (qL l).open_ ((2 ^ j:Nat):Int)=((l.open_.toNat ^^^ 2 ^ j:Nat):Int):=by
          show subK .i64 l.open_ _=_
          have hlo:l.open_=((l.open_.toNat:Nat):Int):=by rw [hop]; simp
          generalize l.open_.toNat ^^^ 2 ^ j=q at hxb ⊢
          generalize 2 ^ j=p at hxb h2j ⊢
          rw [hlo,subI (by omega) (by omega)]
          omega
         rw [e]
         exact hfin _ (by unfold openL; rw [if_pos hdp,hjj])
        | false =>
         rw [Qbb]
         cases hdr:geI o.drop.place 0 with
         | true =>
          rw [Qbx,Qaj]
          have e:orK .i64 (qL l).open_ ((2 ^ j:Nat):Int)=((l.open_.toNat ||| 2 ^ j:Nat):Int):=by show orK .i64 l.open_ _=_; rw [hop,orN (by omega) (by omega)]; simp
          rw [e]
          exact hfin _ (by unfold openL dropP; rw [if_neg (by rw [hdp]; decide),hjj,o1]; simp only; rw [if_pos hdr])
         | false =>
          rw [Qbb]
          have e:(qL l).open_=((l.open_.toNat:Nat):Int):=by show l.open_=_; rw [hop]; simp
          rw [e]
          exact hfin _ (by unfold openL dropP; rw [if_neg (by rw [hdp]; decide),hjj,o1]; simp only; rw [if_neg (by rw [hdr]; decide)])
      show bnd (QgB l.load o.load) _=_
      rw [hadd,Qaj]
      cases hdp:v.drop with
      | true =>
       have:bnd (Qfs (qL l).load o.load) (fun r5=>Qcb x (qL l) v (typK0 x l.type_) o (st,0) (arvL x l st.place) (max (arvL x l st.place).1 st.open_+st.service,0) r5.1 r5.2)=Qcb x (qL l) v (typK0 x l.type_) o (st,0) (arvL x l st.place) (max (arvL x l st.place).1 st.open_+st.service,0) (loadL x l v) 0:=by
        show bnd (Qfs l.load o.load) _=_
        rw [hsub,Qaj]
        simp only
        congr 1
        unfold loadL
        exact QfP fun d _=>by rw [hdp,if_pos rfl,hjj]
       rw [Qbx,this,J1]
      | false =>
       rw [Qbb,← J1]
       simp only
       congr 1
       unfold loadL
       exact QfP fun d _=>by rw [hdp,if_neg (by decide),hjj]
noncomputable def endL (x:Qac) (l:Qae):Int×Int×Int:=goN x.net (typK0 x l.type_).profile l.place (typK0 x l.type_).to_ l.time
def Qpp (l:Qae):QaF:=QaF.mk l.type_ 0 [] l.visits
noncomputable def Qva (x:Qac) (l:Qae):Qa0:=Qa0.mk false 0 [] (endL x l).1 (l.miles+(endL x l).2.1)
def QsP (s:QaL):Int:=((s.cost*16+s.moved)*16+s.other)*65536+s.work
noncomputable def okL (x:Qac) (l:Qae):Bool:=!(eqI (lenI l.visits) 0||neI l.open_ 0)&&!(neI (endL x l).2.2 0||gtI (l.driven+(endL x l).1-l.time) (typK0 x l.type_).drive||gtI (endL x l).1 (typK0 x l.type_).close)
noncomputable def Qwi (x:Qac) (l:Qae):Int×Int×Bool :=
 if okL x l=true then ((endL x l).1,QsP (scoS x (Qpp l) (Qva x l)),true) else (0,0,false)
theorem Qzf {s:QaL} (h1:0≤s.cost∧s.cost≤1073741824) (h2:0≤s.moved∧s.moved≤15) (h3:0≤s.other∧s.other≤15) (h4:0≤s.work∧s.work≤65535):QfA s=some (QsP s,0)∧QdT s=some (QsP s,0):=by
 have key:QfA s=some (QsP s,0):=by
  unfold QfA QmM QsP
  rw [Qaj,QaO (by simp; omega),QaO (by simp; omega),QaO (by simp; omega),QaO (by simp; omega),QaO (by simp only [Bool.or_eq_false_iff,gtI_f,geI_f]; omega),
   mulI (a:=s.cost) (by omega) (by omega),addI (a:=s.cost*16) (by omega) (by omega),mulI (a:=s.cost*16+s.moved) (by omega) (by omega),addI (a:=(s.cost*16+s.moved)*16) (by omega) (by omega),mulI (a:=(s.cost*16+s.moved)*16+s.other) (by omega) (by omega),addI (a:=((s.cost*16+s.moved)*16+s.other)*65536) (by omega) (by omega)]
 obtain ⟨w,w1,w2⟩:=Qyi s
 rw [key] at w1
 cases w1
 exact ⟨key,w2⟩
theorem QzY (hx:Qa5 x) (h:LbI x l) (h0:(endL x l).2.2=0) (hc:(endL x l).1≤(typK0 x l.type_).close):(typK0 x l.type_).open_≤(endL x l).1∧l.time≤(endL x l).1∧(endL x l).1≤4096∧0≤(endL x l).2.1∧(endL x l).2.1≤10000:=by
 have ht:=h.t0 hx
 have h1:=h.time
 have hT:=(Qs0 hx h).2
 have:=hT.close
 have hb:=QuQ hx.net (profile:=(typK0 x l.type_).profile) (a:=l.place) (b:=(typK0 x l.type_).to_) (t:=l.time) ⟨ht.1,by omega⟩ h0
 unfold endL at *
 omega
theorem QAK {f:Nat→Bool}:∀ n,0≤sumN n (fun i=>bit1 (f i))∧sumN n (fun i=>bit1 (f i))≤n:=fun n=>by
 have:=Qv9 (f:=fun i=>bit1 (f i)) (c:=1) (by omega) n fun i=>Qs2
 omega
theorem QxW (hx:Qa5 x) (h:LbI x l) (h0:(endL x l).2.2=0) (hc:(endL x l).1≤(typK0 x l.type_).close) :
  QfA (scoS x (Qpp l) (Qva x l))=some (QsP (scoS x (Qpp l) (Qva x l)),0)∧QdT (scoS x (Qpp l) (Qva x l))=some (QsP (scoS x (Qpp l) (Qva x l)),0):=by
 have hT:=(Qs0 hx h).2
 obtain ⟨e1,e2,e3,e4,e5⟩:=QzY hx h h0 hc
 have hm:=h.miles
 have h100:=h.vis
 have ho:=hT.opn
 have h1:=hT.fixed; have h2:=hT.perMile; have h3:=hT.perTick
 have hty:typS x (Qpp l)=typK0 x l.type_:=rfl
 have hfew:=QvU (r:=Qpp l) hx (Qpp l).visits.length (Nat.le_refl _)
 have hbd:=QtF (x:=x) (r:=Qpp l) (Qpp l).visits.length
 have hn:=hx.orders
 have hs:=QAK (f:=fun i=>hasO ((Qpp l).visits.take (Qpp l).visits.length) (i:Int)) x.orders.length
 refine Qzf ?_ ?_ ?_ ?_
 ·unfold scoS
  simp only
  rw [hty]
  have hmm:0≤(typK0 x l.type_).perMile*(l.miles+(endL x l).2.1)∧(typK0 x l.type_).perMile*(l.miles+(endL x l).2.1)≤100*1010000:=⟨Int.mul_nonneg h2.1 (by omega),Int.mul_le_mul h2.2 (by omega) (by omega) (by omega)⟩
  have htt:0≤(typK0 x l.type_).perTick*((endL x l).1-(typK0 x l.type_).open_)∧(typK0 x l.type_).perTick*((endL x l).1-(typK0 x l.type_).open_)≤100*4096:=⟨Int.mul_nonneg h3.1 (by omega),Int.mul_le_mul h3.2 (by omega) (by omega) (by omega)⟩
  show 0≤addK .i64 (addK .i64 (typK0 x l.type_).fixed (mulK .i64 (typK0 x l.type_).perMile (l.miles+(endL x l).2.1))) (mulK .i64 (typK0 x l.type_).perTick (subK .i64 (endL x l).1 (typK0 x l.type_).open_))∧addK .i64 (addK .i64 (typK0 x l.type_).fixed (mulK .i64 (typK0 x l.type_).perMile (l.miles+(endL x l).2.1))) (mulK .i64 (typK0 x l.type_).perTick (subK .i64 (endL x l).1 (typK0 x l.type_).open_))≤1073741824
  rw [subI (by omega) (by omega),mulI (by omega) (by omega),mulI (by omega) (by omega),addI (a:=(typK0 x l.type_).fixed) (by omega) (by omega),addI (by omega) (by omega)]
  omega
 ·unfold scoS; simp only; omega
 ·unfold scoS; simp only; omega
 ·unfold scoS
  simp only
  rw [hty]
  show 0≤mulK .i64 (quoK .i64 (subK .i64 (endL x l).1 (typK0 x l.type_).open_) 64) (quoK .i64 (subK .i64 (endL x l).1 (typK0 x l.type_).open_) 64)∧mulK .i64 (quoK .i64 (subK .i64 (endL x l).1 (typK0 x l.type_).open_) 64) (quoK .i64 (subK .i64 (endL x l).1 (typK0 x l.type_).open_) 64)≤65535
  rw [subI (by omega) (by omega)]
  obtain ⟨d,hd⟩:∃ d:Nat,(endL x l).1-(typK0 x l.type_).open_=d:=⟨((endL x l).1-(typK0 x l.type_).open_).toNat,by omega⟩
  rw [hd,show (64:Int)=((64:Nat):Int) from rfl,quoN (by omega)]
  have hq:d / 64≤64:=by omega
  have hq2:(d / 64)*(d / 64)≤64*64:=Nat.mul_le_mul hq hq
  generalize d / 64=q at hq hq2
  have e:(q:Int)*(q:Int)=((q*q:Nat):Int):=by simp
  rw [mulI (by rw [e]; omega) (by rw [e]; omega),e]
  omega
theorem Qvj (hx:Qa5 x) (h:LbI x l):QkA x l=some (Qwi x l)∧Qgr x (qL l)=some (Qwi x l):=by
 have ht:=h.t0 hx
 have hty:=h.ty
 have h100:=h.vis
 have hd:=h.driven
 have hm:=h.miles
 obtain ⟨t1,hT⟩:=Qs0 hx h
 have hTy:getI x.types (qL l).type_=some (typK0 x l.type_):=t1
 have hg:goN x.net (typK0 x l.type_).profile l.place (typK0 x l.type_).to_ l.time=endL x l:=rfl
 have hsl:((neI (endL x l).2.2 0||gtI (subK .i64 (addK .i64 l.driven (endL x l).1) l.time) (typK0 x l.type_).drive)||gtI (endL x l).1 (typK0 x l.type_).close)=((neI (endL x l).2.2 0||gtI (l.driven+(endL x l).1-l.time) (typK0 x l.type_).drive)||gtI (endL x l).1 (typK0 x l.type_).close):=by
  cases h0:neI (endL x l).2.2 0 with
  | true=>simp
  | false =>
   rw [neI_f] at h0
   have:=QuQ hx.net (profile:=(typK0 x l.type_).profile) (a:=l.place) (b:=(typK0 x l.type_).to_) (t:=l.time) ⟨ht.1,by omega⟩ h0
   rw [hg] at this
   rw [addI (by omega) (by omega),subI (by omega) (by omega)]
 have hroute:0≤(Qpp l).type_∧(Qpp l).type_<x.types.length:=hty
 constructor
 ·unfold QkA Qwi okL
  have e0:((((eqI (lenI l.visits) 0)||(neI l.open_ 0))||(ltI l.type_ 0))||(geI l.type_ (lenI x.types)))=(eqI (lenI l.visits) 0||neI l.open_ 0):=by
   rw [show ltI l.type_ 0=false by simp; omega,show geI l.type_ (lenI x.types)=false by simp [lenI]; omega]; simp
  rw [e0]
  cases (eqI (lenI l.visits) 0||neI l.open_ 0) with
  | true=>rfl
  | false =>
   rw [Qbb,t1,Qaj,go_eq hx.net _ _ _ ⟨ht.1,by omega⟩,Qaj,hg,hsl]
   cases hno:((neI (endL x l).2.2 0||gtI (l.driven+(endL x l).1-l.time) (typK0 x l.type_).drive)||gtI (endL x l).1 (typK0 x l.type_).close) with
   | true=>rfl
   | false =>
    simp only [Bool.or_eq_false_iff,neI_f,gtI_f] at hno
    obtain ⟨e1,e2,e3,e4,e5⟩:=QzY hx h hno.1.1 hno.2
    rw [Qbb,addI (a:=l.miles) (by omega) (by omega)]
    show bnd (QkD x (Qpp l) (Qva x l)) _=_
    rw [QzO hx (by show l.visits.length≤_; omega) hroute,Qaj,(QxW hx h hno.1.1 hno.2).1,Qaj,QaO (show neI (0:Int) 0=false by decide)]
    rfl
 ·unfold Qgr Qwi okL
  show br (eqI (lenI l.visits) 0||neI l.open_ 0) _ _=_
  cases (eqI (lenI l.visits) 0||neI l.open_ 0) with
  | true=>rfl
  | false =>
   rw [Qbb,hTy,Qaj]
   show bnd (Qfj x.net (typK0 x l.type_).profile l.place (typK0 x l.type_).to_ l.time) _=_
   rw [Qti hx.net _ _ _ ⟨ht.1,by omega⟩,Qaj,hg]
   show br ((neI (endL x l).2.2 0||gtI (subK .i64 (addK .i64 l.driven (endL x l).1) l.time) (typK0 x l.type_).drive)||gtI (endL x l).1 (typK0 x l.type_).close) _ _=_
   rw [hsl]
   cases hno:((neI (endL x l).2.2 0||gtI (l.driven+(endL x l).1-l.time) (typK0 x l.type_).drive)||gtI (endL x l).1 (typK0 x l.type_).close) with
   | true=>rfl
   | false =>
    simp only [Bool.or_eq_false_iff,neI_f,gtI_f] at hno
    obtain ⟨e1,e2,e3,e4,e5⟩:=QzY hx h hno.1.1 hno.2
    rw [Qbb]
    have em:addK .i64 (qL l).miles (endL x l).2.1=l.miles+(endL x l).2.1:=addI (a:=l.miles) (by omega) (by omega)
    rw [em]
    show bnd (Qfa x (Qpp l) (Qva x l)) _=_
    rw [QwH hx (by show l.visits.length≤_; omega) hroute,Qaj,(QxW hx h hno.1.1 hno.2).2,Qaj]
    rfl
def domB (a b:Qae):Bool:=!(neI a.type_ b.type_||neI a.place b.place||neI a.done b.done||neI a.open_ b.open_)&&(leI a.time b.time&&leI a.driven b.driven&&leI a.miles b.miles&&!overB b.load a.load)
theorem QBF (ha:a.load.length=b.load.length) (hl:a.load.length≤1048576):Qd1 a b=some (domB a b)∧QcI (qL a) (qL b)=some (domB a b):=by
 constructor
 ·unfold Qd1 domB
  cases (neI a.type_ b.type_||neI a.place b.place||neI a.done b.done||neI a.open_ b.open_) with
  | true=>rfl
  | false =>
   rw [Qbb]
   cases (leI a.time b.time&&leI a.driven b.driven&&leI a.miles b.miles) with
   | false=>rfl
   | true=>rw [Qbx,(Qs7 ha hl).1]; rfl
 ·have hfit:=(Qs7 ha hl).2
  unfold QcI domB
  show br (((((neI a.type_ b.type_)||(neI a.place b.place))||(neI a.done b.done))||(neI a.open_ b.open_))||(neI (lenI a.load) (lenI b.load))) _ _=_
  rw [show neI (lenI a.load) (lenI b.load)=false by simp [lenI,ha],Bool.or_false]
  cases (neI a.type_ b.type_||neI a.place b.place||neI a.done b.done||neI a.open_ b.open_) with
  | true=>rfl
  | false =>
   rw [Qbb]
   have hb:overB b.load a.load=true↔∃ k,k<a.load.length∧gtI (a.load.getD k 0) (b.load.getD k 0)=true:=by
    unfold overB
    rw [List.any_eq_true]
    exact ⟨fun ⟨k,hk,h⟩=>⟨k,List.mem_range.1 hk,h⟩,fun ⟨k,hk,h⟩=>⟨k,List.mem_range.2 hk,h⟩⟩
   have g:∀ i,i<a.load.length→a.load[i]?=some (a.load.getD i 0)∧b.load[i]?=some (b.load.getD i 0):=fun i hi=>by
    rw [List.getD_eq_getElem?_getD,List.getD_eq_getElem?_getD,List.getElem?_eq_getElem hi,List.getElem?_eq_getElem (show i<b.load.length by omega)]
    exact ⟨rfl,rfl⟩
   rw [Qbg (Qur (B:=fun s=>Qdg (qL a) (qL b) s) hl (fun k=>gtI (a.load.getD k 0) (b.load.getD k 0)) (y:=(.inr false:Unit⊕Bool)) (N:=.inl ()) hb (fun i hi=>by
    show br (ltI (i:Int) (lenI a.load)) (bnd (getI a.load (i:Int)) fun x0=>bnd (getI b.load (i:Int)) fun x1=>_) _=_
    rw [Qbh (g i hi).1,QaB (g i hi).2,Qaj,inc hi hl,brs]) (by
    show br (ltI (a.load.length:Int) (lenI a.load)) _ _=_
    rw [QaV]))]
   cases overB b.load a.load with
   | true=>rw [if_pos rfl]; simp
   | false=>rw [if_neg (by decide)]; simp; rfl
end
end Go.Proofs.YtfjiafgldchinaaGreatDoor
namespace Go.Proofs.YtfjiafgldchinaaGreatDoor
set_option linter.unusedSimpArgs false
set_option linter.unusedVariables false
set_option linter.unusedSectionVars false
section
variable {x : Qac} {l a b : Qae} {v : Qaa} {st : Qas} {m : Nat} {kind : Int}
theorem QA1:Qel=some true:=by kernel_rfl
theorem few31 (hI:InstI x):post (QhI x) fun ok=>ok=true→Qa5 x∧x.orders.length≤6:=by
 unfold QhI
 refine QaC (fun h6=>QaU (QuK hI) fun r hr=>Qay.2 fun h=>?_) (fun _=>Qay.2 fun h=>by cases h)
 rw [eqI_t,lenI] at h
 rw [leI_t,lenI] at h6
 exact ⟨hr (List.length_eq_zero_iff.1 (by omega)),by omega⟩
theorem Qyy (hx:Qa5 x) (h:LbI x l) (h99:l.visits.length≤99):extL x l v=[]∨∃ n,extL x l v=withL (typK0 x l.type_) n∧LbI x n∧LbI x (restL (typK0 x l.type_) n)∧n.visits=l.visits++[v]∧n.type_=l.type_:=by
 unfold extL
 cases hs:stopV x v with
 | none=>exact .inl rfl
 | some st =>
  simp only
  cases hf:fitB x l v with
  | false=>exact .inl rfl
  | true =>
   rw [if_pos rfl]
   cases hsl:slowL x l st with
   | true=>exact .inl rfl
   | false =>
    rw [if_neg (by decide)]
    split
    ·exact .inl rfl
    ·obtain ⟨h1,h2⟩:=QAv hx h h99 hs hf hsl
     exact .inr ⟨_,rfl,h1,h2,rfl,rfl⟩
theorem QzT (hx:Qa5 x) (hm:mayB x kind m=true):LbI x (baseL x kind m)∧LbI x (restL (typK0 x kind) (baseL x kind m)):=by
 unfold mayB at hm
 rw [Bool.and_eq_true,decide_eq_true_eq] at hm
 obtain ⟨⟨h0,h1,h2,h3⟩,-⟩:=hm
 have hT:=QwD hx h0 h1
 have ho:=hT.opn
 have hc:=hT.close
 have hr:=hT.rest
 have h10:=hx.orders
 have hlen:=Qmh (m:=m) x.orders.length
 have hp:2 ^ x.orders.length≤2 ^ 10:=Nat.pow_le_pow_right (by omega) h10
 have hl:∃ f:Nat→Int,(baseL x kind m).load=vecN (Qc8 x.types) f∧∀ d,-(10000+1000*(([]:List Qaa).length:Int))≤f d∧f d≤10000+1000*(([]:List Qaa).length:Int):=⟨_,rfl,fun d=>by
  have:=Qv7 (f:=stO x d) (l:=memS m x.orders.length) fun a _=>QBw hx d a
  simp only [List.length_nil]
  omega⟩
 have ho2:∃ n:Nat,((openS x m x.orders.length:Nat):Int)=n∧n<1024:=⟨_,rfl,by have:=Qsp (x:=x) (m:=m) x.orders.length; omega⟩
 have hd:∃ n:Nat,(0:Int)=n∧n<1024:=⟨0,rfl,by omega⟩
 exact ⟨⟨⟨h0,h1⟩,Nat.zero_le _,by show (typK0 x kind).open_≤(typK0 x kind).open_∧(typK0 x kind).open_≤12288; omega,by show (0:Int)≤0∧(0:Int)≤4096; omega,by show (0:Int)≤0∧(0:Int)≤10000*(([]:List Qaa).length:Int); simp,hl,hd,ho2⟩,
  ⟨⟨h0,h1⟩,Nat.zero_le _,by show (typK0 x kind).open_≤(typK0 x kind).open_+(typK0 x kind).rest_∧(typK0 x kind).open_+(typK0 x kind).rest_≤12288; omega,by show (0:Int)≤0∧(0:Int)≤4096; omega,by show (0:Int)≤0∧(0:Int)≤10000*(([]:List Qaa).length:Int); simp,hl,hd,ho2⟩⟩
theorem QwC (hx:Qa5 x):Qhg x kind m=[]∨(Qhg x kind m=withL (typK0 x kind) (baseL x kind m)∧mayB x kind m=true∧LbI x (baseL x kind m)∧LbI x (restL (typK0 x kind) (baseL x kind m))):=by
 unfold Qhg
 by_cases hm:mayB x kind m=true
 ·rw [if_pos hm]
  split
  ·exact .inl rfl
  ·exact .inr ⟨rfl,hm,QzT hx hm⟩
 ·rw [if_neg hm]; exact .inl rfl
theorem Quz {α E:Type} {l:List α} {B:Int→Option (Int⊕E)} {N:E} (hl:l.length≤1048576) (hin:∀ (i:Nat) (a:α),l[i]?=some a→B (i:Int)=some (.inl ((i:Int)+1))) (hend:B (l.length:Int)=some (.inr N)):loopF B 0=some N :=
 QcQ l.length (fun k=>(k:Int)) (B:=B) (by omega) (fun i hi=>by rw [hin i _ (List.getElem?_eq_getElem hi)]; rfl) hend
theorem QBG (hv:l.visits.length≤1048576) (hl:l.load.length≤1048576):QfT (qL l) (qL l)=some true:=by
 unfold QfT
 have e1:loopF (fun s=>Qek (qL l) (qL l) s) 0=some (.inl ()):=Quz (l:=l.visits) (B:=fun s=>Qek (qL l) (qL l) s) hv (fun i a h=>by
  show br (ltI (i:Int) (lenI l.visits)) (bnd (getI l.visits (i:Int)) fun x0=>bnd (getI l.visits (i:Int)) fun x1=>_) _=_
  rw [Qbh h,QaB h,Qaj,QbO (by simp),incL h hv]) (by
  show br (ltI (l.visits.length:Int) (lenI l.visits)) _ _=_
  rw [QaV])
 have e2:loopF (fun s=>Qdm (qL l) (qL l) s) 0=some (.inl ()):=Quz (l:=l.load) (B:=fun s=>Qdm (qL l) (qL l) s) hl (fun i a h=>by
  show br (ltI (i:Int) (lenI l.load)) (bnd (getI l.load (i:Int)) fun x0=>bnd (getI l.load (i:Int)) fun x1=>_) _=_
  rw [Qbh h,QaB h,Qaj,QaO (by simp),incL h hl]) (by
  show br (ltI (l.load.length:Int) (lenI l.load)) _ _=_
  rw [QaV])
 rw [QaO (by simp),Qbg e1,Qdd,Qbg e2,Qdd]
 simp
theorem LbI.short (hx:Qa5 x) (h:LbI x l):l.visits.length≤1048576∧l.load.length≤1048576:=by
 obtain ⟨f,hf,_⟩:=h.load
 have:=h.vis
 have:=(Qrl hx).2
 exact ⟨by omega,by rw [hf,Qcw]; omega⟩
theorem QAE (hx:Qa5 x) {L:List Qae} (hL:∀ l∈L,LbI x l) (hl:L.length≤1048576):Qd4 L (L.map qL)=some true:=by
 unfold Qd4
 rw [QaO (by simp [lenI]),Qbg (Quz (l:=L) (B:=fun s=>Qco L (L.map qL) s) (N:=(.inl ():Unit⊕Bool)) hl (fun i a h=>by
  have hb:=(hL a (List.mem_of_getElem? h)).short hx
  have h2:(L.map qL)[i]?=some (qL a):=by rw [List.getElem?_map,h]; rfl
  show Qco L (L.map qL) i=_
  unfold Qco QhJ
  rw [Qbh h,Qaj,QaB h2,Qaj]
  show bnd (QfT (qL a) (qL a)) _=_
  rw [QBG hb.1 hb.2,Qaj,Qbx,incL h hl]) (by
  show Qco L (L.map qL) L.length=_
  unfold Qco
  rw [QaV]))]
 rfl
theorem Qtx (h:LbI x l):l.load.length=Qc8 x.types:=by
 obtain ⟨f,hf,_⟩:=h.load
 rw [hf,Qcw]
def TwoL (x:Qac) (k:Nat) (L:List Qae):Prop:=L=[]∨∃ a b,L=[a,b]∧LbI x a∧LbI x b∧a.visits.length≤k∧b.visits.length≤k
theorem TwoL.all {k:Nat} {L:List Qae} (h:TwoL x k L):(∀ l∈L,LbI x l)∧L.length≤2:=by
 rcases h with rfl|⟨a,b,rfl,h1,h2,_⟩
 ·exact ⟨fun l hl=>(by cases hl),by simp⟩
 ·refine ⟨fun l hl=>?_,by simp⟩
  rcases List.mem_cons.1 hl with rfl|hl
  ·exact h1
  ·rw [List.mem_singleton.1 hl]; exact h2
end
end Go.Proofs.YtfjiafgldchinaaGreatDoor
