/- Part MX of the proof: texts Yua Yub Yuc Yud Yue Yva Yvb Yvc Yvd Yve Yvf Yvg Yvh Yvi Yvj Yvk. -/
import Derived.Test.YtpkkaboonnedfaaGreatDoorMR
namespace Go.Proofs.YtpkkaboonnedfaaGreatDoor
set_option linter.unusedSimpArgs false
set_option linter.unusedVariables false
set_option linter.unusedSectionVars false
def ltV (a b:Qaa):Bool:=ltI a.order b.order||(eqI a.order b.order&&(!a.drop&&b.drop))
theorem ltV_t {a b:Qaa}:ltV a b=true↔a.order<b.order∨(a.order=b.order∧a.drop=false∧b.drop=true):=by
 unfold ltV
 simp
theorem QCd {a:Qaa}:ltV a a=false:=by
 rw [Bool.eq_false_iff]
 intro h
 rw [ltV_t] at h
 rcases h with h|⟨_,h1,h2⟩
 ·omega
 ·rw [h1] at h2; cases h2
theorem QBv {a b c:Qaa} (h1:ltV a b=true) (h2:ltV b c=true):ltV a c=true:=by
 rw [ltV_t] at *
 rcases h1 with h1|⟨h1,h3,h4⟩ <;> rcases h2 with h2|⟨h2,h5,h6⟩
 ·exact .inl (by omega)
 ·exact .inl (by omega)
 ·exact .inl (by omega)
 ·rw [h4] at h5; cases h5
theorem QDZ (a b:Qaa):a=b∨ltV a b=true∨ltV b a=true:=by
 rcases Int.lt_trichotomy a.order b.order with h|h|h
 ·exact .inr (.inl (ltV_t.2 (.inl h)))
 ·cases ha:a.drop <;> cases hb:b.drop
  ·exact .inl (by cases a; cases b; simp_all)
  ·exact .inr (.inl (ltV_t.2 (.inr ⟨h,ha,hb⟩)))
  ·exact .inr (.inr (ltV_t.2 (.inr ⟨h.symm,hb,ha⟩)))
  ·exact .inl (by cases a; cases b; simp_all)
 ·exact .inr (.inr (ltV_t.2 (.inl h)))
def lessV:List Qaa→List Qaa→Bool
 | [],[]=>false
 | [],_ :: _=>true
 | _ :: _,[]=>false
 | a :: l,b :: m=>ltV a b||(decide (a=b)&&lessV l m)
theorem Qx5:∀ {l:List Qaa},lessV l l=false
 | []=>rfl
 | a :: l=>by unfold lessV; rw [QCd,Qx5]; simp
theorem Qvr:∀ {a b c:List Qaa},lessV a b=true→lessV b c=true→lessV a c=true
 | [],[],_,h,_=>by cases h
 | _ :: _,[],_,h,_=>by cases h
 | [],_ :: _,[],_,h=>by cases h
 | [],_ :: _,_ :: _,_,_=>rfl
 | _ :: _,_ :: _,[],_,h=>by cases h
 | x :: a,y :: b,z :: c,h1,h2=>by
  unfold lessV at *
  simp only [Bool.or_eq_true,Bool.and_eq_true,decide_eq_true_iff] at *
  rcases h1 with h1|⟨rfl,h1⟩
  ·rcases h2 with h2|⟨rfl,h2⟩
   ·exact .inl (QBv h1 h2)
   ·exact .inl h1
  ·rcases h2 with h2|⟨rfl,h2⟩
   ·exact .inl h2
   ·exact .inr ⟨rfl,Qvr h1 h2⟩
theorem Qx6:∀ (a b:List Qaa),a=b∨lessV a b=true∨lessV b a=true
 | [],[]=>.inl rfl
 | [],_ :: _=>.inr (.inl rfl)
 | _ :: _,[]=>.inr (.inr rfl)
 | x :: a,y :: b=>by
  unfold lessV
  simp only [Bool.or_eq_true,Bool.and_eq_true,decide_eq_true_iff]
  rcases QDZ x y with rfl|h|h
  ·rcases Qx6 a b with rfl|h|h
   ·exact .inl rfl
   ·exact .inr (.inl (.inr ⟨rfl,h⟩))
   ·exact .inr (.inr (.inr ⟨rfl,h⟩))
  ·exact .inr (.inl (.inl h))
  ·exact .inr (.inr (.inl h))
abbrev Ky:=Int×List Qaa
def kLt (k q:Ky):Prop:=k.1<q.1∨(k.1=q.1∧lessV k.2 q.2=true)
theorem QzY {k:Ky}:¬ kLt k k:=by
 rintro (h|⟨_,h⟩)
 ·omega
 ·rw [Qx5] at h; cases h
theorem QBr {a b c:Ky} (h1:kLt a b) (h2:kLt b c):kLt a c:=by
 rcases h1 with h1|⟨h1,h3⟩ <;> rcases h2 with h2|⟨h2,h4⟩
 ·exact .inl (by omega)
 ·exact .inl (by omega)
 ·exact .inl (by omega)
 ·exact .inr ⟨by omega,Qvr h3 h4⟩
theorem QDX (a b:Ky):a=b∨kLt a b∨kLt b a:=by
 rcases Int.lt_trichotomy a.1 b.1 with h|h|h
 ·exact .inr (.inl (.inl h))
 ·rcases Qx6 a.2 b.2 with h'|h'|h'
  ·exact .inl (Prod.ext h h')
  ·exact .inr (.inl (.inr ⟨h,h'⟩))
  ·exact .inr (.inr (.inr ⟨h.symm,h'⟩))
 ·exact .inr (.inr (.inl h))
theorem QBq {a b c:Ky} (h1:¬ kLt a b) (h2:¬ kLt b c):¬ kLt a c:=fun h=>by
 rcases QDX b c with rfl|h3|h3
 ·exact h1 h
 ·exact h2 h3
 ·exact h1 (QBr h h3)
def Bst (S:Ky→Prop) (s t:Option Ky):Prop:=(∀ k,t=some k→s=some k∨S k)∧(∀ k,(s=some k∨S k)→∃ k',t=some k'∧¬ kLt k k')
theorem Bst.none {S:Ky→Prop} {s:Option Ky} (h:∀ k,¬ S k):Bst S s s :=
 ⟨fun k e=>.inl e,fun k e=>e.elim (fun e=>⟨k,e,QzY⟩) fun e=>absurd e (h k)⟩
theorem Bst.comp {S T:Ky→Prop} {s t u:Option Ky} (h1:Bst S s t) (h2:Bst T t u):Bst (fun k=>S k∨T k) s u:=by
 refine ⟨fun k e=>?_,fun k e=>?_⟩
 ·rcases h2.1 k e with e|e
  ·rcases h1.1 k e with e|e
   ·exact .inl e
   ·exact .inr (.inl e)
  ·exact .inr (.inr e)
 ·have go:(s=some k∨S k)→∃ k',u=some k'∧¬ kLt k k':=fun e=>by
   obtain ⟨a,ha,hl⟩:=h1.2 k e
   obtain ⟨b,hb,hm⟩:=h2.2 a (.inl ha)
   exact ⟨b,hb,QBq hl hm⟩
  rcases e with e|e|e
  ·exact go (.inl e)
  ·exact go (.inr e)
  ·exact h2.2 k (.inr e)
theorem Bst.congr {S T:Ky→Prop} {s t:Option Ky} (h:Bst S s t) (he:∀ k,S k↔T k):Bst T s t :=
 ⟨fun k e=>(h.1 k e).imp id (he k).1,fun k e=>h.2 k (e.imp id (he k).2)⟩
theorem Bst.one {S:Ky→Prop} {k:Ky} (hS:∀ q,S q↔q=k) {s t:Option Ky} (h:(t=some k∧∀ q,s=some q→¬ kLt q k)∨(t=s∧∃ q,s=some q∧¬ kLt k q)):Bst S s t:=by
 rcases h with ⟨rfl,h⟩|⟨rfl,q,rfl,h⟩
 ·refine ⟨fun q e=>.inr ((hS q).2 (Option.some.inj e).symm),fun q e=>⟨k,rfl,?_⟩⟩
  rcases e with e|e
  ·exact h q e
  ·rw [(hS q).1 e]; exact QzY
 ·refine ⟨fun q e=>.inl e,fun q' e=>?_⟩
  rcases e with e|e
  ·exact ⟨q',e,QzY⟩
  ·rw [(hS q').1 e]; exact ⟨q,rfl,h⟩
theorem Bst.nil {S:Ky→Prop} {s:Option Ky} (h:∀ k,¬ S k):Bst S s s:=Bst.none h
theorem Bst.more {α:Type} {T:α→Ky→Prop} {l:List α} {i:Nat} {a:α} {s t u:Option Ky} (h:Bst (fun k=>∃ b∈l.take i,T b k) s t) (ha:l[i]?=some a) (h2:Bst (T a) t u):Bst (fun k=>∃ b∈l.take (i+1),T b k) s u:=by
 refine (h.comp h2).congr fun k=>?_
 rw [QlG ha]
 constructor
 ·rintro (⟨b,hb,h⟩|h)
  ·exact ⟨b,List.mem_append_left _ hb,h⟩
  ·exact ⟨a,by simp,h⟩
 ·rintro ⟨b,hb,h⟩
  rcases List.mem_append.1 hb with hb|hb
  ·exact .inl ⟨b,hb,h⟩
  ·rw [List.mem_singleton.1 hb] at h; exact .inr h
end Go.Proofs.YtpkkaboonnedfaaGreatDoor
namespace Go.Proofs.YtpkkaboonnedfaaGreatDoor
set_option linter.unusedSimpArgs false
set_option linter.unusedVariables false
set_option linter.unusedSectionVars false
def headV (v:Qaa):List Qaa→List Qaa
 | []=>[]
 | w :: r=>if w=v then [] else w :: headV v r
def QEa (x:Qac) (l:List Qaa) (o:Int):Bool:=x.before.all fun p=>!eqI p.x1 o||(visO x p.x0).all fun w=>l.any (isV w)
def QEb (x:Qac) (l:List Qaa) (v:Qaa):Bool:=!l.any (isV v)&&((headV v (visO x v.order)).all (fun w=>l.any (isV w))&&QEa x l v.order)
def offN (x:Qac) (i:Nat):Bool:=match x.orders[i]? with
 | some o=>o.off
 | none=>true
structure GoodL (x:Qac) (l:List Qaa):Prop where
 nodup:l.Nodup
 inn:∀ v∈l,0≤v.order∧v.order<x.orders.length
section
variable {x : Qac} {l t : List Qaa} {m : Nat} {v w : Qaa}
theorem Qu8 {o:Int} (h:v∈visO x o):v.order=o:=by
 unfold visO at h
 split at h
 ·rcases List.mem_append.1 h with h|h <;> (split at h <;> simp at h; rw [h])
 ·cases h
theorem GoodL.add (h:GoodL x l) (hv:v ∉ l) (h0:0≤v.order∧v.order<x.orders.length):GoodL x (l++[v]):=by
 refine ⟨List.nodup_append.2 ⟨h.nodup,by simp,fun a ha b hb=>?_⟩,fun w hw=>?_⟩
 ·rw [List.mem_singleton.1 hb]; exact fun e=>hv (e ▸ ha)
 ·rcases List.mem_append.1 hw with hw|hw
  ·exact h.inn w hw
  ·rw [List.mem_singleton.1 hw]; exact h0
theorem GoodL.len (h:GoodL x l):l.length≤2*x.orders.length:=by
 have hm:(l.map fun v:Qaa=>2*v.order.toNat+(if v.drop=true then 1 else 0)).Nodup:=by
  unfold List.Nodup
  rw [List.pairwise_map]
  refine h.nodup.imp_of_mem fun {a b} ha hb hne he=>hne ?_
  have h1:=h.inn a ha
  have h2:=h.inn b hb
  cases a with
  | mk ao ad =>
   cases b with
   | mk bo bd =>
    simp only at h1 h2 he
    have hd:ad=bd∧ao=bo:=by
     cases ad <;> cases bd <;> simp at he ⊢ <;> omega
    rw [hd.1,hd.2]
 have:=QuI (2*x.orders.length) _ hm fun a ha=>by
  obtain ⟨v,hv,rfl⟩:=List.mem_map.1 ha
  have h1:=h.inn v hv
  split <;> omega
 simpa using this
theorem SeqOK.good (h:SeqOK x l):GoodL x l:=⟨h.nodup,fun v hv=>Qpg h.inn hv⟩
theorem SeqOK.all (h:SeqOK x l) {o:Int} (ho:hasO l o=true) (hw:w∈visO x o):w∈l:=by
 obtain ⟨v,hv,rfl⟩:=Quy.1 ho
 have hp:=h.pair v hv
 unfold pairV at hp
 rw [Bool.and_eq_true] at hp
 have hr:=hp.2
 cases hvis:visO x v.order with
 | nil=>rw [hvis] at hw; cases hw
 | cons a r =>
  rw [hvis] at hr hw
  cases r with
  | nil =>
   simp only [rowB,geI_t] at hr
   rw [List.mem_singleton.1 hw]
   exact QzX.1 hr
  | cons b r =>
   obtain ⟨rfl,_⟩:=QxD hvis
   simp only [rowB,geI_t,Bool.and_eq_true,ltI_t] at hr
   rcases List.mem_cons.1 hw with rfl|hw
   ·exact QzX.1 hr.1
   ·rw [List.mem_singleton.1 hw]
    exact QzX.1 (by omega)
theorem SeqOK.own (h:SeqOK x l) (hv:v∈l):v∈visO x v.order:=by
 have hp:=h.pair v hv
 unfold pairV at hp
 rw [Bool.and_eq_true] at hp
 exact any_V.1 hp.1
theorem QEu (h:(l++v :: t).Nodup):ixI (isV v) (l++v :: t)=(l.length:Int):=by
 have h0:=QzX.2 (show v∈l++v :: t by simp)
 obtain ⟨k,hk⟩:∃ k:Nat,ixI (isV v) (l++v :: t)=k:=⟨(ixI (isV v) (l++v :: t)).toNat,by omega⟩
 obtain ⟨h1,h2⟩:=Qwr hk
 rw [hk]
 rcases Nat.lt_trichotomy k l.length with h3|h3|h3
 ·rw [List.getElem?_append_left h3] at h1
  exact absurd rfl ((List.nodup_append.1 h).2.2 v (List.mem_of_getElem? h1) v (by simp))
 ·rw [h3]
 ·exact absurd (by rw [List.getElem?_append_right (Nat.le_refl _)]; simp) (h2 l.length h3)
theorem ix_lt (h:ixI (isV w) (l++t)<(l.length:Int)) (h0:0≤ixI (isV w) (l++t)):w∈l:=by
 obtain ⟨k,hk⟩:∃ k:Nat,ixI (isV w) (l++t)=k:=⟨(ixI (isV w) (l++t)).toNat,by omega⟩
 obtain ⟨h1,_⟩:=Qwr hk
 rw [List.getElem?_append_left (by omega)] at h1
 exact List.mem_of_getElem? h1
theorem SeqOK.head (h:SeqOK x (l++v :: t)) (hw:w∈headV v (visO x v.order)):w∈l:=by
 have hp:=h.pair v (by simp)
 unfold pairV at hp
 rw [Bool.and_eq_true] at hp
 obtain ⟨h1,hr⟩:=hp
 have hv:=any_V.1 h1
 have hix:=QEu h.nodup
 cases hvis:visO x v.order with
 | nil=>rw [hvis] at hw; cases hw
 | cons a r =>
  rw [hvis] at hr hw hv
  cases r with
  | nil =>
   rw [headV,if_pos (List.mem_singleton.1 hv).symm] at hw
   cases hw
  | cons b r =>
   obtain ⟨rfl,hne⟩:=QxD hvis
   by_cases ha:a=v
   ·rw [headV,if_pos ha] at hw; cases hw
   ·have hb:b=v:=by
     rcases List.mem_cons.1 hv with h|h
     ·exact absurd h.symm ha
     ·exact (List.mem_singleton.1 h).symm
    rw [headV,if_neg ha,headV,if_pos hb] at hw
    rw [List.mem_singleton.1 hw]
    simp only [rowB,geI_t,Bool.and_eq_true,ltI_t] at hr
    rw [hb,hix] at hr
    exact ix_lt hr.2 hr.1
theorem QA8 (h:SeqOK x (l++v :: t)) {p:QaQ} (hp:p∈x.before) (ho:p.x1=v.order) (hw:w∈visO x p.x0):w∈l:=by
 have hb:hasO (l++v :: t) p.x1=true:=Quy.2 ⟨v,by simp,ho.symm⟩
 have h1:badB (l++v :: t) p=false:=by simpa using List.any_eq_false.1 h.before p hp
 unfold badB at h1
 rw [hb,Bool.true_and] at h1
 simp only [Bool.or_eq_false_iff,Bool.not_eq_false'] at h1
 obtain ⟨h2,h3⟩:=h1
 have hm:=h.all h2 hw
 rcases List.mem_append.1 hm with hm|hm
 ·exact hm
 ·exfalso
  unfold lateB at h3
  cases e:ixP (isO p.x1) (l++v :: t) with
  | none =>
   have:=QvM e v (by simp)
   rw [isO_t.2 ho.symm] at this
   cases this
  | some k =>
   rw [e] at h3
   simp only at h3
   have hk:k≤l.length:=Nat.le_of_not_lt fun hlt=>by
    have:=(Qqx e).2.2 l.length hlt
    rw [List.getElem_append_right (Nat.le_refl _)] at this
    simp only [Nat.sub_self,List.getElem_cons_zero] at this
    rw [isO_t.2 ho.symm] at this
    cases this
   have:hasO ((l++v :: t).drop k) p.x0=true:=Quy.2 ⟨w,by rw [List.drop_append_of_le_length hk]; exact List.mem_append_right _ hm,Qu8 hw⟩
   rw [this] at h3
   cases h3
theorem SeqOK.ready (h:SeqOK x (l++v :: t)):QEb x l v=true:=by
 unfold QEb
 have hn:v ∉ l:=fun hv=>(List.nodup_append.1 h.nodup).2.2 v hv v (by simp) rfl
 have e1:l.any (isV v)=false:=by rw [Bool.eq_false_iff,Ne,any_V]; exact hn
 rw [e1,Bool.not_false,Bool.true_and,Bool.and_eq_true,List.all_eq_true]
 refine ⟨fun w hw=>any_V.2 (h.head hw),?_⟩
 unfold QEa
 rw [List.all_eq_true]
 intro p hp
 by_cases ho:p.x1=v.order
 ·rw [Bool.or_eq_true]
  exact .inr (List.all_eq_true.2 fun w hw=>any_V.2 (QA8 h hp ho hw))
 ·rw [Bool.or_eq_true]
  exact .inl (by simpa using ho)
end
end Go.Proofs.YtpkkaboonnedfaaGreatDoor
namespace Go.Proofs.YtpkkaboonnedfaaGreatDoor
set_option linter.unusedSimpArgs false
set_option linter.unusedVariables false
set_option linter.unusedSectionVars false
section
variable {x : Qac} {l : List Qaa} {m : Nat} {v : Qaa}
theorem QDW {a:Qaa}:(eqI a.order v.order&&(eqB a.drop v.drop&&true))=isV v a:=by
 rw [Bool.eq_iff_iff,isV_t]; cases v; cases a; simp
end
end Go.Proofs.YtpkkaboonnedfaaGreatDoor
namespace Go.Proofs.YtpkkaboonnedfaaGreatDoor
set_option linter.unusedSimpArgs false
set_option linter.unusedVariables false
set_option linter.unusedSectionVars false
def cmpI (a b:Int):Int:=if a<b then -1 else if b<a then 1 else 0
def cmpV (a b:Qaa):Int:=if cmpI a.order b.order≠0 then cmpI a.order b.order else cmpI (if a.drop=true then 1 else 0) (if b.drop=true then 1 else 0)
theorem QBY (a b:Int):Qf1 a b=some (cmpI a b):=by
 unfold Qf1 Qi6 cmpI
 rw [Qaj,Qaj,show neI a a=false by simp,show neI b b=false by simp,Qi5,Qi5,brs,brs]
 simp only [ltI_t,gtI_t]
theorem Qzs {a b:Int}:cmpI a b=0↔a=b:=by unfold cmpI; split <;> (try split) <;> omega
theorem QBZ {a b:Int}:cmpI a b<0↔a<b:=by unfold cmpI; split <;> (try split) <;> omega
theorem QCy (a b:Int):Qon [a,b]=some (if a≠0 then a else b):=by
 unfold Qon
 have g0:QdV [a,b] 0=some (if a≠0 then .inr (.inr a) else .inl 1):=by
  unfold QdV
  rw [show br (ltI 0 (lenI [a,b])) (bnd (getI [a,b] 0) fun x0=>br (neI x0 0) (some (.inr (.inr x0))) (some (.inl (addK .i64 0 1)))) (some (.inr (.inl ())))=br (neI a 0) (some (.inr (.inr a):Int⊕(Unit⊕Int))) (some (.inl 1)) from rfl,brs]
  simp only [neI_t]
 have g1:QdV [a,b] 1=some (if b≠0 then .inr (.inr b) else .inl 2):=by
  unfold QdV
  rw [show br (ltI 1 (lenI [a,b])) (bnd (getI [a,b] 1) fun x0=>br (neI x0 0) (some (.inr (.inr x0))) (some (.inl (addK .i64 1 1)))) (some (.inr (.inl ())))=br (neI b 0) (some (.inr (.inr b):Int⊕(Unit⊕Int))) (some (.inl 2)) from rfl,brs]
  simp only [neI_t]
 have g2:QdV [a,b] 2=some (.inr (.inl ())):=rfl
 have key:loopF (fun s=>QdV [a,b] s) 0=some (if a≠0 then .inr a else if b≠0 then .inr b else .inl ()):=by
  refine Qtm 3 (by decide) ?_
  simp only [iterF]
  rw [g0]
  by_cases ha:a≠0
  ·rw [if_pos ha,if_pos ha]
  ·rw [if_neg ha,if_neg ha]
   simp only
   rw [g1]
   by_cases hb:b≠0
   ·rw [if_pos hb,if_pos hb]
   ·rw [if_neg hb,if_neg hb]
    simp only
    rw [g2]
 rw [QcY key]
 by_cases ha:a≠0
 ·rw [if_pos ha,if_pos ha,Qlr]
 ·rw [if_neg ha,if_neg ha]
  by_cases hb:b≠0
  ·rw [if_pos hb,Qlr]
  ·rw [if_neg hb,QgU]
   congr 1; omega
theorem QDE (a b:Qaa):QhH a b=some (cmpV a b):=by
 have h1:∀ v:Qaa,Qe2 v=some (if v.drop=true then 1 else 0):=fun v=>by unfold Qe2; rw [brs]
 unfold QhH cmpV
 rw [QBY,Qaj,h1,Qaj,h1,Qaj,QBY,Qaj,QCy,Qaj]
theorem QDD {a b:Qaa}:cmpV a b=0↔a=b:=by
 unfold cmpV
 cases a; cases b
 simp only [ne_eq,Qzs,Qaa.mk.injEq]
 split
 ·rename_i h
  rw [Qzs]
  exact ⟨fun h'=>absurd h' h,fun h'=>absurd h'.1 h⟩
 ·rename_i h
  rw [Qzs]
  rename_i d _ e
  cases d <;> cases e <;> simp_all
theorem QDF {a b:Qaa}:ltI (cmpV a b) 0=ltV a b:=by
 rw [Bool.eq_iff_iff,ltI_t,ltV_t]
 unfold cmpV
 split
 ·rename_i h
  rw [QBZ]
  rw [Ne,Qzs] at h
  exact ⟨fun h'=>.inl h',fun h'=>h'.elim id fun h'=>absurd h'.1 h⟩
 ·rename_i h
  simp only [ne_eq,Qzs,Classical.not_not] at h
  rw [QBZ]
  cases a.drop <;> cases b.drop <;> simp <;> omega
theorem Qqy:∀ {k:Nat} {a b:List Qaa},(∀ j,j<k→∃ u,a[j]?=some u∧b[j]?=some u)→lessV a b=lessV (a.drop k) (b.drop k)
 | 0,_,_,_=>rfl
 | k+1,a,b,h=>by
  obtain ⟨u,h1,h2⟩:=h 0 (by omega)
  cases a with
  | nil=>simp at h1
  | cons x a =>
   cases b with
   | nil=>simp at h2
   | cons y b =>
    simp at h1 h2
    subst h1
    subst h2
    rw [lessV,QCd,List.drop_succ_cons,List.drop_succ_cons,← Qqy (k:=k) (a:=a) (b:=b) fun j hj=>by simpa using h (j+1) (by omega)]
    simp
def difN (a b:List Qaa) (k:Nat):Bool:=match a[k]?,b[k]? with
 | some u,some w=>!decide (u=w)
 | some _,none=>true
 | _,_=>false
theorem QxT {a b:List Qaa} {k:Nat} (h:k<a.length) (hd:difN a b k=false):∃ u,a[k]?=some u∧b[k]?=some u:=by
 unfold difN at hd
 rw [List.getElem?_eq_getElem h] at hd ⊢
 cases hb:b[k]? with
 | none=>rw [hb] at hd; cases hd
 | some w =>
  rw [hb] at hd
  simp only [Bool.not_eq_false',decide_eq_true_iff] at hd
  exact ⟨_,rfl,by rw [hd]⟩
theorem QDv {a b:List Qaa} (ha:a.length≤1048576) (hb:b.length≤1048576):Qls a b=some (lessV a b):=by
 unfold Qls QaR
 rcases QBL (B:=fun s=>Qat a b s) (n:=a.length) ha (difN a b) (fun k=>(.inr (match a[k]?,b[k]? with|some u,some w=>cmpV u w|_,_=>1):Unit⊕Int)) (N:=.inl ()) (fun i hi=>by
  have e:a[i]?=some a[i]:=List.getElem?_eq_getElem hi
  show Qat a b i=_
  unfold Qat difN
  rw [QcZ e,incL e ha,e]
  generalize a[i]=u at e
  cases hb2:b[i]? with
  | none =>
   rw [QaY (by simp only [geI_t,lenI]; have:=List.getElem?_eq_none_iff.1 hb2; omega)]
   rfl
  | some w =>
   rw [QaO (by have:=(List.getElem?_eq_some_iff.1 hb2).1; simp [lenI]; omega),QaV hb2,Qaj,QDE,Qaj,brs]
   by_cases hq:u=w
   ·rw [if_neg (by simp only [neI_t,Classical.not_not,ne_eq]; exact QDD.2 hq),if_neg (by simp [hq])]
   ·rw [if_pos (by simp only [neI_t,ne_eq]; exact fun h=>hq (QDD.1 h)),if_pos (by simp [hq])]) (by
  show Qat a b a.length=_
  unfold Qat
  rw [QbG]) with ⟨k,h1,h2,h3,h4⟩|⟨h1,h4⟩
 ·rw [QcY h4,Qlr,Qaj]
  rw [Qqy (k:=k) fun j hj=>QxT (by omega) (h3 j hj)]
  unfold difN at h2
  rw [List.drop_eq_getElem_cons h1]
  rw [List.getElem?_eq_getElem h1] at h2 ⊢
  cases hb2:b[k]? with
  | none =>
   rw [List.drop_eq_nil_of_le (List.getElem?_eq_none_iff.1 hb2)]
   rfl
  | some w =>
   obtain ⟨g1,g2⟩:=List.getElem?_eq_some_iff.1 hb2
   rw [hb2] at h2
   simp only [Bool.not_eq_true',decide_eq_false_iff_not] at h2
   rw [List.drop_eq_getElem_cons g1,lessV,g2]
   simp only
   rw [QDF,decide_eq_false h2,Bool.false_and,Bool.or_false]
 ·rw [QcY h4,QgU]
  rw [Qqy (k:=a.length) fun j hj=>QxT hj (h1 j hj),List.drop_length,brs,Qaj]
  by_cases hl:a.length<b.length
  ·rw [if_pos (by simp [lenI]; omega),List.drop_eq_getElem_cons hl]; rfl
  ·rw [if_neg (by simp [lenI]; omega),List.drop_eq_nil_of_le (by omega)]; rfl
theorem QA0 {a b:List Qaa} (ha:a.length≤1048576) (hb:b.length≤1048576):Qib a b=some (lessV a b):=by
 unfold Qib
 have hmin:min a.length b.length≤1048576:=by omega
 rcases QBL (B:=fun s=>QcT a b s) (n:=min a.length b.length) hmin (difN a b) (fun k=>(.inr (match a[k]?,b[k]? with|some u,some w=>ltV u w|_,_=>false):Unit⊕Bool)) (N:=.inl ()) (fun i hi=>by
  have e:a[i]?=some (a[i]'(by omega)):=List.getElem?_eq_getElem _
  have e2:b[i]?=some (b[i]'(by omega)):=List.getElem?_eq_getElem _
  show QcT a b i=_
  unfold QcT difN Qjq
  rw [QaY (by simp [lenI]; omega),QaV e,Qaj,QaV e2,Qaj,incL e ha,e,e2,Qaj]
  generalize a[i]'(by omega)=u
  generalize b[i]'(by omega)=w
  rw [QDW]
  by_cases hq:u=w
  ·rw [QaY (isV_t.2 hq),if_neg (by simp [hq])]
  ·rw [QaO (Bool.eq_false_iff.2 fun h=>hq (isV_t.1 h)),if_pos (by simp [hq])]
   simp only [ltV,Bool.and_assoc]) (by
  show QcT a b ((min a.length b.length:Nat):Int)=_
  unfold QcT
  rw [QaO (by simp [lenI]; omega)]) with ⟨k,h1,h2,h3,h4⟩|⟨h1,h4⟩
 ·rw [QcY h4,Qlr]
  rw [Qqy (k:=k) fun j hj=>QxT (by omega) (h3 j hj)]
  have g1:k<a.length:=by omega
  have g2:k<b.length:=by omega
  unfold difN at h2
  rw [List.drop_eq_getElem_cons g1,List.drop_eq_getElem_cons g2,lessV]
  rw [List.getElem?_eq_getElem g1,List.getElem?_eq_getElem g2] at h2 ⊢
  simp only [Bool.not_eq_true',decide_eq_false_iff_not] at h2
  simp only
  rw [decide_eq_false h2,Bool.false_and,Bool.or_false]
 ·rw [QcY h4,QgU]
  rw [Qqy (k:=min a.length b.length) fun j hj=>QxT (by omega) (h1 j hj)]
  by_cases hl:a.length<b.length
  ·rw [Nat.min_eq_left (by omega),List.drop_length,List.drop_eq_getElem_cons hl,show ltI (lenI a) (lenI b)=true by simp [lenI]; omega]; rfl
  ·rw [Nat.min_eq_right (by omega),show ltI (lenI a) (lenI b)=false by simp [lenI]; omega,List.drop_length]
   cases a.drop b.length <;> rfl
section
variable {x : Qac} {l : List Qaa} {m : Nat} {v : Qaa}
theorem QyF {o:Int} (h0:0≤o) (h1:o<x.orders.length) (h10:x.orders.length≤10):QgM x.orders o=some (visO x o):=by
 have e:x.orders[o.toNat]?=some (x.orders[o.toNat]'(by omega)):=List.getElem?_eq_getElem _
 generalize x.orders[o.toNat]'(by omega)=q at e
 have hg:getI x.orders o=some q:=by unfold getI; rw [if_pos h0,e]
 unfold QgM QbL
 have hs:subK .i64 (lenI x.orders) 1=(x.orders.length:Int)-1:=by unfold lenI; exact subI (by omega) (by omega)
 rw [hs,Qaj,QaY (by simp; omega),hg,Qaj]
 unfold visO
 rw [e]
 have hJ:∀ l1:List Qaa,l1.length≤1→QdL x.orders o l1=some (l1++if 0≤q.drop.place then [Qaa.mk o true] else []):=fun l1 hl=>by
  unfold QdL
  rw [hg,Qaj,Qec (by unfold okN; simp; omega),br_if]
  simp only [geI_t]
  split <;> simp
 rw [hJ _ (by simp),hJ _ (by simp),Qec (by unfold okN; simp),brs]
 simp only [geI_t]
 split <;> rfl
end
end Go.Proofs.YtpkkaboonnedfaaGreatDoor
namespace Go.Proofs.YtpkkaboonnedfaaGreatDoor
set_option linter.unusedSimpArgs false
set_option linter.unusedVariables false
set_option linter.unusedSectionVars false
def rW (b:Qad) (l:List Qaa):Qad:=Qad.mk b.type_ b.start b.rests l
noncomputable def prX (x:Qac) (r:Qad):Int×Int:=(Qg3 x r).getD (0,1)
noncomputable def kyX (x:Qac) (b:Qad) (l:List Qaa):Ky:=((prX x (rW b l)).1,l)
def QtG:Qad:=Qad.mk 0 0 [] []
instance (k q:Ky):Decidable (kLt k q):=inferInstanceAs (Decidable (_∨_))
section
variable {x : Qac} {b r : Qad} {l t : List Qaa} {m n : Nat} {v : Qaa} {s : Option Ky}
theorem Qvx (hx:Qco x) (hR:Qko r) (h9:Qs5 r):Qg3 x r=some (prX x r)∧Qfd x r=some (prX x r):=by
 obtain ⟨w,h1,h2⟩:=Qzb hx hR h9
 have:prX x r=w:=by unfold prX; rw [h1]; rfl
 rw [this]
 exact ⟨h1,h2⟩
theorem pr_ev (hx:Qco x) (hR:Qko r) (h9:Qs5 r) (h:(prX x r).2=0):(evX x r).2.2=0:=by
 obtain ⟨e1,_⟩:=QxW hx hR h9
 obtain ⟨p1,_⟩:=Qvx hx hR h9
 unfold Qg3 at p1
 rw [e1,Qaj] at p1
 by_cases h0:(evX x r).2.2=0
 ·exact h0
 ·rw [QaY (by simpa using h0)] at p1
  have:=Option.some.inj p1
  rw [← this] at h
  exact h
theorem QEC (hx:Qco x) (hR:Qko r) (h9:Qs5 r) (h:(prX x r).2=0):SeqOK x r.visits:=by
 obtain ⟨_,_,_,_,e5⟩:=QxW hx hR h9
 obtain ⟨_,q,hE⟩:=e5 (pr_ev hx hR h9 h)
 exact Qyp hE.seq
theorem rW_I (hR:Qko b) (hl:l.length≤8):Qko (rW b l)∧Qs5 (rW b l):=by
 refine ⟨⟨hR.type_,hR.start,hR.rests,?_⟩,?_⟩
 ·show l.length≤_
  omega
 ·unfold Qs5
  show ¬ (9<l.length∧l.length≤20)
  omega
end
end Go.Proofs.YtpkkaboonnedfaaGreatDoor
namespace Go.Proofs.YtpkkaboonnedfaaGreatDoor
set_option linter.unusedSimpArgs false
set_option linter.unusedVariables false
set_option linter.unusedSectionVars false
def insAt {α:Type} (l:List α) (k:Nat) (v:α):List α:=l.take k++[v]++l.drop k
def plcS:List Qaa→List Qaa→Nat→List (List Qaa)
 | [],l,_=>[l]
 | v :: r,l,f=>(List.range' f (l.length+1-f)).flatMap fun k=>plcS r (insAt l k v) (k+1)
section
variable {α : Type} {x : Qac} {r : Qad} {l more : List Qaa} {v : Qaa} {o : Int}
theorem QnD {l:List α} {k:Nat} {v:α}:(insAt l k v).length=l.length+1:=by
 unfold insAt; simp; omega
theorem Qxk:∀ {more l:List Qaa} {f:Nat},∀ s∈plcS more l f,s.length=l.length+more.length
 | [],l,f,s,hs=>by
  rw [plcS,List.mem_singleton] at hs; rw [hs]; rfl
 | v :: r,l,f,s,hs=>by
  rw [plcS,List.mem_flatMap] at hs
  obtain ⟨k,_,hk⟩:=hs
  rw [Qxk s hk,QnD,List.length_cons]; omega
theorem QzF {α β:Type} {g:α→List β} {B:Nat}:∀ {L:List α},(∀ a∈L,(g a).length≤B)→(L.flatMap g).length≤L.length*B
 | [],_=>by simp
 | a :: L,h=>by
  rw [List.flatMap_cons,List.length_append,List.length_cons,Nat.add_mul,Nat.one_mul]
  have h1:=h a (List.mem_cons_self ..)
  have h2:=QzF (g:=g) (B:=B) (L:=L) fun b hb=>h b (List.mem_cons_of_mem _ hb)
  omega
theorem QAr {f:Nat} (hm:more.length≤2):(plcS more l f).length≤(l.length+1)*(l.length+2):=by
 have one:∀ (l:List Qaa) (v:Qaa) (f:Nat),(plcS [v] l f).length≤l.length+1:=fun l v f=>by
  rw [plcS]
  refine Nat.le_trans (QzF (B:=1) fun k _=>by rw [plcS]; simp) ?_
  rw [List.length_range']; omega
 match more,hm with
 | [],_ =>
  rw [plcS,List.length_singleton]
  exact Nat.le_trans (show 1≤1*1 by omega) (Nat.mul_le_mul (by omega) (by omega))
 | [v],_=>exact Nat.le_trans (one l v f) (Nat.le_trans (by omega) (Nat.mul_le_mul (Nat.le_refl _) (show 1≤l.length+2 by omega)))
 | [v,w],_ =>
  rw [plcS]
  refine Nat.le_trans (QzF (B:=l.length+2) fun k _=>Nat.le_trans (one _ w _) (by rw [QnD]; exact Nat.le_refl _)) ?_
  exact Nat.mul_le_mul_right _ (by rw [List.length_range']; omega)
 | a :: b :: c :: r,h=>simp at h
theorem QD1 (h:l.length≤1048580):(l.length+1)*(l.length+2)≤1099532500000:=by
 have:=Nat.mul_le_mul (show l.length+1≤1048581 by omega) (show l.length+2≤1048582 by omega)
 omega
theorem Qzr (hl:l.length≤4194304):Qbr l=some l:=by
 unfold Qbr
 rw [Qec (QeE (by omega))]
 cases l with
 | nil=>exact QwY
 | cons a r=>rfl
theorem QDR {k:Nat} (hk:k≤l.length) (hl:l.length≤4194304):insL 16 l (k:Int) [v]=some (insAt l k v):=by
 unfold insL insAt
 rw [if_pos ⟨by omega,by omega,by simp,by simp; omega,by simp; omega⟩]
 rw [Int.toNat_natCast]
theorem QEH {α:Type} {a:α} {r:List α}:slcI (a :: r) 1 (lenI (a :: r))=some r:=by
 unfold slcI lenI
 rw [if_pos ⟨by omega,by simp; omega,by simp⟩]
 simp
theorem QAo:∀ (more:List Qaa) (n:Nat) (l:List Qaa) (f:Nat),more.length<n→more.length≤2→l.length+more.length≤1048580→f≤1048580→QeM n l more (f:Int)=some (plcS more l f)
 | [],n+1,l,f,_,_,_,_=>by
  show QfP (QeM n) l [] (f:Int)=_
  unfold QfP
  rw [QaY (by simp)]
  rfl
 | v :: r,n+1,l,f,h1,h2,h3,h4=>by
  show QfP (QeM n) l (v :: r) (f:Int)=_
  simp only [List.length_cons] at h1 h2 h3
  unfold QfP
  rw [QaO (by simp [lenI]; omega)]
  have hloop:=Qc4 (B:=fun s=>Qd6 (QeM n) l (v :: r) s.1 s.2) (e:=plcS (v :: r) l f) (l.length+1-f) (fun i=>(((List.range' f i).flatMap fun k=>plcS r (insAt l k v) (k+1)),((f+i:Nat):Int))) (by omega) (fun i hi=>by
   simp only
   unfold Qd6
   rw [QaY (by simp [lenI]; omega),Qzr (by omega),Qaj,show getI (v :: r) 0=some v from rfl,Qaj,QDR (by omega) (by omega),Qaj,QEH,Qaj,addI (by omega) (by omega),
    show ((f+i:Nat):Int)+1=((f+i+1:Nat):Int) by omega,QAo r n (insAt l (f+i) v) (f+i+1) (by omega) (by omega) (by rw [QnD]; omega) (by omega),Qaj]
   have hcat:((List.range' f i).flatMap fun k=>plcS r (insAt l k v) (k+1))++plcS r (insAt l (f+i) v) (f+i+1)=(List.range' f (i+1)).flatMap fun k=>plcS r (insAt l k v) (k+1):=by
    rw [List.range'_concat,List.flatMap_append]; simp
   rw [hcat]
   have hb:((List.range' f (i+1)).flatMap fun k=>plcS r (insAt l k v) (k+1)).length≤1099532500000:=by
    have hn:=QAr (more:=v :: r) (l:=l) (f:=f) (by simp; omega)
    rw [plcS] at hn
    refine Nat.le_trans ?_ (Nat.le_trans hn (QD1 (by omega)))
    have hsplit:List.range' f (l.length+1-f)=List.range' f (i+1)++List.range' (f+(i+1)) (l.length+1-f-(i+1)):=by
     rw [show f+(i+1)=f+1*(i+1) by omega,List.range'_append]
     congr 1; omega
    rw [hsplit,List.flatMap_append,List.length_append]
    omega
   rw [Qec (QeE (by omega))]
   congr 3) (by
   simp only
   unfold Qd6
   rw [QaO (by simp [lenI]; omega)]
   rw [plcS])
  have h0:(fun i:Nat=>(((List.range' f i).flatMap fun k=>plcS r (insAt l k v) (k+1)),((f+i:Nat):Int))) 0=([],(f:Int)):=by simp
  have h9:loopF (fun s=>Qd6 (QeM n) l (v :: r) s.1 s.2) ([],(f:Int))=some (plcS (v :: r) l f):=by rw [← h0]; exact hloop
  rw [QcY h9]
theorem QBF {f:Nat} (hm:more.length≤2) (hl:l.length+more.length≤1048580) (hf:f≤1048580):QnH l more (f:Int)=some (plcS more l f):=by
 unfold QnH
 exact QAo more Qww l f (Nat.lt_of_le_of_lt hm (by decide)) hm hl hf
theorem QvL {k:Nat} (hk:k≤l.length) (hl:l.length≤4194304):Qdh l (k:Int) v=some (insAt l k v):=by
 unfold Qdh insAt
 have h1:slcI l 0 (k:Int)=some (l.take k):=by
  unfold slcI
  rw [if_pos ⟨by omega,by omega,by omega⟩]
  simp
 have h2:slcI l (k:Int) (lenI l)=some (l.drop k):=by
  unfold slcI lenI
  rw [if_pos (by omega)]
  simp only [Int.toNat_natCast]
  rw [List.take_of_length_le (by rw [List.length_drop]; omega)]
 rw [h1,Qaj,Qec (QeE (by simp; omega)),Qec (QeE (by simp; omega)),h2,Qaj,Qec (QeE (by simp; omega))]
end
end Go.Proofs.YtpkkaboonnedfaaGreatDoor
namespace Go.Proofs.YtpkkaboonnedfaaGreatDoor
set_option linter.unusedSimpArgs false
set_option linter.unusedVariables false
set_option linter.unusedSectionVars false
noncomputable def betX (x:Qac) (r:Qad) (s:Option Ky) (l:List Qaa):Option Ky:=if (prX x (rW r l)).2=0 then (match s with
 | none=>some (kyX x r l)
 | some k=>if kLt (kyX x r l) k then some (kyX x r l) else some k) else s
noncomputable def bestI (x:Qac) (r:Qad) (o:Int):Option Ky:=(plcS (visO x o) r.visits r.rests.length).foldl (betX x r) none
noncomputable def insX (x:Qac) (r:Qad) (o:Int):Qad×Int×Int :=
 if 0≤r.type_∧r.type_<x.types.length then
  if 0≤o∧o<x.orders.length then
   if offN x o.toNat=true then (QtG,0,9) else if hasO r.visits o=true then (QtG,0,6) else match bestI x r o with
    | none=>(QtG,0,24)
    | some k=>(rW r k.2,k.1,0)
  else (QtG,0,2)
 else (QtG,0,2)
def stP (r:Qad) (s:Option Ky) (i:Nat):Qad×Int×Int×List Bool×List Qaa×Int×Int:=match s with
 | none=>(r,0,0,[],[],-1,(i:Int))
 | some k=>(r,r.type_,r.start,r.rests,k.2,k.1,(i:Int))
def repF (r:Qad) (s:Option Ky):QaK:=match s with
 | none=>QaK.mk false QtG 0
 | some k=>QaK.mk true (rW r k.2) k.1
def JK (s:Option Ky):Prop:=∀ k,s=some k→(0≤k.1∧k.1≤36028797018963968)∧k.2.length≤1048576
def OkL (r:Qad) (l:List Qaa):Prop:=l.length≤1048576∧Qs5 (rW r l)
section
variable {x : Qac} {r : Qad} {l more : List Qaa} {v : Qaa} {o : Int} {s : Option Ky}
theorem pr_bd (hx:Qco x) (hR:Qko r) (h9:Qs5 r) (h:(prX x r).2=0):0≤(prX x r).1∧(prX x r).1≤36028797018963968:=by
 have h:=pr_ev hx hR h9 h
 obtain ⟨e1,_,_,_,e5⟩:=QxW hx hR h9
 obtain ⟨es,q,hE⟩:=e5 h
 obtain ⟨p1,_⟩:=Qvx hx hR h9
 obtain ⟨c,m,o,w,hs,g1,g2,g3,g4,g5,g6,g7,g8,g9,g10⟩:=hE.score hx
 unfold Qg3 at p1
 rw [e1,Qaj,QaO (by simpa using h),es,hs,QA5 ⟨g2,g3⟩ ⟨g4,by omega⟩ ⟨g6,by omega⟩ ⟨g8,g9⟩] at p1
 rw [← Option.some.inj p1]
 simp only
 omega
theorem okL_R (hR:Qko r) (hl:OkL r l):Qko (rW r l):=⟨hR.type_,hR.start,hR.rests,hl.1⟩
theorem JK.bet (hx:Qco x) (hR:Qko r) (hl:OkL r l) (h:JK s):JK (betX x r s l):=by
 unfold betX
 split
 ·rename_i hp
  have hk:JK (some (kyX x r l)):=fun k e=>by
   cases e
   exact ⟨pr_bd hx (okL_R hR hl) hl.2 hp,hl.1⟩
  cases s with
  | none=>exact hk
  | some k =>
   simp only
   split
   ·exact hk
   ·exact h
 ·exact h
theorem JK.none:JK none:=fun k e=>by cases e
theorem JK.fold (hx:Qco x) (hR:Qko r):∀ {L:List (List Qaa)} {s:Option Ky},(∀ l∈L,OkL r l)→JK s→JK (L.foldl (betX x r) s)
 | [],s,_,h=>h
 | l :: L,s,hL,h=>JK.fold (L:=L) (s:=betX x r s l) hx hR (fun l' h'=>hL l' (List.mem_cons_of_mem _ h')) (h.bet hx hR (hL l (List.mem_cons_self ..)))
theorem stP_i {i:Nat}:(stP r s i).2.2.2.2.2.2=(i:Int):=by unfold stP; split <;> rfl
theorem Qy5 (hx:Qco x) (hR:Qko r) {L:List (List Qaa)} {i:Nat} (hi:L[i]?=some l) (hn:i<1099532500000) (hl:OkL r l) (hs:JK s) (B:_) (hB:B=stP r s i) :
  Qey x L B.1 B.2.1 B.2.2.1 B.2.2.2.1 B.2.2.2.2.1 B.2.2.2.2.2.1 B.2.2.2.2.2.2=some (.inl (stP r (betX x r s l) (i+1))):=by
 have hlt:=(List.getElem?_eq_some_iff.1 hi).1
 have hp:=(Qvx hx (okL_R hR hl) hl.2).1
 subst hB
 have hinc:addK .i64 (i:Int) 1=((i+1:Nat):Int):=by rw [addI (by omega) (by omega)]; omega
 unfold Qey
 rw [stP_i,QaY (by simp [lenI]; omega),QaV hi,Qaj,hinc]
 have hr:Qad.mk (stP r s i).1.type_ (stP r s i).1.start (stP r s i).1.rests l=rW r l:=by unfold stP; split <;> rfl
 rw [hr,hp,Qaj]
 unfold betX
 by_cases h0:(prX x (rW r l)).2=0
 ·rw [QaY (by simpa using h0),if_pos h0]
  cases s with
  | none =>
   rw [QaY (by simp [stP])]
   rfl
  | some k =>
   obtain ⟨⟨k0,k1⟩,k2⟩:=hs k rfl
   simp only [stP]
   rw [QDv hl.1 k2,Qaj,brs]
   by_cases h1:(prX x (rW r l)).1<k.1
   ·rw [QaY (by simp; omega),if_pos (show kLt (kyX x r l) k from .inl h1)]
    rfl
   ·rw [QaO (by simp; omega)]
    by_cases h2:(prX x (rW r l)).1=k.1
    ·rw [QaY (by simpa using h2)]
     by_cases h3:lessV l k.2=true
     ·rw [if_pos h3,if_pos (show kLt (kyX x r l) k from .inr ⟨h2,h3⟩)]
      rfl
     ·rw [if_neg h3,if_neg (show ¬ kLt (kyX x r l) k from fun h=>h.elim (fun h=>h1 h) fun h=>h3 h.2)]
    ·rw [QaO (by simpa using h2),if_neg (show ¬ kLt (kyX x r l) k from fun h=>h.elim (fun h=>h1 h) fun h=>h2 h.1)]
 ·rw [QaO (by simpa using h0),if_neg h0]
  cases s <;> rfl
theorem QzL {α S:Type} {f:S→α→S} {L:List α} {s:S} {i:Nat} {a:α} (h:L[i]?=some a):(L.take (i+1)).foldl f s=f ((L.take i).foldl f s) a:=by
 rw [List.take_add_one,h,List.foldl_append]; rfl
theorem Qyz (hl:r.visits.length≤1048576):QiM r o=some (hasO r.visits o):=by
 unfold QiM Qbc Qbk
 rw [Qs3 (l:=r.visits) hl (isO o) (fun k=>.inr (k:Int)) (N:=.inl ()) (fun i a ha=>by
  have hlt:=(List.getElem?_eq_some_iff.1 ha).1
  unfold QaT Qkl
  rw [QaY (by simp [lenI]; omega),QaV ha,Qaj,Qaj,inc hlt hl,brs]
  rfl) (by unfold QaT; rw [QaO (by simp [lenI])])]
 have hg:geI (ixI (isO o) r.visits) 0=r.visits.any (isO o):=Qqm
 unfold ixI at hg
 cases h:ixP (isO o) r.visits with
 | none=>rw [h] at hg; exact congrArg some hg
 | some k=>rw [h] at hg; exact congrArg some hg
theorem QxH {o:Int}:QiI x o=some (if 0≤o∧o<x.orders.length then (if offN x o.toNat=true then 9 else 0) else 2):=by
 unfold QiI
 by_cases h:0≤o∧o<x.orders.length
 ·rw [QaO (by simp [lenI]; omega),if_pos h,QsF h.1 h.2,Qaj,brs]
  congr 1
  unfold offN
  rw [List.getElem?_eq_getElem (show o.toNat<x.orders.length by omega)]
 ·rw [QaY (by simp [lenI]; omega),if_neg h]
structure InsI (r:Qad) (o:Int):Prop where
 R:Qko r
 len:r.visits.length≤1048574
 short:hasO r.visits o=false→r.visits.length≤7∨20<r.visits.length
theorem InsI.okL (h:InsI r o) (hn:hasO r.visits o=false):∀ l∈plcS (visO x o) r.visits r.rests.length,OkL r l:=fun l hl=>by
 have h1:=Qxk l hl
 have h2:=Qpr (x:=x) (o:=o)
 have h3:=h.len
 have h4:=h.short hn
 refine ⟨by omega,?_⟩
 unfold Qs5
 show ¬ (9<l.length∧l.length≤20)
 omega
theorem InsI.num (h:InsI r o):(plcS (visO x o) r.visits r.rests.length).length≤1099532500000 :=
 Nat.le_trans (QAr Qpr) (QD1 (by have:=h.len; omega))
theorem QCJ (hx:Qco x) (h:InsI r o):QiH x r o=some (insX x r o):=by
 have hlen:=h.len
 have hrl:=h.R.rests
 unfold QiH insX
 by_cases ht:0≤r.type_∧r.type_<x.types.length
 ·rw [QaO (by simp [lenI]; omega),if_pos ht,QxH,Qaj]
  by_cases ho:0≤o∧o<x.orders.length
  ·rw [if_pos ho,if_pos ho]
   by_cases hf:offN x o.toNat=true
   ·rw [if_pos hf,if_pos hf]; rfl
   ·rw [if_neg hf,if_neg hf,QaO (by decide),Qyz (by omega),Qaj]
    by_cases hh:hasO r.visits o=true
    ·rw [QaY hh,if_pos hh]; rfl
    ·rw [QaO (by simpa using hh),if_neg hh,QxG hx ho.1 ho.2,Qaj,lenI,QBF Qpr (by have:=Qpr (x:=x) (o:=o); omega) (by omega),Qaj]
     have hok:=h.okL (x:=x) (by simpa using hh)
     have hnum:=h.num (x:=x)
     have hb:bestI x r o=(plcS (visO x o) r.visits r.rests.length).foldl (betX x r) none:=rfl
     have hJ:=JK.fold (x:=x) hx h.R hok JK.none
     rw [← hb] at hJ
     revert hb hok hnum
     generalize plcS (visO x o) r.visits r.rests.length=L
     intro hok hnum hb
     have hloop:=Qc4 (B:=fun s=>Qey x L s.1 s.2.1 s.2.2.1 s.2.2.2.1 s.2.2.2.2.1 s.2.2.2.2.2.1 s.2.2.2.2.2.2) (e:=(match bestI x r o with|none=>(QtG,(-1:Int))|some k=>(rW r k.2,k.1))) L.length (fun i=>stP r ((L.take i).foldl (betX x r) none) i) (by omega) (fun i hi=>by
      have hg:=List.getElem?_eq_getElem hi
      rw [QzL hg]
      exact Qy5 hx h.R hg (by omega) (hok _ (List.getElem_mem hi)) (JK.fold hx h.R (fun l hl=>hok l (List.mem_of_mem_take hl)) JK.none) _ rfl) (by
      unfold Qey
      rw [stP_i,QaO (by simp [lenI]),List.take_length,← hb]
      cases bestI x r o <;> rfl)
     have h0:(fun i:Nat=>stP r ((L.take i).foldl (betX x r) none) i) 0=(r,0,0,[],[],-1,0):=rfl
     have h9:loopF (fun s=>Qey x L s.1 s.2.1 s.2.2.1 s.2.2.2.1 s.2.2.2.2.1 s.2.2.2.2.2.1 s.2.2.2.2.2.2) (r,0,0,[],[],-1,0)=_:=hloop
     rw [QcY h9]
     cases hbs:bestI x r o with
     | none=>rfl
     | some k =>
      have:=(hJ k hbs).1
      simp only
      rw [QaO (by simp; omega)]
  ·rw [if_neg ho,if_neg ho]; rfl
 ·rw [QaY (by simp [lenI]; omega),if_neg ht]; rfl
end
end Go.Proofs.YtpkkaboonnedfaaGreatDoor
namespace Go.Proofs.YtpkkaboonnedfaaGreatDoor
set_option linter.unusedSimpArgs false
set_option linter.unusedVariables false
set_option linter.unusedSectionVars false
section
variable {x : Qac} {r : Qad} {l more : List Qaa} {v : Qaa} {o : Int} {s : Option Ky}
def stF (r:Qad) (s:Option Ky) (i:Nat):Qad×Bool×Int×Int×List Bool×List Qaa×Int×Int:=(r,(repF r s).ok,(repF r s).route.type_,(repF r s).route.start,(repF r s).route.rests,(repF r s).route.visits,(repF r s).price,(i:Int))
def stF2 (r:Qad) (s:Option Ky) (i:Nat):Bool×Int×Int×List Bool×List Qaa×Int×Int:=((repF r s).ok,(repF r s).route.type_,(repF r s).route.start,(repF r s).route.rests,(repF r s).route.visits,(repF r s).price,(i:Int))
theorem QxM (hx:Qco x) (hR:Qko r) (hl:OkL r l) (hs:JK s):Qfr x (repF r s) r l=some (repF r (betX x r s l)):=by
 have hp:=(Qvx hx (okL_R hR hl) hl.2).2
 unfold Qfr
 rw [show Qad.mk r.type_ r.start r.rests l=rW r l from rfl,hp,Qaj]
 unfold betX
 by_cases h0:(prX x (rW r l)).2=0
 ·rw [QaO (by simpa using h0),if_pos h0]
  cases s with
  | none =>
   rw [QaY (by simp [repF])]
   rfl
  | some k =>
   obtain ⟨⟨k0,k1⟩,k2⟩:=hs k rfl
   simp only [repF]
   rw [QA0 hl.1 (show (rW r k.2).visits.length≤1048576 from k2),Qaj,brs]
   by_cases h1:(prX x (rW r l)).1<k.1
   ·rw [QaY (by simp; omega),if_pos (show kLt (kyX x r l) k from .inl h1)]
    rfl
   ·rw [QaO (by simp; omega)]
    by_cases h2:(prX x (rW r l)).1=k.1
    ·rw [QaY (by simpa using h2)]
     by_cases h3:lessV l k.2=true
     ·rw [if_pos (show lessV l (rW r k.2).visits=true from h3),if_pos (show kLt (kyX x r l) k from .inr ⟨h2,h3⟩)]
      rfl
     ·rw [if_neg (show ¬ lessV l (rW r k.2).visits=true from h3),if_neg (show ¬ kLt (kyX x r l) k from fun h=>h.elim (fun h=>h1 h) fun h=>h3 h.2)]
    ·rw [QaO (by simpa using h2),if_neg (show ¬ kLt (kyX x r l) k from fun h=>h.elim (fun h=>h1 h) fun h=>h2 h.1)]
 ·rw [QaY (by simpa using h0),if_neg h0]
theorem Qyy (hx:Qco x) {i:Nat} (hi:i<x.orders.length):∃ v,v∈visO x (i:Int):=by
 have e:x.orders[i]?=some x.orders[i]:=List.getElem?_eq_getElem hi
 have hO:=hx.ord _ (List.getElem_mem hi)
 unfold visO
 rw [Int.toNat_natCast,e]
 simp only
 have h1:=hO.pick
 have h2:=hO.drop
 have h3:=hO.one
 unfold Qzd at h1 h2
 by_cases hp:0≤x.orders[i].pick.place
 ·rw [if_pos hp]; exact ⟨_,List.mem_append_left _ (List.mem_cons_self ..)⟩
 ·rw [if_pos (show 0≤x.orders[i].drop.place by omega)]
  exact ⟨_,List.mem_append_right _ (List.mem_cons_self ..)⟩
theorem on_eq (hl:r.visits.length≤1048576):Qi2 r o=some (hasO r.visits o):=by
 unfold Qi2
 rw [QiC (l:=r.visits) hl (isO o) (y:=.inr true) (N:=.inl ()) (fun i a ha=>by
  have hlt:=(List.getElem?_eq_some_iff.1 ha).1
  unfold Qgk
  rw [QaY (by simp [lenI]; omega),QaV ha,Qaj,inc hlt hl,brs]
  rfl) (by unfold Qgk; rw [QaO (by simp [lenI])]),Qaj]
 show _=some (r.visits.any (isO o))
 cases r.visits.any (isO o) <;> rfl
theorem L2_eq (hx:Qco x) (hR:Qko r) {a w:Qaa} {i:Nat} {first:List Qaa} (hok:∀ k,i≤k→k≤first.length→OkL r (insAt first k w)) (hfl:first.length≤1048577) (hi:i≤first.length) (hs:JK s) (e1 e2:Int) (e4:List Bool) (e5:List Qaa) (e6:Int) (e0:Bool) (j:Int) :
  loopF (fun s=>Qdp x [a,w] r e0 e1 e2 e4 e5 e6 j first s.1 s.2.1 s.2.2.1 s.2.2.2.1 s.2.2.2.2.1 s.2.2.2.2.2.1 s.2.2.2.2.2.2) (stF2 r s i)=some (repF r ((plcS [w] first i).foldl (betX x r) s)):=by
 have hcat:∀ n,(List.range' i (n+1)).flatMap (fun k=>plcS [] (insAt first k w) (k+1))=(List.range' i n).flatMap (fun k=>plcS [] (insAt first k w) (k+1))++[insAt first (i+n) w]:=fun n=>by
  rw [List.range'_concat,List.flatMap_append]; simp [plcS]
 have hJ:∀ n,i+n≤first.length+1→JK (((List.range' i n).flatMap fun k=>plcS [] (insAt first k w) (k+1)).foldl (betX x r) s):=fun n hn=>by
  refine JK.fold hx hR (fun l hl=>?_) hs
  obtain ⟨k,hk,hl⟩:=List.mem_flatMap.1 hl
  rw [plcS,List.mem_singleton] at hl
  rw [hl]
  rw [List.mem_range'_1] at hk
  exact hok k (by omega) (by omega)
 have hloop:=Qc4 (B:=fun s=>Qdp x [a,w] r e0 e1 e2 e4 e5 e6 j first s.1 s.2.1 s.2.2.1 s.2.2.2.1 s.2.2.2.2.1 s.2.2.2.2.2.1 s.2.2.2.2.2.2) (e:=repF r ((plcS [w] first i).foldl (betX x r) s)) (first.length+1-i)
  (fun n=>stF2 r (((List.range' i n).flatMap fun k=>plcS [] (insAt first k w) (k+1)).foldl (betX x r) s) (i+n)) (by omega) (fun n hn=>by
   have hb:=QxM hx hR (hok (i+n) (by omega) (by omega)) (hJ n (by omega))
   unfold Qdp
   rw [hcat,List.foldl_append]
   show br (leI ((i+n:Nat):Int) (lenI first)) _ _=_
   rw [QaY (by simp [lenI]; omega),show getI [a,w] 1=some w from rfl,Qaj]
   show bnd (Qdh first ((i+n:Nat):Int) w) _=_
   rw [QvL (by omega) (by omega),Qaj]
   refine (QcY hb).trans ?_
   show some (Sum.inl (_,_,_,_,_,_,addK .i64 ((i+n:Nat):Int) 1))=_
   rw [addI (by omega) (by omega),show ((i+n:Nat):Int)+1=((i+(n+1):Nat):Int) by omega]
   rfl) (by
   unfold Qdp
   show br (leI ((i+(first.length+1-i):Nat):Int) (lenI first)) _ _=_
   rw [QaO (by simp [lenI]; omega),plcS]
   rfl)
 exact hloop
theorem QAx (hx:Qco x) (h:InsI r o):QfV x r o=some (insX x r o):=by
 have hlen:=h.len
 have hrl:=h.R.rests
 unfold QfV insX
 by_cases ht:0≤r.type_∧r.type_<x.types.length
 ·rw [QaO (by simp [lenI]; omega),if_pos ht]
  unfold Qfs
  rw [Qaj]
  by_cases ho:0≤o∧o<x.orders.length
  ·rw [QaY (by simp [lenI]; omega),if_pos ho,QsF ho.1 ho.2,Qaj]
   have hoff:offN x o.toNat=(x.orders[o.toNat]'(by omega)).off:=by
    unfold offN
    rw [List.getElem?_eq_getElem (show o.toNat<x.orders.length by omega)]
   rw [← hoff]
   by_cases hf:offN x o.toNat=true
   ·rw [QaY hf,if_pos hf]; rfl
   ·rw [QaO (by simpa using hf),if_neg hf,on_eq (by omega),Qaj]
    by_cases hh:hasO r.visits o=true
    ·rw [QaY hh,if_pos hh]; rfl
    ·rw [QaO (by simpa using hh),if_neg hh,QyF ho.1 ho.2 hx.orders,Qaj]
     have hok:=h.okL (x:=x) (by simpa using hh)
     have hb:bestI x r o=(plcS (visO x o) r.visits r.rests.length).foldl (betX x r) none:=rfl
     have hvl:=Qpr (x:=x) (o:=o)
     have hne:visO x o≠[]:=fun e=>by
      obtain ⟨v,hv⟩:=Qyy hx (i:=o.toNat) (by omega)
      rw [show ((o.toNat:Nat):Int)=o by omega,e] at hv
      cases hv
     revert hb hok hvl hne
     generalize visO x o=V
     intro hok hb hvl hne
     have key:loopF (fun s=>QbY x V s.1 s.2.1 s.2.2.1 s.2.2.2.1 s.2.2.2.2.1 s.2.2.2.2.2.1 s.2.2.2.2.2.2.1 s.2.2.2.2.2.2.2) (stF r none r.rests.length)=some (repF r (bestI x r o)):=by
      match V,hok,hvl,hne,hb with
      | [a],hok,_,_,hb =>
       have hokk:∀ k,r.rests.length≤k→k≤r.visits.length→OkL r (insAt r.visits k a):=fun k h1 h2=>hok _ (by
        rw [plcS,List.mem_flatMap]
        exact ⟨k,by rw [List.mem_range'_1]; omega,by rw [plcS]; exact List.mem_singleton.2 rfl⟩)
       have hcat:∀ n,(List.range' r.rests.length (n+1)).flatMap (fun k=>plcS [] (insAt r.visits k a) (k+1))=(List.range' r.rests.length n).flatMap (fun k=>plcS [] (insAt r.visits k a) (k+1))++[insAt r.visits (r.rests.length+n) a]:=fun n=>by
        rw [List.range'_concat,List.flatMap_append]; simp [plcS]
       have hJ:∀ n,r.rests.length+n≤r.visits.length+1→JK (((List.range' r.rests.length n).flatMap fun k=>plcS [] (insAt r.visits k a) (k+1)).foldl (betX x r) none):=fun n hn=>by
        refine JK.fold hx h.R (fun l hl=>?_) JK.none
        obtain ⟨k,hk,hl⟩:=List.mem_flatMap.1 hl
        rw [plcS,List.mem_singleton] at hl
        rw [hl]
        rw [List.mem_range'_1] at hk
        exact hokk k (by omega) (by omega)
       have hloop:=Qc4 (B:=fun s=>QbY x [a] s.1 s.2.1 s.2.2.1 s.2.2.2.1 s.2.2.2.2.1 s.2.2.2.2.2.1 s.2.2.2.2.2.2.1 s.2.2.2.2.2.2.2) (e:=repF r (bestI x r o)) (r.visits.length+1-r.rests.length)
        (fun n=>stF r (((List.range' r.rests.length n).flatMap fun k=>plcS [] (insAt r.visits k a) (k+1)).foldl (betX x r) none) (r.rests.length+n)) (by omega) (fun n hn=>by
         have hbt:=QxM hx h.R (hokk (r.rests.length+n) (by omega) (by omega)) (hJ n (by omega))
         unfold QbY
         rw [hcat,List.foldl_append]
         show br (leI ((r.rests.length+n:Nat):Int) (lenI r.visits)) _ _=_
         rw [QaY (by simp [lenI]; omega),show getI [a] 0=some a from rfl,Qaj]
         show bnd (Qdh r.visits ((r.rests.length+n:Nat):Int) a) _=_
         rw [QvL (by omega) (by omega),Qaj,QaY (by rfl)]
         refine (QcY hbt).trans ?_
         show some (Sum.inl (_,_,_,_,_,_,_,addK .i64 ((r.rests.length+n:Nat):Int) 1))=_
         rw [addI (by omega) (by omega),show ((r.rests.length+n:Nat):Int)+1=((r.rests.length+(n+1):Nat):Int) by omega]
         rfl) (by
         unfold QbY
         show br (leI ((r.rests.length+(r.visits.length+1-r.rests.length):Nat):Int) (lenI r.visits)) _ _=_
         rw [QaO (by simp [lenI]; omega),hb,plcS]
         rfl)
       exact hloop
      | [a,w],hok,_,_,hb =>
       have hokk:∀ k j,r.rests.length≤k→k≤r.visits.length→k+1≤j→j≤r.visits.length+1→OkL r (insAt (insAt r.visits k a) j w):=fun k j h1 h2 h3 h4=>hok _ (by
        rw [plcS,List.mem_flatMap]
        refine ⟨k,by rw [List.mem_range'_1]; omega,?_⟩
        rw [plcS,List.mem_flatMap]
        exact ⟨j,by rw [List.mem_range'_1,QnD]; omega,by rw [plcS]; exact List.mem_singleton.2 rfl⟩)
       have hcat:∀ n,(List.range' r.rests.length (n+1)).flatMap (fun k=>plcS [w] (insAt r.visits k a) (k+1))=(List.range' r.rests.length n).flatMap (fun k=>plcS [w] (insAt r.visits k a) (k+1))++plcS [w] (insAt r.visits (r.rests.length+n) a) (r.rests.length+n+1):=fun n=>by
        rw [List.range'_concat,List.flatMap_append]; simp
       have hJ:∀ n,r.rests.length+n≤r.visits.length+1→JK (((List.range' r.rests.length n).flatMap fun k=>plcS [w] (insAt r.visits k a) (k+1)).foldl (betX x r) none):=fun n hn=>by
        refine JK.fold hx h.R (fun l hl=>?_) JK.none
        obtain ⟨k,hk,hl⟩:=List.mem_flatMap.1 hl
        rw [plcS,List.mem_flatMap] at hl
        obtain ⟨j,hj,hl⟩:=hl
        rw [plcS,List.mem_singleton] at hl
        rw [hl]
        rw [List.mem_range'_1] at hk hj
        rw [QnD] at hj
        exact hokk k j (by omega) (by omega) (by omega) (by omega)
       have hloop:=Qc4 (B:=fun s=>QbY x [a,w] s.1 s.2.1 s.2.2.1 s.2.2.2.1 s.2.2.2.2.1 s.2.2.2.2.2.1 s.2.2.2.2.2.2.1 s.2.2.2.2.2.2.2) (e:=repF r (bestI x r o)) (r.visits.length+1-r.rests.length)
        (fun n=>stF r (((List.range' r.rests.length n).flatMap fun k=>plcS [w] (insAt r.visits k a) (k+1)).foldl (betX x r) none) (r.rests.length+n)) (by omega) (fun n hn=>by
         have hin:=L2_eq (a:=a) (w:=w) (i:=r.rests.length+n+1) (first:=insAt r.visits (r.rests.length+n) a) hx h.R (s:=((List.range' r.rests.length n).flatMap fun k=>plcS [w] (insAt r.visits k a) (k+1)).foldl (betX x r) none) (fun k hk1 hk=>by
          rw [QnD] at hk
          exact hokk (r.rests.length+n) k (by omega) (by omega) hk1 (by omega)) (by rw [QnD]; omega) (by rw [QnD]; omega) (hJ n (by omega))
         unfold QbY
         rw [hcat,List.foldl_append]
         show br (leI ((r.rests.length+n:Nat):Int) (lenI r.visits)) _ _=_
         rw [QaY (by simp [lenI]; omega),show getI [a,w] 0=some a from rfl,Qaj]
         show bnd (Qdh r.visits ((r.rests.length+n:Nat):Int) a) _=_
         rw [QvL (by omega) (by omega),Qaj,QaO (by rfl)]
         show bnd (loopF _ (_,_,_,_,_,_,addK .i64 ((r.rests.length+n:Nat):Int) 1)) _=_
         rw [addI (by omega) (by omega)]
         refine (QcY (hin _ _ _ _ _ _ _)).trans ?_
         show some (Sum.inl (_,_,_,_,_,_,_,addK .i64 ((r.rests.length+n:Nat):Int) 1))=_
         rw [addI (by omega) (by omega),show ((r.rests.length+n:Nat):Int)+1=((r.rests.length+(n+1):Nat):Int) by omega]
         rfl) (by
         unfold QbY
         show br (leI ((r.rests.length+(r.visits.length+1-r.rests.length):Nat):Int) (lenI r.visits)) _ _=_
         rw [QaO (by simp [lenI]; omega),hb,plcS]
         rfl)
       exact hloop
      | [],_,_,hne,_=>exact absurd rfl hne
      | a :: b :: c :: t,_,hvl,_,_=>simp at hvl
     refine (QcY key).trans ?_
     cases bestI x r o with
     | none=>rfl
     | some k=>rfl
  ·rw [QaO (by simp [lenI]; omega),if_neg ho]; rfl
 ·rw [QaY (by simp [lenI]; omega),if_neg ht]; rfl
end
end Go.Proofs.YtpkkaboonnedfaaGreatDoor
namespace Go.Proofs.YtpkkaboonnedfaaGreatDoor
set_option linter.unusedSimpArgs false
set_option linter.unusedVariables false
set_option linter.unusedSectionVars false
theorem Qwi:Qed=some true:=by kernel_rfl
section
variable {x : Qac} {r : Qad} {l more : List Qaa} {v : Qaa} {o : Int} {s : Option Ky} {p : Qak}
theorem QEd (hI:InstI x):post (Qhr x) fun b=>b=true→Qco x:=by
 unfold Qhr
 refine Qa8 (Qw3 hI) fun l hl=>QaC.2 fun h=>hl ?_
 rw [eqI_t,lenI] at h
 exact List.eq_nil_of_length_eq_zero (by omega)
structure SzR (r:Qad):Prop where
 rests:r.rests.length≤1048576
 visits:r.visits.length≤1048576
theorem QAI (h:SzR r):Qfe r r=some true:=by
 unfold Qfe
 rw [QaO (by simp)]
 have h1:loopF (fun s=>QbR r r s) 0=some (.inl ()) :=
  Qc4 (B:=fun s=>QbR r r s) r.rests.length (fun i=>(i:Int)) (by have:=h.rests; omega) (fun i hi=>by
   unfold QbR
   rw [QaY (by simp [lenI]; omega),Qxc hi,Qaj,Qaj,QaY (by simp),inc hi h.rests]
   rfl) (by unfold QbR; rw [QaO (by simp [lenI])])
 have h2:loopF (fun s=>Qbz r r s) 0=some (.inl ()) :=
  Qc4 (B:=fun s=>Qbz r r s) r.visits.length (fun i=>(i:Int)) (by have:=h.visits; omega) (fun i hi=>by
   unfold Qbz
   rw [QaY (by simp [lenI]; omega),Qxc hi,Qaj,Qaj,QaY (by simp),inc hi h.visits]
   rfl) (by unfold Qbz; rw [QaO (by simp [lenI])])
 rw [QcY h1,QgU,QcY h2,QgU]
theorem QBK (h1:p.routes.length≤1048576) (h2:p.unserved.length≤1048576) (h:∀ r∈p.routes,SzR r):Qif p p=some true:=by
 unfold Qif Qkm
 rw [QaO (by simp)]
 have h3:loopF (fun s=>Qdo p p s) 0=some (.inl ()) :=
  Qc4 (B:=fun s=>Qdo p p s) p.routes.length (fun i=>(i:Int)) (by omega) (fun i hi=>by
   unfold Qdo
   rw [QaY (by simp [lenI]; omega),Qxc hi,Qaj,Qaj,QAI (h _ (List.getElem_mem hi)),Qaj,QaY rfl,inc hi h1]
   rfl) (by unfold Qdo; rw [QaO (by simp [lenI])])
 have h4:loopF (fun s=>QcV p p s) 0=some (.inl ()) :=
  Qc4 (B:=fun s=>QcV p p s) p.unserved.length (fun i=>(i:Int)) (by omega) (fun i hi=>by
   unfold QcV
   rw [QaY (by simp [lenI]; omega),Qxc hi,Qaj,Qaj,QaO (by simp),inc hi h2]
   rfl) (by unfold QcV; rw [QaO (by simp [lenI])])
 rw [QcY h3,QgU,QcY h4,QgU]
 rfl
theorem Qx1 (hx:Qco x) (h:InsI r o):SzR (insX x r o).1∧(0≤(insX x r o).2.1∧(insX x r o).2.1≤36028797018963968):=by
 have hz:SzR QtG:=⟨by simp [QtG],by simp [QtG]⟩
 unfold insX
 split
 ·split
  ·split
   ·exact ⟨hz,by simp⟩
   ·split
    ·exact ⟨hz,by simp⟩
    ·rename_i hh
     have hJ:JK (bestI x r o):=JK.fold hx h.R (h.okL (by simpa using hh)) JK.none
     cases hb:bestI x r o with
     | none=>exact ⟨hz,by simp⟩
     | some k =>
      obtain ⟨h1,h2⟩:=hJ k hb
      exact ⟨⟨h.R.rests,h2⟩,h1⟩
  ·exact ⟨hz,by simp⟩
 ·exact ⟨hz,by simp⟩
end
end Go.Proofs.YtpkkaboonnedfaaGreatDoor
namespace Go.Proofs.YtpkkaboonnedfaaGreatDoor
set_option linter.unusedSimpArgs false
set_option linter.unusedVariables false
set_option linter.unusedSectionVars false
section
variable {x : Qac} {r : Qad} {l more : List Qaa} {v : Qaa} {o : Int} {s : Option Ky} {p : Qak}
theorem Qzj:∀ (L:List (List Qaa)) (s:Option Ky) (P:Ky→Prop),(∀ k,s=some k→P k)→(∀ l∈L,(prX x (rW r l)).2=0→P (kyX x r l)) →
  (∀ k,L.foldl (betX x r) s=some k→P k)∧(∀ k,s=some k→∃ q,L.foldl (betX x r) s=some q∧q.1≤k.1)∧∀ l∈L,(prX x (rW r l)).2=0→∃ q,L.foldl (betX x r) s=some q∧q.1≤(prX x (rW r l)).1
 | [],s,P,h1,h2=>⟨h1,fun k hk=>⟨k,hk,Int.le_refl _⟩,fun l hl=>by cases hl⟩
 | l :: L,s,P,h1,h2=>by
  have hb:(∀ k,betX x r s l=some k→P k):=fun k hk=>by
   unfold betX at hk
   split at hk
   ·rename_i hp
    have:=h2 l (List.mem_cons_self ..) hp
    cases s with
    | none=>simp only at hk; cases hk; exact this
    | some q =>
     simp only at hk
     split at hk
     ·cases hk; exact this
     ·exact h1 k hk
   ·exact h1 k hk
  have hs:∀ k,s=some k→∃ q,betX x r s l=some q∧q.1≤k.1:=fun k hk=>by
   subst hk
   unfold betX
   split
   ·simp only
    split
    ·rename_i hlt
     refine ⟨_,rfl,?_⟩
     rcases hlt with h|h
     ·omega
     ·omega
    ·exact ⟨k,rfl,Int.le_refl _⟩
   ·exact ⟨k,rfl,Int.le_refl _⟩
  have hl:(prX x (rW r l)).2=0→∃ q,betX x r s l=some q∧q.1≤(prX x (rW r l)).1:=fun hp=>by
   unfold betX
   rw [if_pos hp]
   cases s with
   | none=>exact ⟨_,rfl,Int.le_refl _⟩
   | some k =>
    simp only
    split
    ·exact ⟨_,rfl,Int.le_refl _⟩
    ·rename_i hn
     refine ⟨k,rfl,Int.not_lt.1 fun h=>hn (.inl h)⟩
  obtain ⟨i1,i2,i3⟩:=Qzj L (betX x r s l) P hb fun l' hl'=>h2 l' (List.mem_cons_of_mem _ hl')
  have up:∀ n:Int,(∃ q,betX x r s l=some q∧q.1≤n)→∃ q,(l :: L).foldl (betX x r) s=some q∧q.1≤n:=fun n ⟨q,hq,hn⟩=>by
   obtain ⟨q',h1',h2'⟩:=i2 q hq
   exact ⟨q',h1',by omega⟩
  refine ⟨i1,fun k hk=>up _ (hs k hk),fun l' hl' hp=>?_⟩
  rcases List.mem_cons.1 hl' with rfl|hl'
  ·exact up _ (hl hp)
  ·exact i3 l' hl' hp
end
end Go.Proofs.YtpkkaboonnedfaaGreatDoor
namespace Go.Proofs.YtpkkaboonnedfaaGreatDoor
set_option linter.unusedSimpArgs false
set_option linter.unusedVariables false
set_option linter.unusedSectionVars false
abbrev Cnd:=Int×Qad×Int
noncomputable def stepC (x:Qac) (o:Int) (s:Option Cnd) (a:Int) (r:Qad) (old:Int):Option Cnd :=
 if (insX x r o).2.2=0 then (match s with
  | none=>some (a,(insX x r o).1,(insX x r o).2.1-old)
  | some c=>if (insX x r o).2.1-old<c.2.2 then some (a,(insX x r o).1,(insX x r o).2.1-old) else some c) else s
def cntT (rs:List Qad) (t:Nat):Int:=sumF (fun r=>bit1 (eqI r.type_ (t:Int))) rs
noncomputable def candR (x:Qac) (p:Qak) (o:Int):Nat→Option Cnd
 | 0=>none
 | i+1=>match p.routes[i]? with
  | some r=>stepC x o (candR x p o i) (i:Int) r (prX x r).1
  | none=>candR x p o i
noncomputable def candT (x:Qac) (p:Qak) (o:Int):Nat→Option Cnd
 | 0=>candR x p o p.routes.length
 | t+1=>match x.types[t]? with
  | some ty=>if cntT p.routes t<ty.count then stepC x o (candT x p o t) (p.routes.length:Int) (Qad.mk (t:Int) 0 [] []) 0 else candT x p o t
  | none=>candT x p o t
noncomputable def badR (x:Qac) (p:Qak) (j:Nat):Bool:=match p.routes[j]? with
 | some r=>decide ((prX x r).2≠0)
 | none=>false
noncomputable def QmP (x:Qac) (p:Qak):Nat:=Qoe (badR x p) p.routes.length 0
noncomputable def errP (x:Qac) (p:Qak):Int:=match p.routes[QmP x p]? with
 | some r=>(prX x r).2
 | none=>0
def repI (s:Option Cnd):Qaq:=match s with
 | none=>Qaq.mk (-1) QtG 0
 | some c=>Qaq.mk c.1 c.2.1 c.2.2
def repK (s:Option Cnd):Qam:=match s with
 | none=>Qam.mk false 0 QtG 0
 | some c=>Qam.mk true c.1 c.2.1 c.2.2
def zCnd:Qaq:=Qaq.mk 0 QtG 0
noncomputable def candF (x:Qac) (p:Qak) (o:Int):Option Cnd:=candT x p o x.types.length
noncomputable def findX (x:Qac) (p:Qak) (o:Int):Qaq×Int :=
 if errP x p≠0 then (zCnd,errP x p) else match candF x p o with
  | none=>(zCnd,24)
  | some c=>(Qaq.mk c.1 c.2.1 c.2.2,0)
def JC (n:Nat) (s:Option Cnd):Prop:=∀ c,s=some c→(0≤c.1∧c.1≤n)∧SzR c.2.1∧(-72057594037927936≤c.2.2∧c.2.2≤72057594037927936)
structure InsP (p:Qak) (o:Int):Prop where
 few:p.routes.length≤1000
 each:∀ r∈p.routes,InsI r o∧Qs5 r
section
variable {x : Qac} {r : Qad} {l more : List Qaa} {v : Qaa} {o : Int} {s : Option Cnd} {p : Qak} {n : Nat}
theorem JC.step (hx:Qco x) (hi:InsI r o) (hs:JC n s) {a old:Int} (ha:0≤a∧a≤n) (hold:0≤old∧old≤36028797018963968):JC n (stepC x o s a r old):=by
 obtain ⟨hz,hb⟩:=Qx1 hx hi
 have hn:JC n (some (a,(insX x r o).1,(insX x r o).2.1-old)):=fun c hc=>by
  cases hc
  exact ⟨ha,hz,by simp only; omega⟩
 unfold stepC
 split
 ·cases s with
  | none=>exact hn
  | some c =>
   simp only
   split
   ·exact hn
   ·exact hs
 ·exact hs
theorem QzD (hx:Qco x) (hi:InsI r o) (hs:JC n s) {a old:Int} (hold:0≤old∧old≤36028797018963968):QiJ a r old x o (repI s)=some (x,o,repI (stepC x o s a r old)):=by
 obtain ⟨hz,hb⟩:=Qx1 hx hi
 unfold QiJ
 rw [QCJ hx hi,Qaj,brs,subI (by omega) (by omega)]
 congr 1
 unfold stepC
 by_cases h0:(insX x r o).2.2=0
 ·rw [if_pos h0]
  cases s with
  | none =>
   rw [if_pos (by simp [h0,repI])]
   rfl
  | some c =>
   have hc:=(hs c rfl).1
   by_cases h1:(insX x r o).2.1-old<c.2.2
   ·rw [if_pos (by simp [h0,repI]; omega)]
    simp only [if_pos h1]
    rfl
   ·rw [if_neg (by simp [h0,repI]; omega)]
    simp only [if_neg h1]
 ·rw [if_neg (by simp [h0]),if_neg h0]
theorem QED (hx:Qco x) (hR:Qko r) (h9:Qs5 r):(prX x r).2≠0∨(0≤(prX x r).1∧(prX x r).1≤36028797018963968)∧(0≤r.type_∧r.type_<x.types.length):=by
 by_cases h:(prX x r).2=0
 ·refine .inr ⟨pr_bd hx hR h9 h,?_⟩
  obtain ⟨_,_,_,_,e5⟩:=QxW hx hR h9
  obtain ⟨_,q,hE⟩:=e5 (pr_ev hx hR h9 h)
  exact hE.type_
 ·exact .inl h
theorem Qti:QmP x p≤p.routes.length:=by
 have:=(Qtl (badR x p) p.routes.length 0).2.1
 unfold QmP
 omega
theorem Qw6 (h:errP x p=0):QmP x p=p.routes.length∧∀ r∈p.routes,(prX x r).2=0:=by
 obtain ⟨s1,s2,s3,s4⟩:=Qtl (badR x p) p.routes.length 0
 have hle:=Qti (x:=x) (p:=p)
 rw [Nat.zero_add] at s2 s4
 have hend:QmP x p=p.routes.length:=Classical.byContradiction fun hne=>by
  have hlt:QmP x p<p.routes.length:=by omega
  have hb:badR x p (QmP x p)=true:=s4 hlt
  unfold errP at h
  unfold badR at hb
  rw [List.getElem?_eq_getElem hlt] at h hb
  simp only at h hb
  simp [h] at hb
 refine ⟨hend,fun r hr=>?_⟩
 obtain ⟨j,hj⟩:=List.getElem?_of_mem hr
 have hjl:=(List.getElem?_eq_some_iff.1 hj).1
 have:=s3 j (Nat.zero_le _) (by rw [show Qoe (badR x p) p.routes.length 0=QmP x p from rfl,hend]; exact hjl)
 unfold badR at this
 rw [hj] at this
 simpa using this
theorem QDJ (h:errP x p≠0):QmP x p<p.routes.length:=by
 refine Nat.lt_of_not_le fun hge=>h ?_
 unfold errP
 rw [List.getElem?_eq_none hge]
noncomputable def priX (x:Qac) (p:Qak) (k:Nat):List Int:=(p.routes.take k).map fun r=>(prX x r).1
theorem QAv {k:Nat} (h:p.routes[k]?=some r):priX x p k++[(prX x r).1]=priX x p (k+1):=by
 unfold priX; rw [QlG h,List.map_append]; rfl
theorem QAu {k:Nat}:(priX x p k).length≤k:=by unfold priX; rw [List.length_map,List.length_take]; omega
theorem QAt {k:Nat} (h:p.routes[k]?=some r):(priX x p p.routes.length)[k]?=some (prX x r).1:=by
 unfold priX; rw [List.take_length,List.getElem?_map,h]; rfl
theorem QB0 {rs:List Qad} {t:Nat}:0≤cntT rs t∧cntT rs t≤1000*rs.length:=Qyu fun a _=>by have:=QrU (b:=eqI a.type_ (t:Int)); omega
theorem QzE (hx:Qco x) (hP:InsP p o) (l:List Int):loopF (fun s=>QdW x p o l s.1 s.2.1 s.2.2) ([],vecN x.types.length (fun _=>0),0)=some (if errP x p≠0 then .inr (zCnd,errP x p) else .inl (priX x p p.routes.length,vecN x.types.length (cntT p.routes))):=by
 have h6:=hx.types
 have hf:=hP.few
 have hloop:=Qwx (n:=p.routes.length) (by omega) (badR x p) (fun k=>(priX x p k,vecN x.types.length (cntT (p.routes.take k)),(k:Int))) (fun j=>(.inr (zCnd,match p.routes[j]? with|some r=>(prX x r).2|none=>0):(List Int×List Int)⊕(Qaq×Int)))
  (B:=fun s=>QdW x p o l s.1 s.2.1 s.2.2) (N:=.inl (priX x p p.routes.length,vecN x.types.length (cntT p.routes))) (fun j hj=>by
   have e:p.routes[j]?=some p.routes[j]:=List.getElem?_eq_getElem hj
   have hm:=List.getElem_mem hj
   generalize p.routes[j]=r at e hm
   obtain ⟨hi,h9⟩:=hP.each r hm
   show QdW x p o l (priX x p j) (vecN x.types.length (cntT (p.routes.take j))) (j:Int)=_
   unfold QdW
   rw [QcZ e,(Qvx hx hi.R h9).1,Qaj,incL e (by omega)]
   unfold badR
   rw [e]
   simp only
   rcases QED hx hi.R h9 with h|⟨h,h2⟩
   ·rw [QaY (by simpa using h),if_pos (by simpa using h)]
    rfl
   ·by_cases h0:(prX x r).2=0
    ·obtain ⟨t,ht⟩:∃ t:Nat,r.type_=t:=⟨r.type_.toNat,by omega⟩
     have hl:=QAu (x:=x) (p:=p) (k:=j+1)
     have hcb:=QB0 (rs:=p.routes.take j) (t:=t)
     have htl:(p.routes.take j).length≤1000:=by rw [List.length_take]; omega
     rw [QaO (by simpa using h0),if_neg (by simpa using h0),QAv e,Qec (QeE (by omega)),ht,QCp (by omega) (by omega),Qaj,Int.toNat_natCast,addI (by omega) (by omega),QAU (by omega)]
     congr 4
     refine Qin fun d hd=>?_
     have estep:cntT (p.routes.take (j+1)) d=cntT (p.routes.take j) d+bit1 (eqI r.type_ (d:Int)):=Qum e
     rw [estep,ht]
     by_cases hdt:d=t
     ·subst hdt; rw [if_pos rfl]; simp [bit1,eqI]
     ·rw [if_neg hdt]
      have:eqI (t:Int) (d:Int)=false:=by simp; omega
      rw [this]; simp [bit1]
    ·rw [QaY (by simpa using h0),if_pos (by simpa using h0)]
     rfl) (by
   show QdW x p o l (priX x p p.routes.length) (vecN x.types.length (cntT (p.routes.take p.routes.length))) (p.routes.length:Int)=_
   unfold QdW
   rw [QbG,List.take_length])
 have hle:=Qti (x:=x) (p:=p)
 refine Eq.trans hloop ?_
 congr 1
 by_cases he:errP x p=0
 ·rw [if_neg (show ¬ Qoe (badR x p) p.routes.length 0<p.routes.length by rw [show Qoe (badR x p) p.routes.length 0=QmP x p from rfl,(Qw6 he).1]; omega),if_neg (by simpa using he)]
 ·rw [if_pos (show Qoe (badR x p) p.routes.length 0<p.routes.length from QDJ he),if_pos he]
  rfl
theorem JC.R (hx:Qco x) (hP:InsP p o) (h0:∀ r∈p.routes,(prX x r).2=0):∀ i,i≤p.routes.length→JC p.routes.length (candR x p o i)
 | 0,_=>fun c hc=>by cases hc
 | i+1,hi=>by
  have e:p.routes[i]?=some p.routes[i]:=List.getElem?_eq_getElem (by omega)
  have hm:=List.getElem_mem (show i<p.routes.length by omega)
  rw [candR,e]
  obtain ⟨h1,h9⟩:=hP.each _ hm
  exact JC.step hx h1 (JC.R hx hP h0 i (by omega)) (by omega) (pr_bd hx h1.R h9 (h0 _ hm))
theorem newI {t:Nat} (ht:t≤1000):InsI (Qad.mk (t:Int) 0 [] []) o:=⟨⟨(show isI64 (t:Int) from ⟨by omega,by omega⟩),(show isI64 0 from ⟨by omega,by omega⟩),by simp,by simp⟩,by simp,fun _=>.inl (by simp)⟩
theorem JC.T (hx:Qco x) (hP:InsP p o) (h0:∀ r∈p.routes,(prX x r).2=0):∀ t,t≤x.types.length→JC p.routes.length (candT x p o t)
 | 0,_=>JC.R hx hP h0 _ (Nat.le_refl _)
 | t+1,ht=>by
  have h6:=hx.types
  have e:x.types[t]?=some x.types[t]:=List.getElem?_eq_getElem (by omega)
  rw [candT,e]
  simp only
  split
  ·exact JC.step hx (newI (by omega)) (JC.T hx hP h0 t (by omega)) (by omega) (by omega)
  ·exact JC.T hx hP h0 t (by omega)
def tupI (x:Qac) (o:Int) (s:Option Cnd) (i:Nat):Qac×Int×Int×Int×List Bool×List Qaa×Int×Int×Int :=
 (x,(repI s).at_,(repI s).route.type_,(repI s).route.start,(repI s).route.rests,(repI s).route.visits,(repI s).increase,o,(i:Int))
theorem QCL (hx:Qco x) (hP:InsP p o):QmF x p o=some (findX x p o):=by
 have h6:=hx.types
 have hf:=hP.few
 unfold QmF findX
 rw [show lenI x.types=(x.types.length:Int) from rfl,zeros (by omega),Qaj,QcY (QzE hx hP _)]
 by_cases he:errP x p=0
 ·rw [if_neg (by simpa using he),if_neg (by simpa using he),QgU]
  obtain ⟨_,h0⟩:=Qw6 he
  have l2:∀ l,loopF (fun s=>Qez p l (priX x p p.routes.length) (vecN x.types.length (cntT p.routes)) s.1 s.2.1 s.2.2.1 s.2.2.2.1 s.2.2.2.2.1 s.2.2.2.2.2.1 s.2.2.2.2.2.2.1 s.2.2.2.2.2.2.2.1 s.2.2.2.2.2.2.2.2) (x,(-1),0,0,[],[],0,o,0)=some (x,repI (candR x p o p.routes.length),o):=fun l =>
   Qc4 (B:=fun s=>Qez p l (priX x p p.routes.length) (vecN x.types.length (cntT p.routes)) s.1 s.2.1 s.2.2.1 s.2.2.2.1 s.2.2.2.2.1 s.2.2.2.2.2.1 s.2.2.2.2.2.2.1 s.2.2.2.2.2.2.2.1 s.2.2.2.2.2.2.2.2) p.routes.length (fun i=>tupI x o (candR x p o i) i) (by omega) (fun i hi=>by
    have e:p.routes[i]?=some p.routes[i]:=List.getElem?_eq_getElem hi
    have hm:=List.getElem_mem hi
    generalize p.routes[i]=r at e hm
    obtain ⟨h1,h9⟩:=hP.each r hm
    have h3:=QzD (a:=(i:Int)) hx h1 (JC.R hx hP h0 i (by omega)) (pr_bd hx h1.R h9 (h0 r hm))
    unfold Qez
    show br (ltI (i:Int) (lenI p.routes)) _ _=_
    rw [QaY (by simp [lenI]; omega)]
    show bnd (getI p.routes (i:Int)) _=_
    rw [QaV e,Qaj]
    show bnd (getI (priX x p p.routes.length) (i:Int)) _=_
    rw [QaV (QAt e),Qaj]
    refine (QcY h3).trans ?_
    rw [candR,e]
    show some (Sum.inl (_,_,_,_,_,_,_,_,addK .i64 (i:Int) 1))=_
    rw [incL e (by omega)]
    rfl) (by
    unfold Qez
    show br (ltI (p.routes.length:Int) (lenI p.routes)) _ _=_
    rw [QaO (by simp [lenI])]
    rfl)
  refine Eq.trans (QcY (l2 _)) ?_
  have l3:∀ l,loopF (fun s=>QdX p l (vecN x.types.length (cntT p.routes)) s.1 s.2.1 s.2.2.1 s.2.2.2.1 s.2.2.2.2) (x,repI (candR x p o p.routes.length),o,(x.types.length:Int),0)=some (repI (candF x p o)):=fun l =>
   Qc4 (B:=fun s=>QdX p l (vecN x.types.length (cntT p.routes)) s.1 s.2.1 s.2.2.1 s.2.2.2.1 s.2.2.2.2) x.types.length (fun t=>(x,repI (candT x p o t),o,(x.types.length:Int),(t:Int))) (by omega) (fun t ht=>by
    have e:x.types[t]?=some x.types[t]:=List.getElem?_eq_getElem ht
    unfold QdX
    show br (ltI (t:Int) (x.types.length:Int)) _ _=_
    rw [QaY (by simp; omega)]
    show bnd (getI (vecN x.types.length (cntT p.routes)) (t:Int)) _=_
    rw [QCp (by omega) (by omega),Qaj]
    show bnd (getI x.types (t:Int)) _=_
    rw [QaV e,Qaj,Int.toNat_natCast]
    show br _ _ (some (Sum.inl (_,_,_,_,addK .i64 (t:Int) 1)))=_
    rw [incL e (by omega),candT,e]
    simp only
    by_cases hc:cntT p.routes t<x.types[t].count
    ·rw [QaY (by simpa using hc),if_pos hc]
     have h3:=QzD (a:=(p.routes.length:Int)) (old:=0) hx (newI (t:=t) (o:=o) (by omega)) (JC.T hx hP h0 t (by omega)) (by omega)
     refine (QcY h3).trans ?_
     rfl
    ·rw [QaO (by simpa using hc),if_neg hc]
     rfl) (by
    unfold QdX
    show br (ltI (x.types.length:Int) (x.types.length:Int)) _ _=_
    rw [QaO (by simp)]
    rfl)
  refine (QcY (l3 _)).trans ?_
  have hJ:=JC.T hx hP h0 x.types.length (Nat.le_refl _)
  unfold candF
  cases hc:candT x p o x.types.length with
  | none=>rfl
  | some c =>
   have:=(hJ c hc).1
   simp only [repI]
   rw [QaO (by simp; omega)]
 ·rw [if_pos he,if_pos he,Qlr]
end
end Go.Proofs.YtpkkaboonnedfaaGreatDoor
namespace Go.Proofs.YtpkkaboonnedfaaGreatDoor
set_option linter.unusedSimpArgs false
set_option linter.unusedVariables false
set_option linter.unusedSectionVars false
def withS (p:Qak) (o:Int) (c:Cnd):Qak:=Qak.mk (if c.1<p.routes.length then p.routes.set c.1.toNat c.2.1 else p.routes++[c.2.1]) (p.unserved.filter fun i=>neI i o)
def servB (p:Qak) (o:Int):Bool:=p.routes.any fun r=>hasO r.visits o
def zPlan:Qak:=Qak.mk [] []
noncomputable def planX (x:Qac) (p:Qak) (o:Int):Qak×Int :=
 if 0≤o∧o<x.orders.length then
  if offN x o.toNat=true then (zPlan,9) else if servB p o=true then (zPlan,6) else if errP x p≠0 then (zPlan,errP x p) else match candF x p o with
   | none=>(zPlan,24)
   | some c=>(withS p o c,0)
 else (zPlan,2)
section
variable {x : Qac} {r : Qad} {l more : List Qaa} {v : Qaa} {o : Int} {s : Option Cnd} {p : Qak} {n : Nat}
theorem QA3 (hx:Qco x) (hP:InsP p o):QgR x p=some (if errP x p≠0 then ([],errP x p) else (priX x p p.routes.length,0)):=by
 have hf:=hP.few
 unfold QgR
 have hloop:=Qwx (n:=p.routes.length) (by omega) (badR x p) (fun k=>(priX x p k,(k:Int))) (fun j=>(.inr ([],match p.routes[j]? with|some r=>(prX x r).2|none=>0):(List Int)⊕(List Int×Int)))
  (B:=fun s=>Qcg x p s.1 s.2) (N:=.inl (priX x p p.routes.length)) (fun j hj=>by
   have e:p.routes[j]?=some p.routes[j]:=List.getElem?_eq_getElem hj
   have hm:=List.getElem_mem hj
   generalize p.routes[j]=r at e hm
   obtain ⟨hi,h9⟩:=hP.each r hm
   show Qcg x p (priX x p j) (j:Int)=_
   unfold Qcg
   rw [QcZ e,(Qvx hx hi.R h9).2,Qaj,incL e (by omega)]
   unfold badR
   rw [e]
   simp only
   by_cases h0:(prX x r).2=0
   ·have hl:=QAu (x:=x) (p:=p) (k:=j+1)
    rw [QaO (by simpa using h0),if_neg (by simpa using h0),QAv e,Qec (QeE (by omega))]
    rfl
   ·rw [QaY (by simpa using h0),if_pos (by simpa using h0)]) (by
   show Qcg x p (priX x p p.routes.length) (p.routes.length:Int)=_
   unfold Qcg
   rw [QbG])
 have hle:=Qti (x:=x) (p:=p)
 by_cases he:errP x p=0
 ·rw [if_neg (show ¬ Qoe (badR x p) p.routes.length 0<p.routes.length by rw [show Qoe (badR x p) p.routes.length 0=QmP x p from rfl,(Qw6 he).1]; omega)] at hloop
  refine Eq.trans (QcY hloop) ?_
  rw [if_neg (by simpa using he)]
  rfl
 ·rw [if_pos (show Qoe (badR x p) p.routes.length 0<p.routes.length from QDJ he)] at hloop
  refine Eq.trans (QcY hloop) ?_
  rw [if_pos he]
  rfl
def tupK (s:Option Cnd) (i:Nat):Bool×Int×Int×Int×List Bool×List Qaa×Int×Int :=
 ((repK s).ok,(repK s).place,(repK s).route.type_,(repK s).route.start,(repK s).route.rests,(repK s).route.visits,(repK s).increase,(i:Int))
theorem QAj (hx:Qco x) (hP:InsP p o) (h0:∀ r∈p.routes,(prX x r).2=0) :
  loopF (fun s=>Qcl x p (priX x p p.routes.length) o s.1 s.2.1 s.2.2.1 s.2.2.2.1 s.2.2.2.2.1 s.2.2.2.2.2.1 s.2.2.2.2.2.2.1 s.2.2.2.2.2.2.2) (false,0,0,0,[],[],0,0)=some (repK (candR x p o p.routes.length)):=by
 have hf:=hP.few
 exact Qc4 (B:=fun s=>Qcl x p (priX x p p.routes.length) o s.1 s.2.1 s.2.2.1 s.2.2.2.1 s.2.2.2.2.1 s.2.2.2.2.2.1 s.2.2.2.2.2.2.1 s.2.2.2.2.2.2.2) p.routes.length (fun i=>tupK (candR x p o i) i) (by omega) (fun i hi=>by
  have e:p.routes[i]?=some p.routes[i]:=List.getElem?_eq_getElem hi
  have hm:=List.getElem_mem hi
  generalize p.routes[i]=r at e hm
  obtain ⟨h1,h9⟩:=hP.each r hm
  obtain ⟨hz,hb⟩:=Qx1 hx h1
  have hpb:=pr_bd hx h1.R h9 (h0 r hm)
  have hJ:=JC.R hx hP h0 i (by omega)
  show Qcl x p (priX x p p.routes.length) o (repK (candR x p o i)).ok (repK (candR x p o i)).place (repK (candR x p o i)).route.type_ (repK (candR x p o i)).route.start (repK (candR x p o i)).route.rests (repK (candR x p o i)).route.visits (repK (candR x p o i)).increase (i:Int)=some (.inl (tupK (candR x p o (i+1)) (i+1)))
  rw [candR,e]
  simp only
  unfold Qcl
  rw [QcZ e,QAx hx h1,Qaj,QaV (QAt e),Qaj,Qaj,subI (by omega) (by omega),incL e (by omega)]
  unfold stepC
  by_cases hk:(insX x r o).2.2=0
  ·rw [QaY (by simpa using hk),if_pos hk]
   cases hc:candR x p o i with
   | none =>
    rw [QaO (by rfl)]
    rfl
   | some c =>
    rw [QaY (by rfl)]
    show br (ltI ((insX x r o).2.1-(prX x r).1) c.2.2) _ _=_
    by_cases h3:(insX x r o).2.1-(prX x r).1<c.2.2
    ·rw [QaY (by simpa using h3)]
     simp only [if_pos h3]
     rfl
    ·rw [QaO (by simpa using h3)]
     simp only [if_neg h3]
     rfl
  ·rw [QaO (by simpa using hk),if_neg hk]
   rfl) (by
  show Qcl x p (priX x p p.routes.length) o (repK (candR x p o p.routes.length)).ok (repK (candR x p o p.routes.length)).place (repK (candR x p o p.routes.length)).route.type_ (repK (candR x p o p.routes.length)).route.start (repK (candR x p o p.routes.length)).route.rests (repK (candR x p o p.routes.length)).route.visits (repK (candR x p o p.routes.length)).increase (p.routes.length:Int)=_
  unfold Qcl
  rw [QbG])
theorem QAk (hf:p.routes.length≤1000) (c:Qam) (t:Nat):loopF (fun s=>Qcm x p o (t:Int) s.1 s.2.1 s.2.2) (c,0,0)=some (c,cntT p.routes t) :=
 Qc4 (B:=fun s=>Qcm x p o (t:Int) s.1 s.2.1 s.2.2) p.routes.length (fun i=>(c,cntT (p.routes.take i) t,(i:Int))) (by omega) (fun i hi=>by
  have e:p.routes[i]?=some p.routes[i]:=List.getElem?_eq_getElem hi
  have hcb:=QB0 (rs:=p.routes.take i) (t:=t)
  have htl:(p.routes.take i).length≤1000:=by rw [List.length_take]; omega
  have estep:cntT (p.routes.take (i+1)) t=cntT (p.routes.take i) t+bit1 (eqI p.routes[i].type_ (t:Int)):=Qum e
  show Qcm x p o (t:Int) c (cntT (p.routes.take i) t) (i:Int)=some (.inl (c,cntT (p.routes.take (i+1)) t,((i+1:Nat):Int)))
  rw [estep]
  unfold Qcm
  rw [QcZ e,incL e (by omega),addI (a:=cntT (p.routes.take i) t) (by omega) (by omega)]
  by_cases h:p.routes[i].type_=(t:Int)
  ·rw [QaY (by simpa using h)]
   have:bit1 (eqI p.routes[i].type_ (t:Int))=1:=by simp [bit1,h]
   rw [this]; rfl
  ·rw [QaO (by simpa using h)]
   have:bit1 (eqI p.routes[i].type_ (t:Int))=0:=by simp [bit1,h]
   rw [this,Int.add_zero]; rfl) (by
  show Qcm x p o (t:Int) c (cntT (p.routes.take p.routes.length) t) (p.routes.length:Int)=_
  unfold Qcm
  rw [QbG,List.take_length])
theorem QD8 (hx:Qco x) (hP:InsP p o) (h0:∀ r∈p.routes,(prX x r).2=0):Qig x p (priX x p p.routes.length) o=some (repK (candF x p o)):=by
 have hf:=hP.few
 have h6:=hx.types
 unfold Qig
 refine Eq.trans (QcY (QAj hx hP h0)) ?_
 have l2:loopF (fun s=>QbZ x p o s.1 s.2) (repK (candR x p o p.routes.length),0)=some (repK (candF x p o)) :=
  Qc4 (B:=fun s=>QbZ x p o s.1 s.2) x.types.length (fun t=>(repK (candT x p o t),(t:Int))) (by omega) (fun t ht=>by
   have e:x.types[t]?=some x.types[t]:=List.getElem?_eq_getElem ht
   have hn:InsI (Qad.mk (t:Int) 0 [] []) o:=newI (by omega)
   have hJ:=JC.T hx hP h0 t (by omega)
   obtain ⟨hz,hb⟩:=Qx1 hx hn
   show QbZ x p o (repK (candT x p o t)) (t:Int)=some (.inl (repK (candT x p o (t+1)),((t+1:Nat):Int)))
   rw [candT,e]
   simp only
   unfold QbZ
   rw [QaY (by simp [lenI]; omega)]
   refine Eq.trans (QcY (QAk (x:=x) (o:=o) hf (repK (candT x p o t)) t)) ?_
   show bnd (getI x.types (t:Int)) _=_
   rw [QaV e,Qaj,incL e (by omega)]
   by_cases hc:cntT p.routes t<x.types[t].count
   ·rw [QaO (show geI (cntT p.routes t) x.types[t].count=false by simpa using hc),if_pos hc,QAx hx hn,Qaj]
    unfold stepC
    by_cases hk:(insX x (Qad.mk (t:Int) 0 [] []) o).2.2=0
    ·rw [if_pos hk,Int.sub_zero]
     cases hcc:candT x p o t with
     | none =>
      rw [QaY (by simp [hk,repK])]
      rfl
     | some c =>
      by_cases h3:(insX x (Qad.mk (t:Int) 0 [] []) o).2.1<c.2.2
      ·rw [QaY (by simp [hk,repK]; exact h3)]
       simp only [if_pos h3]
       rfl
      ·rw [QaO (by simp [hk,repK]; omega)]
       simp only [if_neg h3]
       rfl
    ·rw [if_neg hk,QaO (by simp [hk])]
     rfl
   ·rw [QaY (show geI (cntT p.routes t) x.types[t].count=true by simp; omega),if_neg hc]
    rfl) (by
   show QbZ x p o (repK (candT x p o x.types.length)) (x.types.length:Int)=_
   unfold QbZ
   rw [QaO (by simp [lenI])]
   rfl)
 exact QcY l2
theorem Qvq {L:List Int} {o:Int} {B:List Int×Int→Option ((List Int×Int)⊕List Int)} (hl:L.length≤1048576) (hin:∀ (s:List Int) (i:Nat) a,L[i]?=some a→s.length≤i→B (s,(i:Int))=some (.inl (if neI a o=true then s++[a] else s,(i:Int)+1))) (hend:∀ s,B (s,(L.length:Int))=some (.inr s)) :
  loopF B ([],0)=some (L.filter fun i=>neI i o) :=
 Qc4 (B:=B) L.length (fun i=>((L.take i).filter fun i=>neI i o,(i:Int))) (by omega) (fun i hi=>by
  have e:L[i]?=some L[i]:=List.getElem?_eq_getElem hi
  refine (hin _ i _ e (Nat.le_trans (List.length_filter_le ..) (by rw [List.length_take]; omega))).trans ?_
  rw [QlG e,List.filter_append]
  by_cases h:neI L[i] o=true
  ·rw [if_pos h,List.filter_cons_of_pos (by exact h)]; rfl
  ·rw [if_neg h,List.filter_cons_of_neg (by exact h),List.filter_nil,List.append_nil]; rfl) (by
  refine (hend _).trans ?_
  rw [List.take_length])
theorem QEm {c:Cnd} (h1:p.routes.length≤1000) (h2:p.unserved.length≤1048576) (hc:0≤c.1∧c.1≤p.routes.length):QmG p (Qaq.mk c.1 c.2.1 c.2.2) o=some (withS p o c):=by
 unfold QmG
 have hcl:Qbq p.routes=some p.routes:=by
  unfold Qbq
  rw [Qec (QeE (by omega))]
  cases p.routes with
  | nil=>exact QwY
  | cons a r=>rfl
 have hJ:∀ L,QhL p (Qaq.mk c.1 c.2.1 c.2.2) o L=some (Qak.mk L (p.unserved.filter fun i=>neI i o)):=fun L=>by
  unfold QhL
  refine Eq.trans (QcY (Qvq (L:=p.unserved) (o:=o) h2 (fun s i a ha hs=>by
   have hlt:=(List.getElem?_eq_some_iff.1 ha).1
   show Qfw p _ o L s (i:Int)=_
   unfold Qfw
   rw [QcZ ha,incL ha h2]
   by_cases h:neI a o=true
   ·rw [QaY h,if_pos h,Qec (QeE (by simp; omega))]
   ·rw [QaO (by simpa using h),if_neg h]) (fun s=>by
   show Qfw p _ o L s (p.unserved.length:Int)=_
   unfold Qfw
   rw [QbG]))) ?_
  rfl
 rw [hcl,Qaj]
 unfold withS
 by_cases h:c.1<p.routes.length
 ·rw [QaY (by simp [lenI]; omega),if_pos h,QsF hc.1 h,Qaj,hJ]
  rfl
 ·rw [QaO (by simp [lenI]; omega),if_neg h,Qec (QeE (by simp; omega)),hJ]
theorem QCv {c:Cnd} (h1:p.routes.length≤1000) (h2:p.unserved.length≤1048576) (hc:0≤c.1∧c.1≤p.routes.length):Qgi p (Qam.mk true c.1 c.2.1 c.2.2) o=some (withS p o c):=by
 obtain ⟨k,hk⟩:∃ k:Nat,c.1=k:=⟨c.1.toNat,by omega⟩
 unfold Qgi
 have hJ:∀ L,Qdb p (Qam.mk true c.1 c.2.1 c.2.2) o L=some (Qak.mk L (p.unserved.filter fun i=>neI i o)):=fun L=>by
  unfold Qdb
  refine Eq.trans (QcY (Qvq (L:=p.unserved) (o:=o) h2 (fun s i a ha hs=>by
   have hlt:=(List.getElem?_eq_some_iff.1 ha).1
   show Qdc p _ o L s (i:Int)=_
   unfold Qdc
   rw [QcZ ha,incL ha h2]
   by_cases h:neI a o=true
   ·rw [QaY h,if_pos h,Qec (QeE (by simp; omega))]
   ·rw [QaO (by simpa using h),if_neg h]) (fun s=>by
   show Qdc p _ o L s (p.unserved.length:Int)=_
   unfold Qdc
   rw [QbG]))) ?_
  rfl
 have l1:loopF (fun s=>Qb6 p (Qam.mk true c.1 c.2.1 c.2.2) o s.1 s.2) ([],0)=some (p.routes.set k c.2.1) :=
  Qc4 (B:=fun s=>Qb6 p (Qam.mk true c.1 c.2.1 c.2.2) o s.1 s.2) p.routes.length (fun i=>((p.routes.set k c.2.1).take i,(i:Int))) (by omega) (fun i hi=>by
   have e:p.routes[i]?=some p.routes[i]:=List.getElem?_eq_getElem hi
   have e2:(p.routes.set k c.2.1)[i]?=some (if k=i then c.2.1 else p.routes[i]):=by
    rw [List.getElem?_set]
    by_cases h:k=i
    ·rw [if_pos h,if_pos h,if_pos (by omega)]
    ·rw [if_neg h,if_neg h]; exact e
   have hlen:((p.routes.set k c.2.1).take i).length≤i:=by rw [List.length_take]; omega
   show Qb6 p _ o ((p.routes.set k c.2.1).take i) (i:Int)=some (.inl ((p.routes.set k c.2.1).take (i+1),((i+1:Nat):Int)))
   unfold Qb6
   rw [QaY (by simp [lenI]; omega),incL e (by omega),QlG e2,QaV e,Qaj]
   by_cases h:k=i
   ·rw [QaY (by simp [hk,h]),if_pos h,Qec (QeE (by simp; omega))]
    rfl
   ·rw [QaO (by simp [hk]; omega),if_neg h,Qec (QeE (by simp; omega))]
    rfl) (by
   show Qb6 p _ o ((p.routes.set k c.2.1).take p.routes.length) (p.routes.length:Int)=_
   unfold Qb6
   rw [QbG,List.take_of_length_le (by rw [List.length_set]; exact Nat.le_refl _)])
 refine Eq.trans (QcY l1) ?_
 unfold withS
 simp only
 by_cases h:c.1<p.routes.length
 ·rw [QaO (by simp [lenI]; omega),if_pos h,hJ,hk]
  rfl
 ·rw [QaY (by simp [lenI]; omega),if_neg h,Qec (QeE (by simp; omega)),hJ,List.set_eq_of_length_le (by omega)]
theorem QBM (h1:p.routes.length≤1000) (hR:∀ r∈p.routes,r.visits.length≤1048576):QiL p o=some (servB p o):=by
 unfold QiL
 have hix:∀ (B:Int→Option (Int⊕(Unit⊕Int))),(∀ (i:Nat) r,p.routes[i]?=some r→B (i:Int)=some (if hasO r.visits o=true then .inr (.inr (i:Int)) else .inl ((i:Int)+1)))→B (p.routes.length:Int)=some (.inr (.inl ())) →
   bnd (loopF B 0) (fun e=>sel e (fun (_:Unit)=>some (-1:Int)) (fun r1=>some r1))=some (ixI (fun r:Qad=>hasO r.visits o) p.routes):=fun B hB hE=>by
  rw [Qs3 (l:=p.routes) (by omega) (fun r:Qad=>hasO r.visits o) (fun k=>.inr (k:Int)) (N:=.inl ()) hB hE,Qaj]
  unfold ixI
  cases ixP (fun r:Qad=>hasO r.visits o) p.routes <;> rfl
 have key:Qa1 p.routes o=some (servB p o):=by
  unfold Qa1 Qbj
  rw [hix _ (fun i r hr=>by
   unfold QaS Qkk
   rw [QcZ hr,Qyz (hR r (List.mem_of_getElem? hr)),Qaj,Qaj,incL hr (by omega),brs]) (by
   unfold QaS
   rw [QbG]),Qaj,Qqm]
  rfl
 rw [key,Qaj]
theorem QAL (h1:p.routes.length≤1000) (hR:∀ r∈p.routes,r.visits.length≤1048576):QgS p o=some (servB p o):=by
 unfold QgS
 rw [QiC (l:=p.routes) (by omega) (fun r:Qad=>hasO r.visits o) (y:=.inr true) (N:=.inl ()) (fun i r hr=>by
  unfold QdQ
  rw [QcZ hr,on_eq (hR r (List.mem_of_getElem? hr)),Qaj,incL hr (by omega),brs]) (by
  unfold QdQ
  rw [QbG]),Qaj]
 unfold servB
 cases p.routes.any (fun r:Qad=>hasO r.visits o) <;> rfl
theorem QCK (hx:Qco x) (hP:InsP p o) (h2:p.unserved.length≤1048576):Qov x p o=some (planX x p o):=by
 have hf:=hP.few
 unfold Qov planX
 rw [QxH,Qaj]
 by_cases ho:0≤o∧o<x.orders.length
 ·rw [if_pos ho,if_pos ho]
  by_cases hoff:offN x o.toNat=true
  ·rw [if_pos hoff,if_pos hoff]; rfl
  ·rw [if_neg hoff,if_neg hoff,QaO (by decide),QBM hf (fun r hr=>(hP.each r hr).1.R.visits),Qaj]
   by_cases hs:servB p o=true
   ·rw [QaY hs,if_pos hs]; rfl
   ·rw [QaO (by simpa using hs),if_neg hs,QCL hx hP,Qaj]
    unfold findX
    by_cases he:errP x p=0
    ·rw [if_neg (by simpa using he),if_neg (by simpa using he)]
     have hJ:=JC.T hx hP (Qw6 he).2 x.types.length (Nat.le_refl _)
     unfold candF
     cases hc:candT x p o x.types.length with
     | none=>rfl
     | some c =>
      simp only
      rw [QaO (by simp),QEm hf h2 (hJ c hc).1,Qaj]
    ·rw [if_pos he,if_pos he,QaY (by simpa using he)]
     rfl
 ·rw [if_neg ho,if_neg ho]; rfl
theorem QDe (hx:Qco x) (hP:InsP p o) (h2:p.unserved.length≤1048576):Qie x p o=some (planX x p o):=by
 have hf:=hP.few
 unfold Qie planX Qfs
 rw [Qaj]
 by_cases ho:0≤o∧o<x.orders.length
 ·rw [QaY (by simp [lenI]; omega),if_pos ho,QsF ho.1 ho.2,Qaj]
  have hoff':offN x o.toNat=(x.orders[o.toNat]'(by omega)).off:=by
   unfold offN
   rw [List.getElem?_eq_getElem (show o.toNat<x.orders.length by omega)]
  rw [← hoff']
  by_cases hoff:offN x o.toNat=true
  ·rw [QaY hoff,if_pos hoff]; rfl
  ·rw [QaO (by simpa using hoff),if_neg hoff,QAL hf (fun r hr=>(hP.each r hr).1.R.visits),Qaj]
   by_cases hs:servB p o=true
   ·rw [QaY hs,if_pos hs]; rfl
   ·rw [QaO (by simpa using hs),if_neg hs,QA3 hx hP,Qaj]
    by_cases he:errP x p=0
    ·rw [if_neg (by simpa using he),if_neg (by simpa using he),QaO (by simp),QD8 hx hP (Qw6 he).2,Qaj]
     have hJ:=JC.T hx hP (Qw6 he).2 x.types.length (Nat.le_refl _)
     unfold candF
     cases hc:candT x p o x.types.length with
     | none=>rfl
     | some c =>
      rw [QaY (by rfl)]
      show bnd (Qgi p (Qam.mk true c.1 c.2.1 c.2.2) o) _=_
      rw [QCv hf h2 (hJ c hc).1,Qaj]
    ·rw [if_pos he,if_pos he,QaY (by simpa using he)]
     rfl
 ·rw [QaO (by simp [lenI]; omega),if_neg ho]; rfl
theorem few41 (h1:p.routes.length≤1048576):post (Qjc p) fun b=>b=true→p.routes.length≤4∧∀ r∈p.routes,r.visits.length≤6∨20<r.visits.length:=by
 unfold Qjc
 refine QaW (fun _=>QaC.2 fun h=>by cases h) (fun h=>?_)
 rw [gtI_f,lenI] at h
 refine Qa8 (R:=fun e=>(∃ u,e=.inl u∧∀ r∈p.routes,r.visits.length≤6∨20<r.visits.length)∨e=.inr false) ?_ fun e he=>?_
 ·refine Qd0 (fun s=>∃ k:Nat,s=(k:Int)∧k≤p.routes.length∧∀ r∈p.routes.take k,r.visits.length≤6∨20<r.visits.length) (fun s=>p.routes.length-s.toNat) ⟨0,rfl,Nat.zero_le _,fun r hr=>by simp at hr⟩ (by simp; omega) ?_
  rintro _ ⟨k,rfl,hk,ha⟩
  unfold QgJ
  rcases Nat.lt_or_ge k p.routes.length with hlt|hge
  ·have e:p.routes[k]?=some p.routes[k]:=List.getElem?_eq_getElem hlt
   rw [QcZ e,incL e h1]
   unfold Qjd
   rw [Qaj]
   refine QaW (fun h2=>QgB ⟨⟨k+1,by omega,hlt,fun r hr=>?_⟩,by simp; omega⟩) (fun _=>Qdq (.inr rfl))
   rw [QlG e] at hr
   rcases List.mem_append.1 hr with hr|hr
   ·exact ha r hr
   ·rw [List.mem_singleton.1 hr]
    rcases orT.1 h2 with h|h
    ·rw [leI_t,lenI] at h; omega
    ·rw [gtI_t,lenI] at h; omega
  ·obtain rfl:k=p.routes.length:=by omega
   rw [QbG]
   rw [List.take_length] at ha
   exact Qdq (.inl ⟨(),rfl,ha⟩)
 ·rcases he with ⟨u,rfl,ha⟩|rfl
  ·rw [QgU]; exact QaC.2 fun _=>⟨by omega,ha⟩
  ·rw [Qlr]; exact QaC.2 fun h=>by cases h
theorem QDp {c:Cnd} (hp:∀ r∈p.routes,SzR r) (hc:SzR c.2.1):∀ r∈(withS p o c).routes,SzR r:=fun r hr=>by
 unfold withS at hr
 simp only at hr
 split at hr
 ·rcases List.mem_or_eq_of_mem_set hr with h|h
  ·exact hp r h
  ·rw [h]; exact hc
 ·rcases List.mem_append.1 hr with h|h
  ·exact hp r h
  ·rw [List.mem_singleton.1 h]; exact hc
theorem QDc (hx:Qco x) (hP:InsP p o) (h2:p.unserved.length≤1048576):(planX x p o).1.routes.length≤1048576∧(planX x p o).1.unserved.length≤1048576∧∀ r∈(planX x p o).1.routes,SzR r:=by
 have hf:=hP.few
 have hz:zPlan.routes.length≤1048576∧zPlan.unserved.length≤1048576∧∀ r∈zPlan.routes,SzR r:=⟨by simp [zPlan],by simp [zPlan],fun r hr=>by simp [zPlan] at hr⟩
 have hs:∀ r∈p.routes,SzR r:=fun r hr=>⟨(hP.each r hr).1.R.rests,(hP.each r hr).1.R.visits⟩
 unfold planX
 split
 ·split
  ·exact hz
  ·split
   ·exact hz
   ·split
    ·exact hz
    ·rename_i he
     have hJ:=JC.T hx hP (Qw6 (by simpa using he)).2 x.types.length (Nat.le_refl _)
     unfold candF
     cases hc:candT x p o x.types.length with
     | none=>exact hz
     | some c =>
      refine ⟨?_,Nat.le_trans (List.length_filter_le ..) h2,QDp hs (hJ c hc).2.1⟩
      unfold withS
      simp only
      split
      ·rw [List.length_set]; omega
      ·simp; omega
 ·exact hz
theorem QDS (hP:PlanI p) (hl:∀ r∈p.routes,r.visits.length≤1048574) (h4:p.routes.length≤4) (hs:∀ r∈p.routes,r.visits.length≤6∨20<r.visits.length):InsP p o:=⟨by omega,fun r hr=>⟨⟨hP.each r hr,hl r hr,fun _=>by have:=hs r hr; omega⟩,by
 have:=hs r hr
 unfold Qs5
 omega⟩⟩
theorem QtV (x:Qac) (hI:InstI x) (p:Qak) (hP:PlanI p) (hl:∀ r∈p.routes,r.visits.length≤1048574) (o:Int):Qfy x p o=some true:=by
 apply post.eq
 unfold Qfy
 rw [Qwi]
 refine Qa8 (QEd hI) fun b hb=>QaW (fun h1=>?_) (fun _=>QaC.2 rfl)
 have hx:=hb h1
 refine Qa8 (few41 hP.routes) fun b2 hb2=>QaW (fun h2=>?_) (fun _=>QaC.2 rfl)
 obtain ⟨h4,hs⟩:=hb2 h2
 have hp:InsP p o:=QDS hP hl h4 hs
 obtain ⟨z1,z2,z3⟩:=QDc hx hp hP.unserved
 rw [QCK hx hp hP.unserved,Qaj,QDe hx hp hP.unserved,Qaj,QaY (by simp),QBK z1 z2 z3,Qaj,QaY rfl]
 exact QaC.2 rfl
end
end Go.Proofs.YtpkkaboonnedfaaGreatDoor
namespace Go.Proofs.YtpkkaboonnedfaaGreatDoor
set_option linter.unusedSimpArgs false
set_option linter.unusedVariables false
set_option linter.unusedSectionVars false
structure GoodP (x:Qac) (rs:List Qad):Prop where
 each:∀ r∈rs,Qko r∧r.visits.length≤8∧(prX x r).2=0
 once:∀ i:Nat,i<x.orders.length→cntO rs i≤1
 count:∀ (t:Nat) ty,x.types[t]?=some ty→cntT rs t≤ty.count
def BaseC (x:Qac) (p:Qak) (c:Cnd) (b:Qad):Prop:=(∃ i:Nat,c.1=(i:Int)∧p.routes[i]?=some b)∨(c.1=(p.routes.length:Int)∧∃ (t:Nat) (ty:Qai),x.types[t]?=some ty∧b=Qad.mk (t:Int) 0 [] []∧cntT p.routes t<ty.count)
def QEo (x:Qac) (p:Qak) (o:Int) (c:Cnd):Prop:=∃ b,BaseC x p c b∧(insX x b o).2.2=0∧c.2.1=(insX x b o).1
section
variable {x : Qac} {r : Qad} {l more : List Qaa} {v : Qaa} {o : Int} {s : Option Cnd} {p : Qak} {n : Nat} {c : Cnd} {rs : List Qad}
theorem QDT (h:(insX x r o).2.2=0):∃ q∈plcS (visO x o) r.visits r.rests.length,(prX x (rW r q)).2=0∧(insX x r o).1=rW r q∧(0≤o∧o<x.orders.length)∧offN x o.toNat=false∧hasO r.visits o=false:=by
 unfold insX at h ⊢
 split at h
 ·rename_i ht
  split at h
  ·rename_i ho
   split at h
   ·cases h
   ·rename_i hf
    split at h
    ·cases h
    ·rename_i hh
     rw [if_pos ht,if_pos ho,if_neg hf,if_neg hh]
     obtain ⟨b1,_,_⟩:=Qzj (x:=x) (r:=r) (plcS (visO x o) r.visits r.rests.length) none (fun k=>∃ q,q∈plcS (visO x o) r.visits r.rests.length∧(prX x (rW r q)).2=0∧k=kyX x r q) (fun k hk=>by cases hk) (fun q hq hp=>⟨q,hq,hp,rfl⟩)
     cases hb:bestI x r o with
     | none=>rw [hb] at h; cases h
     | some k =>
      obtain ⟨q,q1,q2,q3⟩:=b1 k hb
      exact ⟨q,q1,q2,by rw [q3]; rfl,ho,by simpa using hf,by simpa using hh⟩
  ·cases h
 ·cases h
theorem QBi {k:Nat} {i:Int}:hasO (insAt l k v) i=(hasO l i||isO i v):=by
 unfold hasO insAt
 rw [List.any_append,List.any_append]
 conv=>rhs; rw [← List.take_append_drop k l,List.any_append]
 cases (l.take k).any (isO i) <;> cases (l.drop k).any (isO i) <;> simp
theorem QAq:∀ {more l:List Qaa} {f:Nat},∀ s∈plcS more l f,∀ i,hasO s i=(hasO l i||hasO more i)
 | [],l,f,s,hs,i=>by
  rw [plcS,List.mem_singleton] at hs; rw [hs]; simp [hasO]
 | v :: r,l,f,s,hs,i=>by
  rw [plcS,List.mem_flatMap] at hs
  obtain ⟨k,_,hk⟩:=hs
  rw [QAq s hk i,QBi]
  show ((hasO l i||isO i v)||hasO r i)=(hasO l i||(isO i v||hasO r i))
  rw [Bool.or_assoc]
theorem QDo (hx:Qco x) (ho:0≤o∧o<x.orders.length) {i:Int}:hasO (visO x o) i=eqI o i:=by
 rw [Bool.eq_iff_iff,Quy,eqI_t]
 constructor
 ·rintro ⟨v,hv,rfl⟩
  exact (Qu8 hv).symm
 ·rintro rfl
  obtain ⟨v,hv⟩:=Qyy hx (i:=o.toNat) (by omega)
  rw [show ((o.toNat:Nat):Int)=o by omega] at hv
  exact ⟨v,hv,Qu8 hv⟩
theorem QxA {α:Type} {f:α→Int}:∀ {l:List α} {k:Nat} {a b:α},l[k]?=some b→sumF f (l.set k a)=sumF f l-f b+f a
 | [],k,a,b,h=>by simp at h
 | y :: l,0,a,b,h=>by
  cases h
  simp [sumF]; omega
 | y :: l,k+1,a,b,h=>by
  have:=QxA (f:=f) (l:=l) (k:=k) (a:=a) (b:=b) (by simpa using h)
  simp only [List.set_cons_succ]
  have e1:sumF f (y :: l.set k a)=f y+sumF f (l.set k a):=by simp [sumF]
  have e2:sumF f (y :: l)=f y+sumF f l:=by simp [sumF]
  rw [e1,e2,this]; omega
theorem seq6 (h4:x.orders.length≤4) (ho:0≤o∧o<x.orders.length) (hq:SeqOK x l) (hn:hasO l o=false):l.length≤6:=by
 have hno:∀ v∈l,v.order≠o:=fun v hv e=>by
  have:hasO l o=true:=Quy.2 ⟨v,hv,e⟩
  rw [hn] at this; cases this
 have hg:GoodL x (l++[Qaa.mk o false,Qaa.mk o true]):=by
  refine ⟨?_,fun v hv=>?_⟩
  ·rw [List.nodup_append]
   refine ⟨hq.nodup,by simp,fun a ha b hb e=>?_⟩
   subst e
   simp only [List.mem_cons,List.not_mem_nil,or_false] at hb
   rcases hb with rfl|rfl <;> exact hno _ ha rfl
  ·rcases List.mem_append.1 hv with h|h
   ·exact Qpg hq.inn h
   ·simp only [List.mem_cons,List.not_mem_nil,or_false] at h
    rcases h with rfl|rfl <;> exact ho
 have:=hg.len
 rw [List.length_append] at this
 simp at this
 omega
theorem QEG (h:r.visits.length≤8):Qs5 r:=by unfold Qs5; omega
theorem GoodP.seq (hx:Qco x) (hg:GoodP x rs) (hr:r∈rs):SeqOK x r.visits:=by
 obtain ⟨h1,h2,h3⟩:=hg.each r hr
 exact QEC hx h1 (QEG h2) h3
theorem GoodP.with (hx:Qco x) (h4:x.orders.length≤4) (hg:GoodP x p.routes) {k:Nat} (hk:k<x.orders.length) (hk0:cntO p.routes k≤0) (hc:QEo x p (k:Int) c) :
  GoodP x (withS p (k:Int) c).routes∧(∀ i:Nat,cntO (withS p (k:Int) c).routes i=cntO p.routes i+bit1 (eqI (k:Int) (i:Int)))∧p.routes.length≤(withS p (k:Int) c).routes.length∧(withS p (k:Int) c).routes.length≤p.routes.length+1:=by
 obtain ⟨b,hb,h0,hc2⟩:=hc
 obtain ⟨q,q1,q2,q3,ho,hf,hh⟩:=QDT h0
 have hbI:Qko b∧b.visits.length≤6:=by
  rcases hb with ⟨i,_,e⟩|⟨_,t,ty,e,rfl,_⟩
  ·have hm:=List.mem_of_getElem? e
   exact ⟨(hg.each b hm).1,seq6 h4 ho (hg.seq hx hm) hh⟩
  ·have h6:=hx.types
   have:=(List.getElem?_eq_some_iff.1 e).1
   exact ⟨(newI (t:=t) (o:=(0:Int)) (by omega)).R,by simp⟩
 have hql:=Qxk q q1
 have hvl:=Qpr (x:=x) (o:=(k:Int))
 have hnew:Qko c.2.1∧c.2.1.visits.length≤8∧(prX x c.2.1).2=0:=by
  rw [hc2,q3]
  exact ⟨(rW_I hbI.1 (by omega)).1,show q.length≤8 by omega,q2⟩
 have hhas:∀ i:Nat,bit1 (hasO c.2.1.visits (i:Int))=bit1 (hasO b.visits (i:Int))+bit1 (eqI (k:Int) (i:Int)):=fun i=>by
  rw [hc2,q3]
  show bit1 (hasO q (i:Int))=_
  rw [QAq q q1,QDo hx ho]
  by_cases hi:i=k
  ·subst hi; rw [hh]; simp [bit1,eqI]
  ·have:eqI (k:Int) (i:Int)=false:=by simp; omega
   rw [this]; simp [bit1]
 have hty:c.2.1.type_=b.type_:=by rw [hc2,q3]; rfl
 rcases hb with ⟨i,hi,e⟩|⟨hi,t,ty,e,rfl,hlt⟩
 ·have hil:=(List.getElem?_eq_some_iff.1 e).1
  have hw:(withS p (k:Int) c).routes=p.routes.set i c.2.1:=by
   unfold withS
   simp only
   rw [hi,if_pos (by omega),Int.toNat_natCast]
  rw [hw]
  have hcO:∀ j:Nat,cntO (p.routes.set i c.2.1) j=cntO p.routes j+bit1 (eqI (k:Int) (j:Int)):=fun j=>by
   have:=QxA (f:=fun r:Qad=>bit1 (hasO r.visits (j:Int))) (l:=p.routes) (k:=i) (a:=c.2.1) (b:=b) e
   have h2:=hhas j
   unfold cntO
   rw [this]; omega
  refine ⟨⟨fun r hr=>?_,fun j hj=>?_,fun t ty et=>?_⟩,hcO,by rw [List.length_set]; exact Nat.le_refl _,by rw [List.length_set]; omega⟩
  ·rcases List.mem_or_eq_of_mem_set hr with h|h
   ·exact hg.each r h
   ·rw [h]; exact hnew
  ·rw [hcO]
   by_cases hjk:j=k
   ·subst hjk
    have:=QrU (b:=eqI (j:Int) (j:Int))
    omega
   ·have:eqI (k:Int) (j:Int)=false:=by simp; omega
    rw [this]
    have:=hg.once j hj
    simp [bit1]; omega
  ·have:=QxA (f:=fun r:Qad=>bit1 (eqI r.type_ (t:Int))) (l:=p.routes) (k:=i) (a:=c.2.1) (b:=b) e
   have h2:=hg.count t ty et
   unfold cntT at h2 ⊢
   rw [this]
   simp only [hty]
   omega
 ·have hw:(withS p (k:Int) c).routes=p.routes++[c.2.1]:=by
   unfold withS
   simp only
   rw [hi,if_neg (by omega)]
  rw [hw]
  have hcO:∀ j:Nat,cntO (p.routes++[c.2.1]) j=cntO p.routes j+bit1 (eqI (k:Int) (j:Int)):=fun j=>by
   have h2:=hhas j
   have h3:hasO (Qad.mk (t:Int) 0 [] []).visits (j:Int)=false:=rfl
   rw [h3] at h2
   unfold cntO
   rw [Qsx,Qsy,h2]
   simp [bit1]
  refine ⟨⟨fun r hr=>?_,fun j hj=>?_,fun t' ty' et=>?_⟩,hcO,by simp,by simp⟩
  ·rcases List.mem_append.1 hr with h|h
   ·exact hg.each r h
   ·rw [List.mem_singleton.1 h]; exact hnew
  ·rw [hcO]
   by_cases hjk:j=k
   ·subst hjk
    have:=QrU (b:=eqI (j:Int) (j:Int))
    omega
   ·have:eqI (k:Int) (j:Int)=false:=by simp; omega
    rw [this]
    have:=hg.once j hj
    simp [bit1]; omega
  ·have h2:=hg.count t' ty' et
   unfold cntT at h2 hlt ⊢
   rw [Qsx,Qsy,hty]
   by_cases htt:t'=t
   ·subst htt
    rw [e] at et
    cases et
    have:=QrU (b:=eqI ((Qad.mk (t':Int) 0 [] []).type_) (t':Int))
    omega
   ·have:eqI ((Qad.mk (t:Int) 0 [] []).type_) (t':Int)=false:=by simp; omega
    rw [this]
    have hz:bit1 false=0:=rfl
    rw [hz]; omega
end
end Go.Proofs.YtpkkaboonnedfaaGreatDoor
namespace Go.Proofs.YtpkkaboonnedfaaGreatDoor
set_option linter.unusedSimpArgs false
set_option linter.unusedVariables false
set_option linter.unusedSectionVars false
section
variable {x : Qac} {r : Qad} {l : List Int} {v : Qaa} {o : Int} {s : Option Cnd} {p : Qak} {n : Nat} {c : Cnd} {rs : List Qad}
def QDw (x:Qac) (l:List Int):Prop:=(∀ a∈l,0≤a∧a<x.orders.length)∧l.Nodup
theorem QDw.len (h:QDw x l):l.length≤x.orders.length:=by
 have hm:(l.map Int.toNat).Nodup:=by
  unfold List.Nodup
  rw [List.pairwise_map]
  refine h.2.imp_of_mem fun {a b} ha hb hne he=>hne ?_
  have h1:=h.1 a ha
  have h2:=h.1 b hb
  omega
 have:=QuI x.orders.length _ hm fun a ha=>by
  obtain ⟨v,hv,rfl⟩:=List.mem_map.1 ha
  have h1:=h.1 v hv
  omega
 simpa using this
end
end Go.Proofs.YtpkkaboonnedfaaGreatDoor
