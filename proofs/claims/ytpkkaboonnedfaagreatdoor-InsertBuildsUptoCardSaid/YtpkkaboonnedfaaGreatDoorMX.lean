/- Part MX of the proof: texts Yua Yub Yuc Yud Yue Yva Yvb Yvc Yvd Yve Yvf Yvg Yvh Yvi Yvj Yvk Yvl Yvm. -/
import Derived.Test.YtpkkaboonnedfaaGreatDoorMR
namespace Go.Proofs.YtpkkaboonnedfaaGreatDoor
set_option linter.unusedSimpArgs false
set_option linter.unusedVariables false
set_option linter.unusedSectionVars false
def ltV (a b:Qaa):Bool:=ltI a.order b.order||(eqI a.order b.order&&(!a.drop&&b.drop))
theorem QE7 {a b:Qaa}:ltV a b=true↔a.order<b.order∨(a.order=b.order∧a.drop=false∧b.drop=true):=by
 unfold ltV
 simp
theorem QD5 {a:Qaa}:ltV a a=false:=by
 rw [Bool.eq_false_iff]
 intro h
 rw [QE7] at h
 rcases h with h|⟨_,h1,h2⟩
 ·omega
 ·rw [h1] at h2; cases h2
theorem QDh {a b c:Qaa} (h1:ltV a b=true) (h2:ltV b c=true):ltV a c=true:=by
 rw [QE7] at *
 rcases h1 with h1|⟨h1,h3,h4⟩ <;> rcases h2 with h2|⟨h2,h5,h6⟩
 ·exact .inl (by omega)
 ·exact .inl (by omega)
 ·exact .inl (by omega)
 ·rw [h4] at h5; cases h5
theorem QGg (a b:Qaa):a=b∨ltV a b=true∨ltV b a=true:=by
 rcases Int.lt_trichotomy a.order b.order with h|h|h
 ·exact .inr (.inl (QE7.2 (.inl h)))
 ·cases ha:a.drop <;> cases hb:b.drop
  ·exact .inl (by cases a; cases b; simp_all)
  ·exact .inr (.inl (QE7.2 (.inr ⟨h,ha,hb⟩)))
  ·exact .inr (.inr (QE7.2 (.inr ⟨h.symm,hb,ha⟩)))
  ·exact .inl (by cases a; cases b; simp_all)
 ·exact .inr (.inr (QE7.2 (.inl h)))
def QvT:List Qaa→List Qaa→Bool
 | [],[]=>false
 | [],_ :: _=>true
 | _ :: _,[]=>false
 | a :: l,b :: m=>ltV a b||(decide (a=b)&&QvT l m)
theorem Qy4:∀ {l:List Qaa},QvT l l=false
 | []=>rfl
 | a :: l=>by unfold QvT; rw [QD5,Qy4]; simp
theorem Qwg:∀ {a b c:List Qaa},QvT a b=true→QvT b c=true→QvT a c=true
 | [],[],_,h,_=>by cases h
 | _ :: _,[],_,h,_=>by cases h
 | [],_ :: _,[],_,h=>by cases h
 | [],_ :: _,_ :: _,_,_=>rfl
 | _ :: _,_ :: _,[],_,h=>by cases h
 | x :: a,y :: b,z :: c,h1,h2=>by
  unfold QvT at *
  simp only [Bool.or_eq_true,Bool.and_eq_true,decide_eq_true_iff] at *
  rcases h1 with h1|⟨rfl,h1⟩
  ·rcases h2 with h2|⟨rfl,h2⟩
   ·exact .inl (QDh h1 h2)
   ·exact .inl h1
  ·rcases h2 with h2|⟨rfl,h2⟩
   ·exact .inl h2
   ·exact .inr ⟨rfl,Qwg h1 h2⟩
theorem Qy5:∀ (a b:List Qaa),a=b∨QvT a b=true∨QvT b a=true
 | [],[]=>.inl rfl
 | [],_ :: _=>.inr (.inl rfl)
 | _ :: _,[]=>.inr (.inr rfl)
 | x :: a,y :: b=>by
  unfold QvT
  simp only [Bool.or_eq_true,Bool.and_eq_true,decide_eq_true_iff]
  rcases QGg x y with rfl|h|h
  ·rcases Qy5 a b with rfl|h|h
   ·exact .inl rfl
   ·exact .inr (.inl (.inr ⟨rfl,h⟩))
   ·exact .inr (.inr (.inr ⟨rfl,h⟩))
  ·exact .inr (.inl (.inl h))
  ·exact .inr (.inr (.inl h))
abbrev Ky:=Int×List Qaa
def kLt (k q:Ky):Prop:=k.1<q.1∨(k.1=q.1∧QvT k.2 q.2=true)
theorem QBm {k:Ky}:¬ kLt k k:=by
 rintro (h|⟨_,h⟩)
 ·omega
 ·rw [Qy4] at h; cases h
theorem QDb {a b c:Ky} (h1:kLt a b) (h2:kLt b c):kLt a c:=by
 rcases h1 with h1|⟨h1,h3⟩ <;> rcases h2 with h2|⟨h2,h4⟩
 ·exact .inl (by omega)
 ·exact .inl (by omega)
 ·exact .inl (by omega)
 ·exact .inr ⟨by omega,Qwg h3 h4⟩
theorem QGd (a b:Ky):a=b∨kLt a b∨kLt b a:=by
 rcases Int.lt_trichotomy a.1 b.1 with h|h|h
 ·exact .inr (.inl (.inl h))
 ·rcases Qy5 a.2 b.2 with h'|h'|h'
  ·exact .inl (Prod.ext h h')
  ·exact .inr (.inl (.inr ⟨h,h'⟩))
  ·exact .inr (.inr (.inr ⟨h.symm,h'⟩))
 ·exact .inr (.inr (.inl h))
theorem QDa {a b c:Ky} (h1:¬ kLt a b) (h2:¬ kLt b c):¬ kLt a c:=fun h=>by
 rcases QGd b c with rfl|h3|h3
 ·exact h1 h
 ·exact h2 h3
 ·exact h1 (QDb h h3)
def Bst (S:Ky→Prop) (s t:Option Ky):Prop:=(∀ k,t=some k→s=some k∨S k)∧(∀ k,(s=some k∨S k)→∃ k',t=some k'∧¬ kLt k k')
theorem Bst.none {S:Ky→Prop} {s:Option Ky} (h:∀ k,¬ S k):Bst S s s :=
 ⟨fun k e=>.inl e,fun k e=>e.elim (fun e=>⟨k,e,QBm⟩) fun e=>absurd e (h k)⟩
theorem Bst.comp {S T:Ky→Prop} {s t u:Option Ky} (h1:Bst S s t) (h2:Bst T t u):Bst (fun k=>S k∨T k) s u:=by
 refine ⟨fun k e=>?_,fun k e=>?_⟩
 ·rcases h2.1 k e with e|e
  ·rcases h1.1 k e with e|e
   ·exact .inl e
   ·exact .inr (.inl e)
  ·exact .inr (.inr e)
 ·have go:(s=some k∨S k)→∃ k',u=some k'∧¬ kLt k k':=fun e=>by
   obtain ⟨a,ha,hl⟩:=h1.2 k e
   obtain ⟨b,hb,hm⟩:=h2.2 a (.inl ha)
   exact ⟨b,hb,QDa hl hm⟩
  rcases e with e|e|e
  ·exact go (.inl e)
  ·exact go (.inr e)
  ·exact h2.2 k (.inr e)
theorem Bst.congr {S T:Ky→Prop} {s t:Option Ky} (h:Bst S s t) (he:∀ k,S k↔T k):Bst T s t :=
 ⟨fun k e=>(h.1 k e).imp id (he k).1,fun k e=>h.2 k (e.imp id (he k).2)⟩
theorem Bst.one {S:Ky→Prop} {k:Ky} (hS:∀ q,S q↔q=k) {s t:Option Ky} (h:(t=some k∧∀ q,s=some q→¬ kLt q k)∨(t=s∧∃ q,s=some q∧¬ kLt k q)):Bst S s t:=by
 rcases h with ⟨rfl,h⟩|⟨rfl,q,rfl,h⟩
 ·refine ⟨fun q e=>.inr ((hS q).2 (Option.some.inj e).symm),fun q e=>⟨k,rfl,?_⟩⟩
  rcases e with e|e
  ·exact h q e
  ·rw [(hS q).1 e]; exact QBm
 ·refine ⟨fun q e=>.inl e,fun q' e=>?_⟩
  rcases e with e|e
  ·exact ⟨q',e,QBm⟩
  ·rw [(hS q').1 e]; exact ⟨q,rfl,h⟩
theorem Bst.nil {S:Ky→Prop} {s:Option Ky} (h:∀ k,¬ S k):Bst S s s:=Bst.none h
theorem Bst.more {α:Type} {T:α→Ky→Prop} {l:List α} {i:Nat} {a:α} {s t u:Option Ky} (h:Bst (fun k=>∃ b∈l.take i,T b k) s t) (ha:l[i]?=some a) (h2:Bst (T a) t u):Bst (fun k=>∃ b∈l.take (i+1),T b k) s u:=by
 refine (h.comp h2).congr fun k=>?_
 rw [take_one ha]
 constructor
 ·rintro (⟨b,hb,h⟩|h)
  ·exact ⟨b,List.mem_append_left _ hb,h⟩
  ·exact ⟨a,by simp,h⟩
 ·rintro ⟨b,hb,h⟩
  rcases List.mem_append.1 hb with hb|hb
  ·exact .inl ⟨b,hb,h⟩
  ·rw [List.mem_singleton.1 hb] at h; exact .inr h
end Go.Proofs.YtpkkaboonnedfaaGreatDoor
namespace Go.Proofs.YtpkkaboonnedfaaGreatDoor
set_option linter.unusedSimpArgs false
set_option linter.unusedVariables false
set_option linter.unusedSectionVars false
def QEJ (v:Qaa):List Qaa→List Qaa
 | []=>[]
 | w :: r=>if w=v then [] else w :: QEJ v r
def QGt (x:Qac) (l:List Qaa) (o:Int):Bool:=x.before.all fun p=>!eqI p.x1 o||(visO x p.x0).all fun w=>l.any (isV w)
def QGu (x:Qac) (l:List Qaa) (v:Qaa):Bool:=!l.any (isV v)&&((QEJ v (visO x v.order)).all (fun w=>l.any (isV w))&&QGt x l v.order)
def offN (x:Qac) (i:Nat):Bool:=match x.orders[i]? with
 | some o=>o.off
 | none=>true
structure QEm (x:Qac) (l:List Qaa):Prop where
 nodup:l.Nodup
 inn:∀ v∈l,0≤v.order∧v.order<x.orders.length
section
variable {x : Qac} {l t : List Qaa} {m : Nat} {v w : Qaa}
theorem QvO {o:Int} (h:v∈visO x o):v.order=o:=by
 unfold visO at h
 split at h
 ·rcases List.mem_append.1 h with h|h <;> (split at h <;> simp at h; rw [h])
 ·cases h
theorem QEm.add (h:QEm x l) (hv:v ∉ l) (h0:0≤v.order∧v.order<x.orders.length):QEm x (l++[v]):=by
 refine ⟨List.nodup_append.2 ⟨h.nodup,by simp,fun a ha b hb=>?_⟩,fun w hw=>?_⟩
 ·rw [List.mem_singleton.1 hb]; exact fun e=>hv (e ▸ ha)
 ·rcases List.mem_append.1 hw with hw|hw
  ·exact h.inn w hw
  ·rw [List.mem_singleton.1 hw]; exact h0
theorem QEm.len (h:QEm x l):l.length≤2*x.orders.length:=by
 have hm:(l.map fun v:Qaa=>2*v.order.toNat+(if v.drop=true then 1 else 0)).Nodup:=by
  unfold List.Nodup
  rw [List.pairwise_map]
  refine h.nodup.imp_of_mem fun {a b} ha hb hne he=>hne ?_
  have h1:=h.inn a ha
  have h2:=h.inn b hb
  cases a with
  | mk ao ad =>
   cases b with
   | mk bo bd =>
    simp only at h1 h2 he
    have hd:ad=bd∧ao=bo:=by
     cases ad <;> cases bd <;> simp at he ⊢ <;> omega
    rw [hd.1,hd.2]
 have:=Qvp (2*x.orders.length) _ hm fun a ha=>by
  obtain ⟨v,hv,rfl⟩:=List.mem_map.1 ha
  have h1:=h.inn v hv
  split <;> omega
 simpa using this
theorem QvP.good (h:QvP x l):QEm x l:=⟨h.nodup,fun v hv=>QpF h.inn hv⟩
theorem QvP.all (h:QvP x l) {o:Int} (ho:hasO l o=true) (hw:w∈visO x o):w∈l:=by
 obtain ⟨v,hv,rfl⟩:=Qvb.1 ho
 have hp:=h.pair v hv
 unfold QwM at hp
 rw [Bool.and_eq_true] at hp
 have hr:=hp.2
 cases hvis:visO x v.order with
 | nil=>rw [hvis] at hw; cases hw
 | cons a r =>
  rw [hvis] at hr hw
  cases r with
  | nil =>
   simp only [rowB,Qs7] at hr
   rw [List.mem_singleton.1 hw]
   exact QBl.1 hr
  | cons b r =>
   obtain ⟨rfl,_⟩:=Qyz hvis
   simp only [rowB,Qs7,Bool.and_eq_true,Qsh] at hr
   rcases List.mem_cons.1 hw with rfl|hw
   ·exact QBl.1 hr.1
   ·rw [List.mem_singleton.1 hw]
    exact QBl.1 (by omega)
theorem QvP.own (h:QvP x l) (hv:v∈l):v∈visO x v.order:=by
 have hp:=h.pair v hv
 unfold QwM at hp
 rw [Bool.and_eq_true] at hp
 exact QCL.1 hp.1
theorem QHa (h:(l++v :: t).Nodup):ixI (isV v) (l++v :: t)=(l.length:Int):=by
 have h0:=QBl.2 (show v∈l++v :: t by simp)
 obtain ⟨k,hk⟩:∃ k:Nat,ixI (isV v) (l++v :: t)=k:=⟨(ixI (isV v) (l++v :: t)).toNat,by omega⟩
 obtain ⟨h1,h2⟩:=Qxo hk
 rw [hk]
 rcases Nat.lt_trichotomy k l.length with h3|h3|h3
 ·rw [List.getElem?_append_left h3] at h1
  exact absurd rfl ((List.nodup_append.1 h).2.2 v (List.mem_of_getElem? h1) v (by simp))
 ·rw [h3]
 ·exact absurd (by rw [List.getElem?_append_right (Nat.le_refl _)]; simp) (h2 l.length h3)
theorem QHT (h:ixI (isV w) (l++t)<(l.length:Int)) (h0:0≤ixI (isV w) (l++t)):w∈l:=by
 obtain ⟨k,hk⟩:∃ k:Nat,ixI (isV w) (l++t)=k:=⟨(ixI (isV w) (l++t)).toNat,by omega⟩
 obtain ⟨h1,_⟩:=Qxo hk
 rw [List.getElem?_append_left (by omega)] at h1
 exact List.mem_of_getElem? h1
theorem QvP.head (h:QvP x (l++v :: t)) (hw:w∈QEJ v (visO x v.order)):w∈l:=by
 have hp:=h.pair v (by simp)
 unfold QwM at hp
 rw [Bool.and_eq_true] at hp
 obtain ⟨h1,hr⟩:=hp
 have hv:=QCL.1 h1
 have hix:=QHa h.nodup
 cases hvis:visO x v.order with
 | nil=>rw [hvis] at hw; cases hw
 | cons a r =>
  rw [hvis] at hr hw hv
  cases r with
  | nil =>
   rw [QEJ,if_pos (List.mem_singleton.1 hv).symm] at hw
   cases hw
  | cons b r =>
   obtain ⟨rfl,hne⟩:=Qyz hvis
   by_cases ha:a=v
   ·rw [QEJ,if_pos ha] at hw; cases hw
   ·have hb:b=v:=by
     rcases List.mem_cons.1 hv with h|h
     ·exact absurd h.symm ha
     ·exact (List.mem_singleton.1 h).symm
    rw [QEJ,if_neg ha,QEJ,if_pos hb] at hw
    rw [List.mem_singleton.1 hw]
    simp only [rowB,Qs7,Bool.and_eq_true,Qsh] at hr
    rw [hb,hix] at hr
    exact QHT hr.2 hr.1
theorem QCO (h:QvP x (l++v :: t)) {p:QaR} (hp:p∈x.before) (ho:p.x1=v.order) (hw:w∈visO x p.x0):w∈l:=by
 have hb:hasO (l++v :: t) p.x1=true:=Qvb.2 ⟨v,by simp,ho.symm⟩
 have h1:badB (l++v :: t) p=false:=by simpa using List.any_eq_false.1 h.before p hp
 unfold badB at h1
 rw [hb,Bool.true_and] at h1
 simp only [Bool.or_eq_false_iff,Bool.not_eq_false'] at h1
 obtain ⟨h2,h3⟩:=h1
 have hm:=h.all h2 hw
 rcases List.mem_append.1 hm with hm|hm
 ·exact hm
 ·exfalso
  unfold QDd at h3
  cases e:ixP (isO p.x1) (l++v :: t) with
  | none =>
   have:=QwC e v (by simp)
   rw [QzZ.2 ho.symm] at this
   cases this
  | some k =>
   rw [e] at h3
   simp only at h3
   have hk:k≤l.length:=Nat.le_of_not_lt fun hlt=>by
    have:=(QqY e).2.2 l.length hlt
    rw [List.getElem_append_right (Nat.le_refl _)] at this
    simp only [Nat.sub_self,List.getElem_cons_zero] at this
    rw [QzZ.2 ho.symm] at this
    cases this
   have:hasO ((l++v :: t).drop k) p.x0=true:=Qvb.2 ⟨w,by rw [List.drop_append_of_le_length hk]; exact List.mem_append_right _ hm,QvO hw⟩
   rw [this] at h3
   cases h3
theorem QvP.ready (h:QvP x (l++v :: t)):QGu x l v=true:=by
 unfold QGu
 have hn:v ∉ l:=fun hv=>(List.nodup_append.1 h.nodup).2.2 v hv v (by simp) rfl
 have e1:l.any (isV v)=false:=by rw [Bool.eq_false_iff,Ne,QCL]; exact hn
 rw [e1,Bool.not_false,Bool.true_and,Bool.and_eq_true,List.all_eq_true]
 refine ⟨fun w hw=>QCL.2 (h.head hw),?_⟩
 unfold QGt
 rw [List.all_eq_true]
 intro p hp
 by_cases ho:p.x1=v.order
 ·rw [Bool.or_eq_true]
  exact .inr (List.all_eq_true.2 fun w hw=>QCL.2 (QCO h hp ho hw))
 ·rw [Bool.or_eq_true]
  exact .inl (by simpa using ho)
end
end Go.Proofs.YtpkkaboonnedfaaGreatDoor
namespace Go.Proofs.YtpkkaboonnedfaaGreatDoor
set_option linter.unusedSimpArgs false
set_option linter.unusedVariables false
set_option linter.unusedSectionVars false
section
variable {x : Qac} {l : List Qaa} {m : Nat} {v : Qaa}
theorem QGc {a:Qaa}:(eqI a.order v.order&&(eqB a.drop v.drop&&true))=isV v a:=by
 rw [Bool.eq_iff_iff,QDZ]; cases v; cases a; simp
end
end Go.Proofs.YtpkkaboonnedfaaGreatDoor
namespace Go.Proofs.YtpkkaboonnedfaaGreatDoor
set_option linter.unusedSimpArgs false
set_option linter.unusedVariables false
set_option linter.unusedSectionVars false
def cmpI (a b:Int):Int:=if a<b then -1 else if b<a then 1 else 0
def cmpV (a b:Qaa):Int:=if cmpI a.order b.order≠0 then cmpI a.order b.order else cmpI (if a.drop=true then 1 else 0) (if b.drop=true then 1 else 0)
theorem QDN (a b:Int):Qgk a b=some (cmpI a b):=by
 unfold Qgk Qjp cmpI
 rw [Qaj,Qaj,show neI a a=false by simp,show neI b b=false by simp,Qhg,Qhg,brs,brs]
 simp only [Qsh,QyZ]
theorem QAN {a b:Int}:cmpI a b=0↔a=b:=by unfold cmpI; split <;> (try split) <;> omega
theorem QDO {a b:Int}:cmpI a b<0↔a<b:=by unfold cmpI; split <;> (try split) <;> omega
theorem QEx (a b:Int):QoL [a,b]=some (if a≠0 then a else b):=by
 unfold QoL
 have g0:Qeb [a,b] 0=some (if a≠0 then .inr (.inr a) else .inl 1):=by
  unfold Qeb
  rw [show br (ltI 0 (lenI [a,b])) (bnd (getI [a,b] 0) fun x0=>br (neI x0 0) (some (.inr (.inr x0))) (some (.inl (addK .i64 0 1)))) (some (.inr (.inl ())))=br (neI a 0) (some (.inr (.inr a):Int⊕(Unit⊕Int))) (some (.inl 1)) from rfl,brs]
  simp only [Qzf]
 have g1:Qeb [a,b] 1=some (if b≠0 then .inr (.inr b) else .inl 2):=by
  unfold Qeb
  rw [show br (ltI 1 (lenI [a,b])) (bnd (getI [a,b] 1) fun x0=>br (neI x0 0) (some (.inr (.inr x0))) (some (.inl (addK .i64 1 1)))) (some (.inr (.inl ())))=br (neI b 0) (some (.inr (.inr b):Int⊕(Unit⊕Int))) (some (.inl 2)) from rfl,brs]
  simp only [Qzf]
 have g2:Qeb [a,b] 2=some (.inr (.inl ())):=rfl
 have key:QaT (fun s=>Qeb [a,b] s) 0=some (if a≠0 then .inr a else if b≠0 then .inr b else .inl ()):=by
  refine QtU 3 (by decide) ?_
  simp only [QvS]
  rw [g0]
  by_cases ha:a≠0
  ·rw [if_pos ha,if_pos ha]
  ·rw [if_neg ha,if_neg ha]
   simp only
   rw [g1]
   by_cases hb:b≠0
   ·rw [if_pos hb,if_pos hb]
   ·rw [if_neg hb,if_neg hb]
    simp only
    rw [g2]
 rw [Qcw key]
 by_cases ha:a≠0
 ·rw [if_pos ha,if_pos ha,Qjn]
 ·rw [if_neg ha,if_neg ha]
  by_cases hb:b≠0
  ·rw [if_pos hb,Qjn]
  ·rw [if_neg hb,Qgh]
   congr 1; omega
theorem QFR (a b:Qaa):QhY a b=some (cmpV a b):=by
 have h1:∀ v:Qaa,Qfj v=some (if v.drop=true then 1 else 0):=fun v=>by unfold Qfj; rw [brs]
 unfold QhY cmpV
 rw [QDN,Qaj,h1,Qaj,h1,Qaj,QDN,Qaj,QEx,Qaj]
theorem QFQ {a b:Qaa}:cmpV a b=0↔a=b:=by
 unfold cmpV
 cases a; cases b
 simp only [ne_eq,QAN,Qaa.mk.injEq]
 split
 ·rename_i h
  rw [QAN]
  exact ⟨fun h'=>absurd h' h,fun h'=>absurd h'.1 h⟩
 ·rename_i h
  rw [QAN]
  rename_i d _ e
  cases d <;> cases e <;> simp_all
theorem QFS {a b:Qaa}:ltI (cmpV a b) 0=ltV a b:=by
 rw [Bool.eq_iff_iff,Qsh,QE7]
 unfold cmpV
 split
 ·rename_i h
  rw [QDO]
  rw [Ne,QAN] at h
  exact ⟨fun h'=>.inl h',fun h'=>h'.elim id fun h'=>absurd h'.1 h⟩
 ·rename_i h
  simp only [ne_eq,QAN,Classical.not_not] at h
  rw [QDO]
  cases a.drop <;> cases b.drop <;> simp <;> omega
theorem QqZ:∀ {k:Nat} {a b:List Qaa},(∀ j,j<k→∃ u,a[j]?=some u∧b[j]?=some u)→QvT a b=QvT (a.drop k) (b.drop k)
 | 0,_,_,_=>rfl
 | k+1,a,b,h=>by
  obtain ⟨u,h1,h2⟩:=h 0 (by omega)
  cases a with
  | nil=>simp at h1
  | cons x a =>
   cases b with
   | nil=>simp at h2
   | cons y b =>
    simp at h1 h2
    subst h1
    subst h2
    rw [QvT,QD5,List.drop_succ_cons,List.drop_succ_cons,← QqZ (k:=k) (a:=a) (b:=b) fun j hj=>by simpa using h (j+1) (by omega)]
    simp
def difN (a b:List Qaa) (k:Nat):Bool:=match a[k]?,b[k]? with
 | some u,some w=>!decide (u=w)
 | some _,none=>true
 | _,_=>false
theorem QyR {a b:List Qaa} {k:Nat} (h:k<a.length) (hd:difN a b k=false):∃ u,a[k]?=some u∧b[k]?=some u:=by
 unfold difN at hd
 rw [List.getElem?_eq_getElem h] at hd ⊢
 cases hb:b[k]? with
 | none=>rw [hb] at hd; cases hd
 | some w =>
  rw [hb] at hd
  simp only [Bool.not_eq_false',decide_eq_true_iff] at hd
  exact ⟨_,rfl,by rw [hd]⟩
theorem QFI {a b:List Qaa} (ha:a.length≤1048576) (hb:b.length≤1048576):QlJ a b=some (QvT a b):=by
 unfold QlJ QaS
 rcases QDy (B:=fun s=>Qat a b s) (n:=a.length) ha (difN a b) (fun k=>(.inr (match a[k]?,b[k]? with|some u,some w=>cmpV u w|_,_=>1):Unit⊕Int)) (N:=.inl ()) (fun i hi=>by
  have e:a[i]?=some a[i]:=List.getElem?_eq_getElem hi
  show Qat a b i=_
  unfold Qat difN
  rw [Qcm e,incL e ha,e]
  generalize a[i]=u at e
  cases hb2:b[i]? with
  | none =>
   rw [QaY (by simp only [Qs7,lenI]; have:=List.getElem?_eq_none_iff.1 hb2; omega)]
   rfl
  | some w =>
   rw [QaO (by have:=(List.getElem?_eq_some_iff.1 hb2).1; simp [lenI]; omega),QaX hb2,Qaj,QFR,Qaj,brs]
   by_cases hq:u=w
   ·rw [if_neg (by simp only [Qzf,Classical.not_not,ne_eq]; exact QFQ.2 hq),if_neg (by simp [hq])]
   ·rw [if_pos (by simp only [Qzf,ne_eq]; exact fun h=>hq (QFQ.1 h)),if_pos (by simp [hq])]) (by
  show Qat a b a.length=_
  unfold Qat
  rw [Qbw]) with ⟨k,h1,h2,h3,h4⟩|⟨h1,h4⟩
 ·rw [Qcw h4,Qjn,Qaj]
  rw [QqZ (k:=k) fun j hj=>QyR (by omega) (h3 j hj)]
  unfold difN at h2
  rw [List.drop_eq_getElem_cons h1]
  rw [List.getElem?_eq_getElem h1] at h2 ⊢
  cases hb2:b[k]? with
  | none =>
   rw [List.drop_eq_nil_of_le (List.getElem?_eq_none_iff.1 hb2)]
   rfl
  | some w =>
   obtain ⟨g1,g2⟩:=List.getElem?_eq_some_iff.1 hb2
   rw [hb2] at h2
   simp only [Bool.not_eq_true',decide_eq_false_iff_not] at h2
   rw [List.drop_eq_getElem_cons g1,QvT,g2]
   simp only
   rw [QFS,decide_eq_false h2,Bool.false_and,Bool.or_false]
 ·rw [Qcw h4,Qgh]
  rw [QqZ (k:=a.length) fun j hj=>QyR hj (h1 j hj),List.drop_length,brs,Qaj]
  by_cases hl:a.length<b.length
  ·rw [if_pos (by simp [lenI]; omega),List.drop_eq_getElem_cons hl]; rfl
  ·rw [if_neg (by simp [lenI]; omega),List.drop_eq_nil_of_le (by omega)]; rfl
theorem QCF {a b:List Qaa} (ha:a.length≤1048576) (hb:b.length≤1048576):Qiu a b=some (QvT a b):=by
 unfold Qiu
 have hmin:min a.length b.length≤1048576:=by omega
 rcases QDy (B:=fun s=>Qc5 a b s) (n:=min a.length b.length) hmin (difN a b) (fun k=>(.inr (match a[k]?,b[k]? with|some u,some w=>ltV u w|_,_=>false):Unit⊕Bool)) (N:=.inl ()) (fun i hi=>by
  have e:a[i]?=some (a[i]'(by omega)):=List.getElem?_eq_getElem _
  have e2:b[i]?=some (b[i]'(by omega)):=List.getElem?_eq_getElem _
  show Qc5 a b i=_
  unfold Qc5 difN QjE
  rw [QaY (by simp [lenI]; omega),QaX e,Qaj,QaX e2,Qaj,incL e ha,e,e2,Qaj]
  generalize a[i]'(by omega)=u
  generalize b[i]'(by omega)=w
  rw [QGc]
  by_cases hq:u=w
  ·rw [QaY (QDZ.2 hq),if_neg (by simp [hq])]
  ·rw [QaO (Bool.eq_false_iff.2 fun h=>hq (QDZ.1 h)),if_pos (by simp [hq])]
   simp only [ltV,Bool.and_assoc]) (by
  show Qc5 a b ((min a.length b.length:Nat):Int)=_
  unfold Qc5
  rw [QaO (by simp [lenI]; omega)]) with ⟨k,h1,h2,h3,h4⟩|⟨h1,h4⟩
 ·rw [Qcw h4,Qjn]
  rw [QqZ (k:=k) fun j hj=>QyR (by omega) (h3 j hj)]
  have g1:k<a.length:=by omega
  have g2:k<b.length:=by omega
  unfold difN at h2
  rw [List.drop_eq_getElem_cons g1,List.drop_eq_getElem_cons g2,QvT]
  rw [List.getElem?_eq_getElem g1,List.getElem?_eq_getElem g2] at h2 ⊢
  simp only [Bool.not_eq_true',decide_eq_false_iff_not] at h2
  simp only
  rw [decide_eq_false h2,Bool.false_and,Bool.or_false]
 ·rw [Qcw h4,Qgh]
  rw [QqZ (k:=min a.length b.length) fun j hj=>QyR (by omega) (h1 j hj)]
  by_cases hl:a.length<b.length
  ·rw [Nat.min_eq_left (by omega),List.drop_length,List.drop_eq_getElem_cons hl,show ltI (lenI a) (lenI b)=true by simp [lenI]; omega]; rfl
  ·rw [Nat.min_eq_right (by omega),show ltI (lenI a) (lenI b)=false by simp [lenI]; omega,List.drop_length]
   cases a.drop b.length <;> rfl
section
variable {x : Qac} {l : List Qaa} {m : Nat} {v : Qaa}
theorem QzM {o:Int} (h0:0≤o) (h1:o<x.orders.length) (h10:x.orders.length≤10):QgZ x.orders o=some (visO x o):=by
 have e:x.orders[o.toNat]?=some (x.orders[o.toNat]'(by omega)):=List.getElem?_eq_getElem _
 generalize x.orders[o.toNat]'(by omega)=q at e
 have hg:getI x.orders o=some q:=by unfold getI; rw [if_pos h0,e]
 unfold QgZ QbQ
 have hs:subK .i64 (lenI x.orders) 1=(x.orders.length:Int)-1:=by unfold lenI; exact subI (by omega) (by omega)
 rw [hs,Qaj,QaY (by simp; omega),hg,Qaj]
 unfold visO
 rw [e]
 have hJ:∀ l1:List Qaa,l1.length≤1→QdZ x.orders o l1=some (l1++if 0≤q.drop.place then [Qaa.mk o true] else []):=fun l1 hl=>by
  unfold QdZ
  rw [hg,Qaj,Qd6 (by unfold okN; simp; omega),QCU]
  simp only [Qs7]
  split <;> simp
 rw [hJ _ (by simp),hJ _ (by simp),Qd6 (by unfold okN; simp),brs]
 simp only [Qs7]
 split <;> rfl
end
end Go.Proofs.YtpkkaboonnedfaaGreatDoor
namespace Go.Proofs.YtpkkaboonnedfaaGreatDoor
set_option linter.unusedSimpArgs false
set_option linter.unusedVariables false
set_option linter.unusedSectionVars false
def rW (b:Qad) (l:List Qaa):Qad:=Qad.mk b.type_ b.start b.rests l
noncomputable def prX (x:Qac) (r:Qad):Int×Int:=(Qhf x r).getD (0,1)
noncomputable def kyX (x:Qac) (b:Qad) (l:List Qaa):Ky:=((prX x (rW b l)).1,l)
def Quf:Qad:=Qad.mk 0 0 [] []
instance (k q:Ky):Decidable (kLt k q):=inferInstanceAs (Decidable (_∨_))
section
variable {x : Qac} {b r : Qad} {l t : List Qaa} {m n : Nat} {v : Qaa} {s : Option Ky}
theorem Qwl (hx:QbW x) (hR:QmN r) (h9:Qtz r):Qhf x r=some (prX x r)∧Qft x r=some (prX x r):=by
 obtain ⟨w,h1,h2⟩:=QAw hx hR h9
 have:prX x r=w:=by unfold prX; rw [h1]; rfl
 rw [this]
 exact ⟨h1,h2⟩
theorem QHk (hx:QbW x) (hR:QmN r) (h9:Qtz r) (h:(prX x r).2=0):(evX x r).2.2=0:=by
 obtain ⟨e1,_⟩:=QyU hx hR h9
 obtain ⟨p1,_⟩:=Qwl hx hR h9
 unfold Qhf at p1
 rw [e1,Qaj] at p1
 by_cases h0:(evX x r).2.2=0
 ·exact h0
 ·rw [QaY (by simpa using h0)] at p1
  have:=Option.some.inj p1
  rw [← this] at h
  exact h
theorem QHl (hx:QbW x) (hR:QmN r) (h9:Qtz r) (h:(prX x r).2=0):QvP x r.visits:=by
 obtain ⟨_,_,_,_,e5⟩:=QyU hx hR h9
 obtain ⟨_,q,hE⟩:=e5 (QHk hx hR h9 h)
 exact Qzu hE.seq
theorem rW_I (hR:QmN b) (hl:l.length≤8):QmN (rW b l)∧Qtz (rW b l):=by
 refine ⟨⟨hR.type_,hR.start,hR.rests,?_⟩,?_⟩
 ·show l.length≤_
  omega
 ·unfold Qtz
  show ¬ (9<l.length∧l.length≤20)
  omega
end
end Go.Proofs.YtpkkaboonnedfaaGreatDoor
namespace Go.Proofs.YtpkkaboonnedfaaGreatDoor
set_option linter.unusedSimpArgs false
set_option linter.unusedVariables false
set_option linter.unusedSectionVars false
def Qqm {α:Type} (l:List α) (k:Nat) (v:α):List α:=l.take k++[v]++l.drop k
def plcS:List Qaa→List Qaa→Nat→List (List Qaa)
 | [],l,_=>[l]
 | v :: r,l,f=>(List.range' f (l.length+1-f)).flatMap fun k=>plcS r (Qqm l k v) (k+1)
section
variable {α : Type} {x : Qac} {r : Qad} {l more : List Qaa} {v : Qaa} {o : Int}
theorem Qn0 {l:List α} {k:Nat} {v:α}:(Qqm l k v).length=l.length+1:=by
 unfold Qqm; simp; omega
theorem Qyg:∀ {more l:List Qaa} {f:Nat},∀ s∈plcS more l f,s.length=l.length+more.length
 | [],l,f,s,hs=>by
  rw [plcS,List.mem_singleton] at hs; rw [hs]; rfl
 | v :: r,l,f,s,hs=>by
  rw [plcS,List.mem_flatMap] at hs
  obtain ⟨k,_,hk⟩:=hs
  rw [Qyg s hk,Qn0,List.length_cons]; omega
theorem QA1 {α β:Type} {g:α→List β} {B:Nat}:∀ {L:List α},(∀ a∈L,(g a).length≤B)→(L.flatMap g).length≤L.length*B
 | [],_=>by simp
 | a :: L,h=>by
  rw [List.flatMap_cons,List.length_append,List.length_cons,Nat.add_mul,Nat.one_mul]
  have h1:=h a (List.mem_cons_self ..)
  have h2:=QA1 (g:=g) (B:=B) (L:=L) fun b hb=>h b (List.mem_cons_of_mem _ hb)
  omega
theorem QBT {f:Nat} (hm:more.length≤2):(plcS more l f).length≤(l.length+1)*(l.length+2):=by
 have one:∀ (l:List Qaa) (v:Qaa) (f:Nat),(plcS [v] l f).length≤l.length+1:=fun l v f=>by
  rw [plcS]
  refine Nat.le_trans (QA1 (B:=1) fun k _=>by rw [plcS]; simp) ?_
  rw [List.length_range']; omega
 match more,hm with
 | [],_ =>
  rw [plcS,List.length_singleton]
  exact Nat.le_trans (show 1≤1*1 by omega) (Nat.mul_le_mul (by omega) (by omega))
 | [v],_=>exact Nat.le_trans (one l v f) (Nat.le_trans (by omega) (Nat.mul_le_mul (Nat.le_refl _) (show 1≤l.length+2 by omega)))
 | [v,w],_ =>
  rw [plcS]
  refine Nat.le_trans (QA1 (B:=l.length+2) fun k _=>Nat.le_trans (one _ w _) (by rw [Qn0]; exact Nat.le_refl _)) ?_
  exact Nat.mul_le_mul_right _ (by rw [List.length_range']; omega)
 | a :: b :: c :: r,h=>simp at h
theorem QGi (h:l.length≤1048580):(l.length+1)*(l.length+2)≤1099532500000:=by
 have:=Nat.mul_le_mul (show l.length+1≤1048581 by omega) (show l.length+2≤1048582 by omega)
 omega
theorem QAM (hl:l.length≤4194304):Qbu l=some l:=by
 unfold Qbu
 rw [Qd6 (QeN (by omega))]
 cases l with
 | nil=>exact QxV
 | cons a r=>rfl
theorem QF8 {k:Nat} (hk:k≤l.length) (hl:l.length≤4194304):insL 16 l (k:Int) [v]=some (Qqm l k v):=by
 unfold insL Qqm
 rw [if_pos ⟨by omega,by omega,by simp,by simp; omega,by simp; omega⟩]
 rw [Int.toNat_natCast]
theorem QHs {α:Type} {a:α} {r:List α}:slcI (a :: r) 1 (lenI (a :: r))=some r:=by
 unfold slcI lenI
 rw [if_pos ⟨by omega,by simp; omega,by simp⟩]
 simp
theorem QBQ:∀ (more:List Qaa) (n:Nat) (l:List Qaa) (f:Nat),more.length<n→more.length≤2→l.length+more.length≤1048580→f≤1048580→Qe3 n l more (f:Int)=some (plcS more l f)
 | [],n+1,l,f,_,_,_,_=>by
  show Qf7 (Qe3 n) l [] (f:Int)=_
  unfold Qf7
  rw [QaY (by simp)]
  rfl
 | v :: r,n+1,l,f,h1,h2,h3,h4=>by
  show Qf7 (Qe3 n) l (v :: r) (f:Int)=_
  simp only [List.length_cons] at h1 h2 h3
  unfold Qf7
  rw [QaO (by simp [lenI]; omega)]
  have hloop:=QcJ (B:=fun s=>Qen (Qe3 n) l (v :: r) s.1 s.2) (e:=plcS (v :: r) l f) (l.length+1-f) (fun i=>(((List.range' f i).flatMap fun k=>plcS r (Qqm l k v) (k+1)),((f+i:Nat):Int))) (by omega) (fun i hi=>by
   simp only
   unfold Qen
   rw [QaY (by simp [lenI]; omega),QAM (by omega),Qaj,show getI (v :: r) 0=some v from rfl,Qaj,QF8 (by omega) (by omega),Qaj,QHs,Qaj,addI (by omega) (by omega),
    show ((f+i:Nat):Int)+1=((f+i+1:Nat):Int) by omega,QBQ r n (Qqm l (f+i) v) (f+i+1) (by omega) (by omega) (by rw [Qn0]; omega) (by omega),Qaj]
   have hcat:((List.range' f i).flatMap fun k=>plcS r (Qqm l k v) (k+1))++plcS r (Qqm l (f+i) v) (f+i+1)=(List.range' f (i+1)).flatMap fun k=>plcS r (Qqm l k v) (k+1):=by
    rw [List.range'_concat,List.flatMap_append]; simp
   rw [hcat]
   have hb:((List.range' f (i+1)).flatMap fun k=>plcS r (Qqm l k v) (k+1)).length≤1099532500000:=by
    have hn:=QBT (more:=v :: r) (l:=l) (f:=f) (by simp; omega)
    rw [plcS] at hn
    refine Nat.le_trans ?_ (Nat.le_trans hn (QGi (by omega)))
    have hsplit:List.range' f (l.length+1-f)=List.range' f (i+1)++List.range' (f+(i+1)) (l.length+1-f-(i+1)):=by
     rw [show f+(i+1)=f+1*(i+1) by omega,List.range'_append]
     congr 1; omega
    rw [hsplit,List.flatMap_append,List.length_append]
    omega
   rw [Qd6 (QeN (by omega))]
   congr 3) (by
   simp only
   unfold Qen
   rw [QaO (by simp [lenI]; omega)]
   rw [plcS])
  have h0:(fun i:Nat=>(((List.range' f i).flatMap fun k=>plcS r (Qqm l k v) (k+1)),((f+i:Nat):Int))) 0=([],(f:Int)):=by simp
  have h9:QaT (fun s=>Qen (Qe3 n) l (v :: r) s.1 s.2) ([],(f:Int))=some (plcS (v :: r) l f):=by rw [← h0]; exact hloop
  rw [Qcw h9]
theorem QDr {f:Nat} (hm:more.length≤2) (hl:l.length+more.length≤1048580) (hf:f≤1048580):Qn4 l more (f:Int)=some (plcS more l f):=by
 unfold Qn4
 exact QBQ more Qxu l f (Nat.lt_of_le_of_lt hm (by decide)) hm hl hf
theorem QwA {k:Nat} (hk:k≤l.length) (hl:l.length≤4194304):Qds l (k:Int) v=some (Qqm l k v):=by
 unfold Qds Qqm
 have h1:slcI l 0 (k:Int)=some (l.take k):=by
  unfold slcI
  rw [if_pos ⟨by omega,by omega,by omega⟩]
  simp
 have h2:slcI l (k:Int) (lenI l)=some (l.drop k):=by
  unfold slcI lenI
  rw [if_pos (by omega)]
  simp only [Int.toNat_natCast]
  rw [List.take_of_length_le (by rw [List.length_drop]; omega)]
 rw [h1,Qaj,Qd6 (QeN (by simp; omega)),Qd6 (QeN (by simp; omega)),h2,Qaj,Qd6 (QeN (by simp; omega))]
end
end Go.Proofs.YtpkkaboonnedfaaGreatDoor
namespace Go.Proofs.YtpkkaboonnedfaaGreatDoor
set_option linter.unusedSimpArgs false
set_option linter.unusedVariables false
set_option linter.unusedSectionVars false
noncomputable def betX (x:Qac) (r:Qad) (s:Option Ky) (l:List Qaa):Option Ky:=if (prX x (rW r l)).2=0 then (match s with
 | none=>some (kyX x r l)
 | some k=>if kLt (kyX x r l) k then some (kyX x r l) else some k) else s
noncomputable def QzP (x:Qac) (r:Qad) (o:Int):Option Ky:=(plcS (visO x o) r.visits r.rests.length).foldl (betX x r) none
noncomputable def insX (x:Qac) (r:Qad) (o:Int):Qad×Int×Int :=
 if 0≤r.type_∧r.type_<x.types.length then
  if 0≤o∧o<x.orders.length then
   if offN x o.toNat=true then (Quf,0,9) else if hasO r.visits o=true then (Quf,0,6) else match QzP x r o with
    | none=>(Quf,0,24)
    | some k=>(rW r k.2,k.1,0)
  else (Quf,0,2)
 else (Quf,0,2)
def stP (r:Qad) (s:Option Ky) (i:Nat):Qad×Int×Int×List Bool×List Qaa×Int×Int:=match s with
 | none=>(r,0,0,[],[],-1,(i:Int))
 | some k=>(r,r.type_,r.start,r.rests,k.2,k.1,(i:Int))
def repF (r:Qad) (s:Option Ky):QaL:=match s with
 | none=>QaL.mk false Quf 0
 | some k=>QaL.mk true (rW r k.2) k.1
def JK (s:Option Ky):Prop:=∀ k,s=some k→(0≤k.1∧k.1≤36028797018963968)∧k.2.length≤1048576
def OkL (r:Qad) (l:List Qaa):Prop:=l.length≤1048576∧Qtz (rW r l)
section
variable {x : Qac} {r : Qad} {l more : List Qaa} {v : Qaa} {o : Int} {s : Option Ky}
theorem QGr (hx:QbW x) (hR:QmN r) (h9:Qtz r) (h:(prX x r).2=0):0≤(prX x r).1∧(prX x r).1≤36028797018963968:=by
 have h:=QHk hx hR h9 h
 obtain ⟨e1,_,_,_,e5⟩:=QyU hx hR h9
 obtain ⟨es,q,hE⟩:=e5 h
 obtain ⟨p1,_⟩:=Qwl hx hR h9
 obtain ⟨c,m,o,w,hs,g1,g2,g3,g4,g5,g6,g7,g8,g9,g10⟩:=hE.score hx
 unfold Qhf at p1
 rw [e1,Qaj,QaO (by simpa using h),es,hs,QyE ⟨g2,g3⟩ ⟨g4,by omega⟩ ⟨g6,by omega⟩ ⟨g8,g9⟩] at p1
 rw [← Option.some.inj p1]
 simp only
 omega
theorem QHe (hR:QmN r) (hl:OkL r l):QmN (rW r l):=⟨hR.type_,hR.start,hR.rests,hl.1⟩
theorem JK.bet (hx:QbW x) (hR:QmN r) (hl:OkL r l) (h:JK s):JK (betX x r s l):=by
 unfold betX
 split
 ·rename_i hp
  have hk:JK (some (kyX x r l)):=fun k e=>by
   cases e
   exact ⟨QGr hx (QHe hR hl) hl.2 hp,hl.1⟩
  cases s with
  | none=>exact hk
  | some k =>
   simp only
   split
   ·exact hk
   ·exact h
 ·exact h
theorem JK.none:JK none:=fun k e=>by cases e
theorem JK.fold (hx:QbW x) (hR:QmN r):∀ {L:List (List Qaa)} {s:Option Ky},(∀ l∈L,OkL r l)→JK s→JK (L.foldl (betX x r) s)
 | [],s,_,h=>h
 | l :: L,s,hL,h=>JK.fold (L:=L) (s:=betX x r s l) hx hR (fun l' h'=>hL l' (List.mem_cons_of_mem _ h')) (h.bet hx hR (hL l (List.mem_cons_self ..)))
theorem QHK {i:Nat}:(stP r s i).2.2.2.2.2.2=(i:Int):=by unfold stP; split <;> rfl
theorem QAo (hx:QbW x) (hR:QmN r) {L:List (List Qaa)} {i:Nat} (hi:L[i]?=some l) (hn:i<1099532500000) (hl:OkL r l) (hs:JK s) (B:_) (hB:B=stP r s i) :
  QeQ x L B.1 B.2.1 B.2.2.1 B.2.2.2.1 B.2.2.2.2.1 B.2.2.2.2.2.1 B.2.2.2.2.2.2=some (.inl (stP r (betX x r s l) (i+1))):=by
 have hlt:=(List.getElem?_eq_some_iff.1 hi).1
 have hp:=(Qwl hx (QHe hR hl) hl.2).1
 subst hB
 have hinc:addK .i64 (i:Int) 1=((i+1:Nat):Int):=by rw [addI (by omega) (by omega)]; omega
 unfold QeQ
 rw [QHK,QaY (by simp [lenI]; omega),QaX hi,Qaj,hinc]
 have hr:Qad.mk (stP r s i).1.type_ (stP r s i).1.start (stP r s i).1.rests l=rW r l:=by unfold stP; split <;> rfl
 rw [hr,hp,Qaj]
 unfold betX
 by_cases h0:(prX x (rW r l)).2=0
 ·rw [QaY (by simpa using h0),if_pos h0]
  cases s with
  | none =>
   rw [QaY (by simp [stP])]
   rfl
  | some k =>
   obtain ⟨⟨k0,k1⟩,k2⟩:=hs k rfl
   simp only [stP]
   rw [QFI hl.1 k2,Qaj,brs]
   by_cases h1:(prX x (rW r l)).1<k.1
   ·rw [QaY (by simp; omega),if_pos (show kLt (kyX x r l) k from .inl h1)]
    rfl
   ·rw [QaO (by simp; omega)]
    by_cases h2:(prX x (rW r l)).1=k.1
    ·rw [QaY (by simpa using h2)]
     by_cases h3:QvT l k.2=true
     ·rw [if_pos h3,if_pos (show kLt (kyX x r l) k from .inr ⟨h2,h3⟩)]
      rfl
     ·rw [if_neg h3,if_neg (show ¬ kLt (kyX x r l) k from fun h=>h.elim (fun h=>h1 h) fun h=>h3 h.2)]
    ·rw [QaO (by simpa using h2),if_neg (show ¬ kLt (kyX x r l) k from fun h=>h.elim (fun h=>h1 h) fun h=>h2 h.1)]
 ·rw [QaO (by simpa using h0),if_neg h0]
  cases s <;> rfl
theorem QA7 {α S:Type} {f:S→α→S} {L:List α} {s:S} {i:Nat} {a:α} (h:L[i]?=some a):(L.take (i+1)).foldl f s=f ((L.take i).foldl f s) a:=by
 rw [List.take_add_one,h,List.foldl_append]; rfl
theorem QzF (hl:r.visits.length≤1048576):Qi5 r o=some (hasO r.visits o):=by
 unfold Qi5 Qbe Qbo
 rw [QsF (l:=r.visits) hl (isO o) (fun k=>.inr (k:Int)) (N:=.inl ()) (fun i a ha=>by
  have hlt:=(List.getElem?_eq_some_iff.1 ha).1
  unfold QaV QkC
  rw [QaY (by simp [lenI]; omega),QaX ha,Qaj,Qaj,inc hlt hl,brs]
  rfl) (by unfold QaV; rw [QaO (by simp [lenI])])]
 have hg:geI (ixI (isO o) r.visits) 0=r.visits.any (isO o):=QpV
 unfold ixI at hg
 cases h:ixP (isO o) r.visits with
 | none=>rw [h] at hg; exact congrArg some hg
 | some k=>rw [h] at hg; exact congrArg some hg
theorem QCJ {o:Int}:QkE x o=some (if 0≤o∧o<x.orders.length then (if offN x o.toNat=true then 9 else 0) else 2):=by
 unfold QkE
 by_cases h:0≤o∧o<x.orders.length
 ·rw [QaO (by simp [lenI]; omega),if_pos h,Qup h.1 h.2,Qaj,brs]
  congr 1
  unfold offN
  rw [List.getElem?_eq_getElem (show o.toNat<x.orders.length by omega)]
 ·rw [QaY (by simp [lenI]; omega),if_neg h]
structure InsI (r:Qad) (o:Int):Prop where
 R:QmN r
 len:r.visits.length≤1048574
 short:hasO r.visits o=false→r.visits.length≤7∨20<r.visits.length
theorem InsI.okL (h:InsI r o) (hn:hasO r.visits o=false):∀ l∈plcS (visO x o) r.visits r.rests.length,OkL r l:=fun l hl=>by
 have h1:=Qyg l hl
 have h2:=QpQ (x:=x) (o:=o)
 have h3:=h.len
 have h4:=h.short hn
 refine ⟨by omega,?_⟩
 unfold Qtz
 show ¬ (9<l.length∧l.length≤20)
 omega
theorem InsI.num (h:InsI r o):(plcS (visO x o) r.visits r.rests.length).length≤1099532500000 :=
 Nat.le_trans (QBT QpQ) (QGi (by have:=h.len; omega))
theorem QEL (hx:QbW x) (h:InsI r o):Qi1 x r o=some (insX x r o):=by
 have hlen:=h.len
 have hrl:=h.R.rests
 unfold Qi1 insX
 by_cases ht:0≤r.type_∧r.type_<x.types.length
 ·rw [QaO (by simp [lenI]; omega),if_pos ht,QCJ,Qaj]
  by_cases ho:0≤o∧o<x.orders.length
  ·rw [if_pos ho,if_pos ho]
   by_cases hf:offN x o.toNat=true
   ·rw [if_pos hf,if_pos hf]; rfl
   ·rw [if_neg hf,if_neg hf,QaO (by decide),QzF (by omega),Qaj]
    by_cases hh:hasO r.visits o=true
    ·rw [QaY hh,if_pos hh]; rfl
    ·rw [QaO (by simpa using hh),if_neg hh,QyC hx ho.1 ho.2,Qaj,lenI,QDr QpQ (by have:=QpQ (x:=x) (o:=o); omega) (by omega),Qaj]
     have hok:=h.okL (x:=x) (by simpa using hh)
     have hnum:=h.num (x:=x)
     have hb:QzP x r o=(plcS (visO x o) r.visits r.rests.length).foldl (betX x r) none:=rfl
     have hJ:=JK.fold (x:=x) hx h.R hok JK.none
     rw [← hb] at hJ
     revert hb hok hnum
     generalize plcS (visO x o) r.visits r.rests.length=L
     intro hok hnum hb
     have hloop:=QcJ (B:=fun s=>QeQ x L s.1 s.2.1 s.2.2.1 s.2.2.2.1 s.2.2.2.2.1 s.2.2.2.2.2.1 s.2.2.2.2.2.2) (e:=(match QzP x r o with|none=>(Quf,(-1:Int))|some k=>(rW r k.2,k.1))) L.length (fun i=>stP r ((L.take i).foldl (betX x r) none) i) (by omega) (fun i hi=>by
      have hg:=List.getElem?_eq_getElem hi
      rw [QA7 hg]
      exact QAo hx h.R hg (by omega) (hok _ (List.getElem_mem hi)) (JK.fold hx h.R (fun l hl=>hok l (List.mem_of_mem_take hl)) JK.none) _ rfl) (by
      unfold QeQ
      rw [QHK,QaO (by simp [lenI]),List.take_length,← hb]
      cases QzP x r o <;> rfl)
     have h0:(fun i:Nat=>stP r ((L.take i).foldl (betX x r) none) i) 0=(r,0,0,[],[],-1,0):=rfl
     have h9:QaT (fun s=>QeQ x L s.1 s.2.1 s.2.2.1 s.2.2.2.1 s.2.2.2.2.1 s.2.2.2.2.2.1 s.2.2.2.2.2.2) (r,0,0,[],[],-1,0)=_:=hloop
     rw [Qcw h9]
     cases hbs:QzP x r o with
     | none=>rfl
     | some k =>
      have:=(hJ k hbs).1
      simp only
      rw [QaO (by simp; omega)]
  ·rw [if_neg ho,if_neg ho]; rfl
 ·rw [QaY (by simp [lenI]; omega),if_neg ht]; rfl
end
end Go.Proofs.YtpkkaboonnedfaaGreatDoor
namespace Go.Proofs.YtpkkaboonnedfaaGreatDoor
set_option linter.unusedSimpArgs false
set_option linter.unusedVariables false
set_option linter.unusedSectionVars false
section
variable {x : Qac} {r : Qad} {l more : List Qaa} {v : Qaa} {o : Int} {s : Option Ky}
def stF (r:Qad) (s:Option Ky) (i:Nat):Qad×Bool×Int×Int×List Bool×List Qaa×Int×Int:=(r,(repF r s).ok,(repF r s).route.type_,(repF r s).route.start,(repF r s).route.rests,(repF r s).route.visits,(repF r s).price,(i:Int))
def stF2 (r:Qad) (s:Option Ky) (i:Nat):Bool×Int×Int×List Bool×List Qaa×Int×Int:=((repF r s).ok,(repF r s).route.type_,(repF r s).route.start,(repF r s).route.rests,(repF r s).route.visits,(repF r s).price,(i:Int))
theorem QyK (hx:QbW x) (hR:QmN r) (hl:OkL r l) (hs:JK s):QfJ x (repF r s) r l=some (repF r (betX x r s l)):=by
 have hp:=(Qwl hx (QHe hR hl) hl.2).2
 unfold QfJ
 rw [show Qad.mk r.type_ r.start r.rests l=rW r l from rfl,hp,Qaj]
 unfold betX
 by_cases h0:(prX x (rW r l)).2=0
 ·rw [QaO (by simpa using h0),if_pos h0]
  cases s with
  | none =>
   rw [QaY (by simp [repF])]
   rfl
  | some k =>
   obtain ⟨⟨k0,k1⟩,k2⟩:=hs k rfl
   simp only [repF]
   rw [QCF hl.1 (show (rW r k.2).visits.length≤1048576 from k2),Qaj,brs]
   by_cases h1:(prX x (rW r l)).1<k.1
   ·rw [QaY (by simp; omega),if_pos (show kLt (kyX x r l) k from .inl h1)]
    rfl
   ·rw [QaO (by simp; omega)]
    by_cases h2:(prX x (rW r l)).1=k.1
    ·rw [QaY (by simpa using h2)]
     by_cases h3:QvT l k.2=true
     ·rw [if_pos (show QvT l (rW r k.2).visits=true from h3),if_pos (show kLt (kyX x r l) k from .inr ⟨h2,h3⟩)]
      rfl
     ·rw [if_neg (show ¬ QvT l (rW r k.2).visits=true from h3),if_neg (show ¬ kLt (kyX x r l) k from fun h=>h.elim (fun h=>h1 h) fun h=>h3 h.2)]
    ·rw [QaO (by simpa using h2),if_neg (show ¬ kLt (kyX x r l) k from fun h=>h.elim (fun h=>h1 h) fun h=>h2 h.1)]
 ·rw [QaY (by simpa using h0),if_neg h0]
theorem QzE (hx:QbW x) {i:Nat} (hi:i<x.orders.length):∃ v,v∈visO x (i:Int):=by
 have e:x.orders[i]?=some x.orders[i]:=List.getElem?_eq_getElem hi
 have hO:=hx.ord _ (List.getElem_mem hi)
 unfold visO
 rw [Int.toNat_natCast,e]
 simp only
 have h1:=hO.pick
 have h2:=hO.drop
 have h3:=hO.one
 unfold QAy at h1 h2
 by_cases hp:0≤x.orders[i].pick.place
 ·rw [if_pos hp]; exact ⟨_,List.mem_append_left _ (List.mem_cons_self ..)⟩
 ·rw [if_pos (show 0≤x.orders[i].drop.place by omega)]
  exact ⟨_,List.mem_append_right _ (List.mem_cons_self ..)⟩
theorem QHF (hl:r.visits.length≤1048576):Qjl r o=some (hasO r.visits o):=by
 unfold Qjl
 rw [QiW (l:=r.visits) hl (isO o) (y:=.inr true) (N:=.inl ()) (fun i a ha=>by
  have hlt:=(List.getElem?_eq_some_iff.1 ha).1
  unfold QgA
  rw [QaY (by simp [lenI]; omega),QaX ha,Qaj,inc hlt hl,brs]
  rfl) (by unfold QgA; rw [QaO (by simp [lenI])]),Qaj]
 show _=some (r.visits.any (isO o))
 cases r.visits.any (isO o) <;> rfl
theorem QHN (hx:QbW x) (hR:QmN r) {a w:Qaa} {i:Nat} {first:List Qaa} (hok:∀ k,i≤k→k≤first.length→OkL r (Qqm first k w)) (hfl:first.length≤1048577) (hi:i≤first.length) (hs:JK s) (e1 e2:Int) (e4:List Bool) (e5:List Qaa) (e6:Int) (e0:Bool) (j:Int) :
  QaT (fun s=>QdA x [a,w] r e0 e1 e2 e4 e5 e6 j first s.1 s.2.1 s.2.2.1 s.2.2.2.1 s.2.2.2.2.1 s.2.2.2.2.2.1 s.2.2.2.2.2.2) (stF2 r s i)=some (repF r ((plcS [w] first i).foldl (betX x r) s)):=by
 have hcat:∀ n,(List.range' i (n+1)).flatMap (fun k=>plcS [] (Qqm first k w) (k+1))=(List.range' i n).flatMap (fun k=>plcS [] (Qqm first k w) (k+1))++[Qqm first (i+n) w]:=fun n=>by
  rw [List.range'_concat,List.flatMap_append]; simp [plcS]
 have hJ:∀ n,i+n≤first.length+1→JK (((List.range' i n).flatMap fun k=>plcS [] (Qqm first k w) (k+1)).foldl (betX x r) s):=fun n hn=>by
  refine JK.fold hx hR (fun l hl=>?_) hs
  obtain ⟨k,hk,hl⟩:=List.mem_flatMap.1 hl
  rw [plcS,List.mem_singleton] at hl
  rw [hl]
  rw [List.mem_range'_1] at hk
  exact hok k (by omega) (by omega)
 have hloop:=QcJ (B:=fun s=>QdA x [a,w] r e0 e1 e2 e4 e5 e6 j first s.1 s.2.1 s.2.2.1 s.2.2.2.1 s.2.2.2.2.1 s.2.2.2.2.2.1 s.2.2.2.2.2.2) (e:=repF r ((plcS [w] first i).foldl (betX x r) s)) (first.length+1-i)
  (fun n=>stF2 r (((List.range' i n).flatMap fun k=>plcS [] (Qqm first k w) (k+1)).foldl (betX x r) s) (i+n)) (by omega) (fun n hn=>by
   have hb:=QyK hx hR (hok (i+n) (by omega) (by omega)) (hJ n (by omega))
   unfold QdA
   rw [hcat,List.foldl_append]
   show br (leI ((i+n:Nat):Int) (lenI first)) _ _=_
   rw [QaY (by simp [lenI]; omega),show getI [a,w] 1=some w from rfl,Qaj]
   show bnd (Qds first ((i+n:Nat):Int) w) _=_
   rw [QwA (by omega) (by omega),Qaj]
   refine (Qcw hb).trans ?_
   show some (Sum.inl (_,_,_,_,_,_,addK .i64 ((i+n:Nat):Int) 1))=_
   rw [addI (by omega) (by omega),show ((i+n:Nat):Int)+1=((i+(n+1):Nat):Int) by omega]
   rfl) (by
   unfold QdA
   show br (leI ((i+(first.length+1-i):Nat):Int) (lenI first)) _ _=_
   rw [QaO (by simp [lenI]; omega),plcS]
   rfl)
 exact hloop
theorem QBZ (hx:QbW x) (h:InsI r o):Qgd x r o=some (insX x r o):=by
 have hlen:=h.len
 have hrl:=h.R.rests
 unfold Qgd insX
 by_cases ht:0≤r.type_∧r.type_<x.types.length
 ·rw [QaO (by simp [lenI]; omega),if_pos ht]
  unfold QfK
  rw [Qaj]
  by_cases ho:0≤o∧o<x.orders.length
  ·rw [QaY (by simp [lenI]; omega),if_pos ho,Qup ho.1 ho.2,Qaj]
   have hoff:offN x o.toNat=(x.orders[o.toNat]'(by omega)).off:=by
    unfold offN
    rw [List.getElem?_eq_getElem (show o.toNat<x.orders.length by omega)]
   rw [← hoff]
   by_cases hf:offN x o.toNat=true
   ·rw [QaY hf,if_pos hf]; rfl
   ·rw [QaO (by simpa using hf),if_neg hf,QHF (by omega),Qaj]
    by_cases hh:hasO r.visits o=true
    ·rw [QaY hh,if_pos hh]; rfl
    ·rw [QaO (by simpa using hh),if_neg hh,QzM ho.1 ho.2 hx.orders,Qaj]
     have hok:=h.okL (x:=x) (by simpa using hh)
     have hb:QzP x r o=(plcS (visO x o) r.visits r.rests.length).foldl (betX x r) none:=rfl
     have hvl:=QpQ (x:=x) (o:=o)
     have hne:visO x o≠[]:=fun e=>by
      obtain ⟨v,hv⟩:=QzE hx (i:=o.toNat) (by omega)
      rw [show ((o.toNat:Nat):Int)=o by omega,e] at hv
      cases hv
     revert hb hok hvl hne
     generalize visO x o=V
     intro hok hb hvl hne
     have key:QaT (fun s=>Qb4 x V s.1 s.2.1 s.2.2.1 s.2.2.2.1 s.2.2.2.2.1 s.2.2.2.2.2.1 s.2.2.2.2.2.2.1 s.2.2.2.2.2.2.2) (stF r none r.rests.length)=some (repF r (QzP x r o)):=by
      match V,hok,hvl,hne,hb with
      | [a],hok,_,_,hb =>
       have hokk:∀ k,r.rests.length≤k→k≤r.visits.length→OkL r (Qqm r.visits k a):=fun k h1 h2=>hok _ (by
        rw [plcS,List.mem_flatMap]
        exact ⟨k,by rw [List.mem_range'_1]; omega,by rw [plcS]; exact List.mem_singleton.2 rfl⟩)
       have hcat:∀ n,(List.range' r.rests.length (n+1)).flatMap (fun k=>plcS [] (Qqm r.visits k a) (k+1))=(List.range' r.rests.length n).flatMap (fun k=>plcS [] (Qqm r.visits k a) (k+1))++[Qqm r.visits (r.rests.length+n) a]:=fun n=>by
        rw [List.range'_concat,List.flatMap_append]; simp [plcS]
       have hJ:∀ n,r.rests.length+n≤r.visits.length+1→JK (((List.range' r.rests.length n).flatMap fun k=>plcS [] (Qqm r.visits k a) (k+1)).foldl (betX x r) none):=fun n hn=>by
        refine JK.fold hx h.R (fun l hl=>?_) JK.none
        obtain ⟨k,hk,hl⟩:=List.mem_flatMap.1 hl
        rw [plcS,List.mem_singleton] at hl
        rw [hl]
        rw [List.mem_range'_1] at hk
        exact hokk k (by omega) (by omega)
       have hloop:=QcJ (B:=fun s=>Qb4 x [a] s.1 s.2.1 s.2.2.1 s.2.2.2.1 s.2.2.2.2.1 s.2.2.2.2.2.1 s.2.2.2.2.2.2.1 s.2.2.2.2.2.2.2) (e:=repF r (QzP x r o)) (r.visits.length+1-r.rests.length)
        (fun n=>stF r (((List.range' r.rests.length n).flatMap fun k=>plcS [] (Qqm r.visits k a) (k+1)).foldl (betX x r) none) (r.rests.length+n)) (by omega) (fun n hn=>by
         have hbt:=QyK hx h.R (hokk (r.rests.length+n) (by omega) (by omega)) (hJ n (by omega))
         unfold Qb4
         rw [hcat,List.foldl_append]
         show br (leI ((r.rests.length+n:Nat):Int) (lenI r.visits)) _ _=_
         rw [QaY (by simp [lenI]; omega),show getI [a] 0=some a from rfl,Qaj]
         show bnd (Qds r.visits ((r.rests.length+n:Nat):Int) a) _=_
         rw [QwA (by omega) (by omega),Qaj,QaY (by rfl)]
         refine (Qcw hbt).trans ?_
         show some (Sum.inl (_,_,_,_,_,_,_,addK .i64 ((r.rests.length+n:Nat):Int) 1))=_
         rw [addI (by omega) (by omega),show ((r.rests.length+n:Nat):Int)+1=((r.rests.length+(n+1):Nat):Int) by omega]
         rfl) (by
         unfold Qb4
         show br (leI ((r.rests.length+(r.visits.length+1-r.rests.length):Nat):Int) (lenI r.visits)) _ _=_
         rw [QaO (by simp [lenI]; omega),hb,plcS]
         rfl)
       exact hloop
      | [a,w],hok,_,_,hb =>
       have hokk:∀ k j,r.rests.length≤k→k≤r.visits.length→k+1≤j→j≤r.visits.length+1→OkL r (Qqm (Qqm r.visits k a) j w):=fun k j h1 h2 h3 h4=>hok _ (by
        rw [plcS,List.mem_flatMap]
        refine ⟨k,by rw [List.mem_range'_1]; omega,?_⟩
        rw [plcS,List.mem_flatMap]
        exact ⟨j,by rw [List.mem_range'_1,Qn0]; omega,by rw [plcS]; exact List.mem_singleton.2 rfl⟩)
       have hcat:∀ n,(List.range' r.rests.length (n+1)).flatMap (fun k=>plcS [w] (Qqm r.visits k a) (k+1))=(List.range' r.rests.length n).flatMap (fun k=>plcS [w] (Qqm r.visits k a) (k+1))++plcS [w] (Qqm r.visits (r.rests.length+n) a) (r.rests.length+n+1):=fun n=>by
        rw [List.range'_concat,List.flatMap_append]; simp
       have hJ:∀ n,r.rests.length+n≤r.visits.length+1→JK (((List.range' r.rests.length n).flatMap fun k=>plcS [w] (Qqm r.visits k a) (k+1)).foldl (betX x r) none):=fun n hn=>by
        refine JK.fold hx h.R (fun l hl=>?_) JK.none
        obtain ⟨k,hk,hl⟩:=List.mem_flatMap.1 hl
        rw [plcS,List.mem_flatMap] at hl
        obtain ⟨j,hj,hl⟩:=hl
        rw [plcS,List.mem_singleton] at hl
        rw [hl]
        rw [List.mem_range'_1] at hk hj
        rw [Qn0] at hj
        exact hokk k j (by omega) (by omega) (by omega) (by omega)
       have hloop:=QcJ (B:=fun s=>Qb4 x [a,w] s.1 s.2.1 s.2.2.1 s.2.2.2.1 s.2.2.2.2.1 s.2.2.2.2.2.1 s.2.2.2.2.2.2.1 s.2.2.2.2.2.2.2) (e:=repF r (QzP x r o)) (r.visits.length+1-r.rests.length)
        (fun n=>stF r (((List.range' r.rests.length n).flatMap fun k=>plcS [w] (Qqm r.visits k a) (k+1)).foldl (betX x r) none) (r.rests.length+n)) (by omega) (fun n hn=>by
         have hin:=QHN (a:=a) (w:=w) (i:=r.rests.length+n+1) (first:=Qqm r.visits (r.rests.length+n) a) hx h.R (s:=((List.range' r.rests.length n).flatMap fun k=>plcS [w] (Qqm r.visits k a) (k+1)).foldl (betX x r) none) (fun k hk1 hk=>by
          rw [Qn0] at hk
          exact hokk (r.rests.length+n) k (by omega) (by omega) hk1 (by omega)) (by rw [Qn0]; omega) (by rw [Qn0]; omega) (hJ n (by omega))
         unfold Qb4
         rw [hcat,List.foldl_append]
         show br (leI ((r.rests.length+n:Nat):Int) (lenI r.visits)) _ _=_
         rw [QaY (by simp [lenI]; omega),show getI [a,w] 0=some a from rfl,Qaj]
         show bnd (Qds r.visits ((r.rests.length+n:Nat):Int) a) _=_
         rw [QwA (by omega) (by omega),Qaj,QaO (by rfl)]
         show bnd (QaT _ (_,_,_,_,_,_,addK .i64 ((r.rests.length+n:Nat):Int) 1)) _=_
         rw [addI (by omega) (by omega)]
         refine (Qcw (hin _ _ _ _ _ _ _)).trans ?_
         show some (Sum.inl (_,_,_,_,_,_,_,addK .i64 ((r.rests.length+n:Nat):Int) 1))=_
         rw [addI (by omega) (by omega),show ((r.rests.length+n:Nat):Int)+1=((r.rests.length+(n+1):Nat):Int) by omega]
         rfl) (by
         unfold Qb4
         show br (leI ((r.rests.length+(r.visits.length+1-r.rests.length):Nat):Int) (lenI r.visits)) _ _=_
         rw [QaO (by simp [lenI]; omega),hb,plcS]
         rfl)
       exact hloop
      | [],_,_,hne,_=>exact absurd rfl hne
      | a :: b :: c :: t,_,hvl,_,_=>simp at hvl
     refine (Qcw key).trans ?_
     cases QzP x r o with
     | none=>rfl
     | some k=>rfl
  ·rw [QaO (by simp [lenI]; omega),if_neg ho]; rfl
 ·rw [QaY (by simp [lenI]; omega),if_neg ht]; rfl
end
end Go.Proofs.YtpkkaboonnedfaaGreatDoor
namespace Go.Proofs.YtpkkaboonnedfaaGreatDoor
set_option linter.unusedSimpArgs false
set_option linter.unusedVariables false
set_option linter.unusedSectionVars false
theorem Qxf:QfQ=some true:=by kernel_rfl
section
variable {x : Qac} {r : Qad} {l more : List Qaa} {v : Qaa} {o : Int} {s : Option Ky} {p : Qak}
theorem QGw (hI:QGJ x):post (QhG x) fun b=>b=true→QbW x:=by
 unfold QhG
 refine Qbc (QxZ hI) fun l hl=>QaH.2 fun h=>hl ?_
 rw [QvW,lenI] at h
 exact List.eq_nil_of_length_eq_zero (by omega)
structure SzR (r:Qad):Prop where
 rests:r.rests.length≤1048576
 visits:r.visits.length≤1048576
theorem QCb (h:SzR r):Qfu r r=some true:=by
 unfold Qfu
 rw [QaO (by simp)]
 have h1:QaT (fun s=>QbX r r s) 0=some (.inl ()) :=
  QcJ (B:=fun s=>QbX r r s) r.rests.length (fun i=>(i:Int)) (by have:=h.rests; omega) (fun i hi=>by
   unfold QbX
   rw [QaY (by simp [lenI]; omega),QtR hi,Qaj,Qaj,QaY (by simp),inc hi h.rests]
   rfl) (by unfold QbX; rw [QaO (by simp [lenI])])
 have h2:QaT (fun s=>QbF r r s) 0=some (.inl ()) :=
  QcJ (B:=fun s=>QbF r r s) r.visits.length (fun i=>(i:Int)) (by have:=h.visits; omega) (fun i hi=>by
   unfold QbF
   rw [QaY (by simp [lenI]; omega),QtR hi,Qaj,Qaj,QaY (by simp),inc hi h.visits]
   rfl) (by unfold QbF; rw [QaO (by simp [lenI])])
 rw [Qcw h1,Qgh,Qcw h2,Qgh]
theorem QDx (h1:p.routes.length≤1048576) (h2:p.unserved.length≤1048576) (h:∀ r∈p.routes,SzR r):Qix p p=some true:=by
 unfold Qix QkD
 rw [QaO (by simp)]
 have h3:QaT (fun s=>Qdz p p s) 0=some (.inl ()) :=
  QcJ (B:=fun s=>Qdz p p s) p.routes.length (fun i=>(i:Int)) (by omega) (fun i hi=>by
   unfold Qdz
   rw [QaY (by simp [lenI]; omega),QtR hi,Qaj,Qaj,QCb (h _ (List.getElem_mem hi)),Qaj,QaY rfl,inc hi h1]
   rfl) (by unfold Qdz; rw [QaO (by simp [lenI])])
 have h4:QaT (fun s=>Qc7 p p s) 0=some (.inl ()) :=
  QcJ (B:=fun s=>Qc7 p p s) p.unserved.length (fun i=>(i:Int)) (by omega) (fun i hi=>by
   unfold Qc7
   rw [QaY (by simp [lenI]; omega),QtR hi,Qaj,Qaj,QaO (by simp),inc hi h2]
   rfl) (by unfold Qc7; rw [QaO (by simp [lenI])])
 rw [Qcw h3,Qgh,Qcw h4,Qgh]
 rfl
theorem Qy0 (hx:QbW x) (h:InsI r o):SzR (insX x r o).1∧(0≤(insX x r o).2.1∧(insX x r o).2.1≤36028797018963968):=by
 have hz:SzR Quf:=⟨by simp [Quf],by simp [Quf]⟩
 unfold insX
 split
 ·split
  ·split
   ·exact ⟨hz,by simp⟩
   ·split
    ·exact ⟨hz,by simp⟩
    ·rename_i hh
     have hJ:JK (QzP x r o):=JK.fold hx h.R (h.okL (by simpa using hh)) JK.none
     cases hb:QzP x r o with
     | none=>exact ⟨hz,by simp⟩
     | some k =>
      obtain ⟨h1,h2⟩:=hJ k hb
      exact ⟨⟨h.R.rests,h2⟩,h1⟩
  ·exact ⟨hz,by simp⟩
 ·exact ⟨hz,by simp⟩
end
end Go.Proofs.YtpkkaboonnedfaaGreatDoor
namespace Go.Proofs.YtpkkaboonnedfaaGreatDoor
set_option linter.unusedSimpArgs false
set_option linter.unusedVariables false
set_option linter.unusedSectionVars false
section
variable {x : Qac} {r : Qad} {l more : List Qaa} {v : Qaa} {o : Int} {s : Option Ky} {p : Qak}
theorem QAE:∀ (L:List (List Qaa)) (s:Option Ky) (P:Ky→Prop),(∀ k,s=some k→P k)→(∀ l∈L,(prX x (rW r l)).2=0→P (kyX x r l)) →
  (∀ k,L.foldl (betX x r) s=some k→P k)∧(∀ k,s=some k→∃ q,L.foldl (betX x r) s=some q∧q.1≤k.1)∧∀ l∈L,(prX x (rW r l)).2=0→∃ q,L.foldl (betX x r) s=some q∧q.1≤(prX x (rW r l)).1
 | [],s,P,h1,h2=>⟨h1,fun k hk=>⟨k,hk,Int.le_refl _⟩,fun l hl=>by cases hl⟩
 | l :: L,s,P,h1,h2=>by
  have hb:(∀ k,betX x r s l=some k→P k):=fun k hk=>by
   unfold betX at hk
   split at hk
   ·rename_i hp
    have:=h2 l (List.mem_cons_self ..) hp
    cases s with
    | none=>simp only at hk; cases hk; exact this
    | some q =>
     simp only at hk
     split at hk
     ·cases hk; exact this
     ·exact h1 k hk
   ·exact h1 k hk
  have hs:∀ k,s=some k→∃ q,betX x r s l=some q∧q.1≤k.1:=fun k hk=>by
   subst hk
   unfold betX
   split
   ·simp only
    split
    ·rename_i hlt
     refine ⟨_,rfl,?_⟩
     rcases hlt with h|h
     ·omega
     ·omega
    ·exact ⟨k,rfl,Int.le_refl _⟩
   ·exact ⟨k,rfl,Int.le_refl _⟩
  have hl:(prX x (rW r l)).2=0→∃ q,betX x r s l=some q∧q.1≤(prX x (rW r l)).1:=fun hp=>by
   unfold betX
   rw [if_pos hp]
   cases s with
   | none=>exact ⟨_,rfl,Int.le_refl _⟩
   | some k =>
    simp only
    split
    ·exact ⟨_,rfl,Int.le_refl _⟩
    ·rename_i hn
     refine ⟨k,rfl,Int.not_lt.1 fun h=>hn (.inl h)⟩
  obtain ⟨i1,i2,i3⟩:=QAE L (betX x r s l) P hb fun l' hl'=>h2 l' (List.mem_cons_of_mem _ hl')
  have up:∀ n:Int,(∃ q,betX x r s l=some q∧q.1≤n)→∃ q,(l :: L).foldl (betX x r) s=some q∧q.1≤n:=fun n ⟨q,hq,hn⟩=>by
   obtain ⟨q',h1',h2'⟩:=i2 q hq
   exact ⟨q',h1',by omega⟩
  refine ⟨i1,fun k hk=>up _ (hs k hk),fun l' hl' hp=>?_⟩
  rcases List.mem_cons.1 hl' with rfl|hl'
  ·exact up _ (hl hp)
  ·exact i3 l' hl' hp
end
end Go.Proofs.YtpkkaboonnedfaaGreatDoor
namespace Go.Proofs.YtpkkaboonnedfaaGreatDoor
set_option linter.unusedSimpArgs false
set_option linter.unusedVariables false
set_option linter.unusedSectionVars false
abbrev Cnd:=Int×Qad×Int
noncomputable def QCC (x:Qac) (o:Int) (s:Option Cnd) (a:Int) (r:Qad) (old:Int):Option Cnd :=
 if (insX x r o).2.2=0 then (match s with
  | none=>some (a,(insX x r o).1,(insX x r o).2.1-old)
  | some c=>if (insX x r o).2.1-old<c.2.2 then some (a,(insX x r o).1,(insX x r o).2.1-old) else some c) else s
def cntT (rs:List Qad) (t:Nat):Int:=sumF (fun r=>bit1 (eqI r.type_ (t:Int))) rs
noncomputable def Qsq (x:Qac) (p:Qak) (o:Int):Nat→Option Cnd
 | 0=>none
 | i+1=>match p.routes[i]? with
  | some r=>QCC x o (Qsq x p o i) (i:Int) r (prX x r).1
  | none=>Qsq x p o i
noncomputable def QvQ (x:Qac) (p:Qak) (o:Int):Nat→Option Cnd
 | 0=>Qsq x p o p.routes.length
 | t+1=>match x.types[t]? with
  | some ty=>if cntT p.routes t<ty.count then QCC x o (QvQ x p o t) (p.routes.length:Int) (Qad.mk (t:Int) 0 [] []) 0 else QvQ x p o t
  | none=>QvQ x p o t
noncomputable def badR (x:Qac) (p:Qak) (j:Nat):Bool:=match p.routes[j]? with
 | some r=>decide ((prX x r).2≠0)
 | none=>false
noncomputable def Qm7 (x:Qac) (p:Qak):Nat:=QhE (badR x p) p.routes.length 0
noncomputable def errP (x:Qac) (p:Qak):Int:=match p.routes[Qm7 x p]? with
 | some r=>(prX x r).2
 | none=>0
def repI (s:Option Cnd):Qaq:=match s with
 | none=>Qaq.mk (-1) Quf 0
 | some c=>Qaq.mk c.1 c.2.1 c.2.2
def repK (s:Option Cnd):Qai:=match s with
 | none=>Qai.mk false 0 Quf 0
 | some c=>Qai.mk true c.1 c.2.1 c.2.2
def zCnd:Qaq:=Qaq.mk 0 Quf 0
noncomputable def QCV (x:Qac) (p:Qak) (o:Int):Option Cnd:=QvQ x p o x.types.length
noncomputable def QG5 (x:Qac) (p:Qak) (o:Int):Qaq×Int :=
 if errP x p≠0 then (zCnd,errP x p) else match QCV x p o with
  | none=>(zCnd,24)
  | some c=>(Qaq.mk c.1 c.2.1 c.2.2,0)
def JC (n:Nat) (s:Option Cnd):Prop:=∀ c,s=some c→(0≤c.1∧c.1≤n)∧SzR c.2.1∧(-72057594037927936≤c.2.2∧c.2.2≤72057594037927936)
structure InsP (p:Qak) (o:Int):Prop where
 few:p.routes.length≤1000
 each:∀ r∈p.routes,InsI r o∧Qtz r
section
variable {x : Qac} {r : Qad} {l more : List Qaa} {v : Qaa} {o : Int} {s : Option Cnd} {p : Qak} {n : Nat}
theorem JC.step (hx:QbW x) (hi:InsI r o) (hs:JC n s) {a old:Int} (ha:0≤a∧a≤n) (hold:0≤old∧old≤36028797018963968):JC n (QCC x o s a r old):=by
 obtain ⟨hz,hb⟩:=Qy0 hx hi
 have hn:JC n (some (a,(insX x r o).1,(insX x r o).2.1-old)):=fun c hc=>by
  cases hc
  exact ⟨ha,hz,by simp only; omega⟩
 unfold QCC
 split
 ·cases s with
  | none=>exact hn
  | some c =>
   simp only
   split
   ·exact hn
   ·exact hs
 ·exact hs
theorem QAY (hx:QbW x) (hi:InsI r o) (hs:JC n s) {a old:Int} (hold:0≤old∧old≤36028797018963968):Qi3 a r old x o (repI s)=some (x,o,repI (QCC x o s a r old)):=by
 obtain ⟨hz,hb⟩:=Qy0 hx hi
 unfold Qi3
 rw [QEL hx hi,Qaj,brs,subI (by omega) (by omega)]
 congr 1
 unfold QCC
 by_cases h0:(insX x r o).2.2=0
 ·rw [if_pos h0]
  cases s with
  | none =>
   rw [if_pos (by simp [h0,repI])]
   rfl
  | some c =>
   have hc:=(hs c rfl).1
   by_cases h1:(insX x r o).2.1-old<c.2.2
   ·rw [if_pos (by simp [h0,repI]; omega)]
    simp only [if_pos h1]
    rfl
   ·rw [if_neg (by simp [h0,repI]; omega)]
    simp only [if_neg h1]
 ·rw [if_neg (by simp [h0]),if_neg h0]
theorem QHm (hx:QbW x) (hR:QmN r) (h9:Qtz r):(prX x r).2≠0∨(0≤(prX x r).1∧(prX x r).1≤36028797018963968)∧(0≤r.type_∧r.type_<x.types.length):=by
 by_cases h:(prX x r).2=0
 ·refine .inr ⟨QGr hx hR h9 h,?_⟩
  obtain ⟨_,_,_,_,e5⟩:=QyU hx hR h9
  obtain ⟨_,q,hE⟩:=e5 (QHk hx hR h9 h)
  exact hE.type_
 ·exact .inl h
theorem QtQ:Qm7 x p≤p.routes.length:=by
 have:=(Qkq (badR x p) p.routes.length 0).2.1
 unfold Qm7
 omega
theorem QzT (h:errP x p=0):Qm7 x p=p.routes.length∧∀ r∈p.routes,(prX x r).2=0:=by
 obtain ⟨s1,s2,s3,s4⟩:=Qkq (badR x p) p.routes.length 0
 have hle:=QtQ (x:=x) (p:=p)
 rw [Nat.zero_add] at s2 s4
 have hend:Qm7 x p=p.routes.length:=Classical.byContradiction fun hne=>by
  have hlt:Qm7 x p<p.routes.length:=by omega
  have hb:badR x p (Qm7 x p)=true:=s4 hlt
  unfold errP at h
  unfold badR at hb
  rw [List.getElem?_eq_getElem hlt] at h hb
  simp only at h hb
  simp [h] at hb
 refine ⟨hend,fun r hr=>?_⟩
 obtain ⟨j,hj⟩:=List.getElem?_of_mem hr
 have hjl:=(List.getElem?_eq_some_iff.1 hj).1
 have:=s3 j (Nat.zero_le _) (by rw [show QhE (badR x p) p.routes.length 0=Qm7 x p from rfl,hend]; exact hjl)
 unfold badR at this
 rw [hj] at this
 simpa using this
theorem QFZ (h:errP x p≠0):Qm7 x p<p.routes.length:=by
 refine Nat.lt_of_not_le fun hge=>h ?_
 unfold errP
 rw [List.getElem?_eq_none hge]
theorem QAW (h:∀ r∈p.routes,(prX x r).2=0):errP x p=0:=by
 unfold errP
 split
 ·rename_i r hr
  exact h r (List.mem_of_getElem? hr)
 ·rfl
noncomputable def priX (x:Qac) (p:Qak) (k:Nat):List Int:=(p.routes.take k).map fun r=>(prX x r).1
theorem QBX {k:Nat} (h:p.routes[k]?=some r):priX x p k++[(prX x r).1]=priX x p (k+1):=by
 unfold priX; rw [take_one h,List.map_append]; rfl
theorem QBW {k:Nat}:(priX x p k).length≤k:=by unfold priX; rw [List.length_map,List.length_take]; omega
theorem QBV {k:Nat} (h:p.routes[k]?=some r):(priX x p p.routes.length)[k]?=some (prX x r).1:=by
 unfold priX; rw [List.take_length,List.getElem?_map,h]; rfl
theorem QDP {rs:List Qad} {t:Nat}:0≤cntT rs t∧cntT rs t≤1000*rs.length:=Qzz fun a _=>by have:=Qsp (b:=eqI a.type_ (t:Int)); omega
theorem QAZ (hx:QbW x) (hP:InsP p o) (l:List Int):QaT (fun s=>Qec x p o l s.1 s.2.1 s.2.2) ([],vecN x.types.length (fun _=>0),0)=some (if errP x p≠0 then .inr (zCnd,errP x p) else .inl (priX x p p.routes.length,vecN x.types.length (cntT p.routes))):=by
 have h6:=hx.types
 have hf:=hP.few
 have hloop:=QoZ (n:=p.routes.length) (by omega) (badR x p) (fun k=>(priX x p k,vecN x.types.length (cntT (p.routes.take k)),(k:Int))) (fun j=>(.inr (zCnd,match p.routes[j]? with|some r=>(prX x r).2|none=>0):(List Int×List Int)⊕(Qaq×Int)))
  (B:=fun s=>Qec x p o l s.1 s.2.1 s.2.2) (N:=.inl (priX x p p.routes.length,vecN x.types.length (cntT p.routes))) (fun j hj=>by
   have e:p.routes[j]?=some p.routes[j]:=List.getElem?_eq_getElem hj
   have hm:=List.getElem_mem hj
   generalize p.routes[j]=r at e hm
   obtain ⟨hi,h9⟩:=hP.each r hm
   show Qec x p o l (priX x p j) (vecN x.types.length (cntT (p.routes.take j))) (j:Int)=_
   unfold Qec
   rw [Qcm e,(Qwl hx hi.R h9).1,Qaj,incL e (by omega)]
   unfold badR
   rw [e]
   simp only
   rcases QHm hx hi.R h9 with h|⟨h,h2⟩
   ·rw [QaY (by simpa using h),if_pos (by simpa using h)]
    rfl
   ·by_cases h0:(prX x r).2=0
    ·obtain ⟨t,ht⟩:∃ t:Nat,r.type_=t:=⟨r.type_.toNat,by omega⟩
     have hl:=QBW (x:=x) (p:=p) (k:=j+1)
     have hcb:=QDP (rs:=p.routes.take j) (t:=t)
     have htl:(p.routes.take j).length≤1000:=by rw [List.length_take]; omega
     rw [QaO (by simpa using h0),if_neg (by simpa using h0),QBX e,Qd6 (QeN (by omega)),ht,QEj (by omega) (by omega),Qaj,Int.toNat_natCast,addI (by omega) (by omega),QCo (by omega)]
     congr 4
     refine QiG fun d hd=>?_
     have estep:cntT (p.routes.take (j+1)) d=cntT (p.routes.take j) d+bit1 (eqI r.type_ (d:Int)):=QuW e
     rw [estep,ht]
     by_cases hdt:d=t
     ·subst hdt; rw [if_pos rfl]; simp [bit1,eqI]
     ·rw [if_neg hdt]
      have:eqI (t:Int) (d:Int)=false:=by simp; omega
      rw [this]; simp [bit1]
    ·rw [QaY (by simpa using h0),if_pos (by simpa using h0)]
     rfl) (by
   show Qec x p o l (priX x p p.routes.length) (vecN x.types.length (cntT (p.routes.take p.routes.length))) (p.routes.length:Int)=_
   unfold Qec
   rw [Qbw,List.take_length])
 have hle:=QtQ (x:=x) (p:=p)
 refine Eq.trans hloop ?_
 congr 1
 by_cases he:errP x p=0
 ·rw [if_neg (show ¬ QhE (badR x p) p.routes.length 0<p.routes.length by rw [show QhE (badR x p) p.routes.length 0=Qm7 x p from rfl,(QzT he).1]; omega),if_neg (by simpa using he)]
 ·rw [if_pos (show QhE (badR x p) p.routes.length 0<p.routes.length from QFZ he),if_pos he]
  rfl
theorem JC.R (hx:QbW x) (hP:InsP p o) (h0:∀ r∈p.routes,(prX x r).2=0):∀ i,i≤p.routes.length→JC p.routes.length (Qsq x p o i)
 | 0,_=>fun c hc=>by cases hc
 | i+1,hi=>by
  have e:p.routes[i]?=some p.routes[i]:=List.getElem?_eq_getElem (by omega)
  have hm:=List.getElem_mem (show i<p.routes.length by omega)
  rw [Qsq,e]
  obtain ⟨h1,h9⟩:=hP.each _ hm
  exact JC.step hx h1 (JC.R hx hP h0 i (by omega)) (by omega) (QGr hx h1.R h9 (h0 _ hm))
theorem newI {t:Nat} (ht:t≤1000):InsI (Qad.mk (t:Int) 0 [] []) o:=⟨⟨(show QAk (t:Int) from ⟨by omega,by omega⟩),(show QAk 0 from ⟨by omega,by omega⟩),by simp,by simp⟩,by simp,fun _=>.inl (by simp)⟩
theorem JC.T (hx:QbW x) (hP:InsP p o) (h0:∀ r∈p.routes,(prX x r).2=0):∀ t,t≤x.types.length→JC p.routes.length (QvQ x p o t)
 | 0,_=>JC.R hx hP h0 _ (Nat.le_refl _)
 | t+1,ht=>by
  have h6:=hx.types
  have e:x.types[t]?=some x.types[t]:=List.getElem?_eq_getElem (by omega)
  rw [QvQ,e]
  simp only
  split
  ·exact JC.step hx (newI (by omega)) (JC.T hx hP h0 t (by omega)) (by omega) (by omega)
  ·exact JC.T hx hP h0 t (by omega)
def tupI (x:Qac) (o:Int) (s:Option Cnd) (i:Nat):Qac×Int×Int×Int×List Bool×List Qaa×Int×Int×Int :=
 (x,(repI s).at_,(repI s).route.type_,(repI s).route.start,(repI s).route.rests,(repI s).route.visits,(repI s).increase,o,(i:Int))
theorem QEM (hx:QbW x) (hP:InsP p o):QoT x p o=some (QG5 x p o):=by
 have h6:=hx.types
 have hf:=hP.few
 unfold QoT QG5
 rw [show lenI x.types=(x.types.length:Int) from rfl,QH6 (by omega),Qaj,Qcw (QAZ hx hP _)]
 by_cases he:errP x p=0
 ·rw [if_neg (by simpa using he),if_neg (by simpa using he),Qgh]
  obtain ⟨_,h0⟩:=QzT he
  have l2:∀ l,QaT (fun s=>QeR p l (priX x p p.routes.length) (vecN x.types.length (cntT p.routes)) s.1 s.2.1 s.2.2.1 s.2.2.2.1 s.2.2.2.2.1 s.2.2.2.2.2.1 s.2.2.2.2.2.2.1 s.2.2.2.2.2.2.2.1 s.2.2.2.2.2.2.2.2) (x,(-1),0,0,[],[],0,o,0)=some (x,repI (Qsq x p o p.routes.length),o):=fun l =>
   QcJ (B:=fun s=>QeR p l (priX x p p.routes.length) (vecN x.types.length (cntT p.routes)) s.1 s.2.1 s.2.2.1 s.2.2.2.1 s.2.2.2.2.1 s.2.2.2.2.2.1 s.2.2.2.2.2.2.1 s.2.2.2.2.2.2.2.1 s.2.2.2.2.2.2.2.2) p.routes.length (fun i=>tupI x o (Qsq x p o i) i) (by omega) (fun i hi=>by
    have e:p.routes[i]?=some p.routes[i]:=List.getElem?_eq_getElem hi
    have hm:=List.getElem_mem hi
    generalize p.routes[i]=r at e hm
    obtain ⟨h1,h9⟩:=hP.each r hm
    have h3:=QAY (a:=(i:Int)) hx h1 (JC.R hx hP h0 i (by omega)) (QGr hx h1.R h9 (h0 r hm))
    unfold QeR
    show br (ltI (i:Int) (lenI p.routes)) _ _=_
    rw [QaY (by simp [lenI]; omega)]
    show bnd (getI p.routes (i:Int)) _=_
    rw [QaX e,Qaj]
    show bnd (getI (priX x p p.routes.length) (i:Int)) _=_
    rw [QaX (QBV e),Qaj]
    refine (Qcw h3).trans ?_
    rw [Qsq,e]
    show some (Sum.inl (_,_,_,_,_,_,_,_,addK .i64 (i:Int) 1))=_
    rw [incL e (by omega)]
    rfl) (by
    unfold QeR
    show br (ltI (p.routes.length:Int) (lenI p.routes)) _ _=_
    rw [QaO (by simp [lenI])]
    rfl)
  refine Eq.trans (Qcw (l2 _)) ?_
  have l3:∀ l,QaT (fun s=>Qed p l (vecN x.types.length (cntT p.routes)) s.1 s.2.1 s.2.2.1 s.2.2.2.1 s.2.2.2.2) (x,repI (Qsq x p o p.routes.length),o,(x.types.length:Int),0)=some (repI (QCV x p o)):=fun l =>
   QcJ (B:=fun s=>Qed p l (vecN x.types.length (cntT p.routes)) s.1 s.2.1 s.2.2.1 s.2.2.2.1 s.2.2.2.2) x.types.length (fun t=>(x,repI (QvQ x p o t),o,(x.types.length:Int),(t:Int))) (by omega) (fun t ht=>by
    have e:x.types[t]?=some x.types[t]:=List.getElem?_eq_getElem ht
    unfold Qed
    show br (ltI (t:Int) (x.types.length:Int)) _ _=_
    rw [QaY (by simp; omega)]
    show bnd (getI (vecN x.types.length (cntT p.routes)) (t:Int)) _=_
    rw [QEj (by omega) (by omega),Qaj]
    show bnd (getI x.types (t:Int)) _=_
    rw [QaX e,Qaj,Int.toNat_natCast]
    show br _ _ (some (Sum.inl (_,_,_,_,addK .i64 (t:Int) 1)))=_
    rw [incL e (by omega),QvQ,e]
    simp only
    by_cases hc:cntT p.routes t<x.types[t].count
    ·rw [QaY (by simpa using hc),if_pos hc]
     have h3:=QAY (a:=(p.routes.length:Int)) (old:=0) hx (newI (t:=t) (o:=o) (by omega)) (JC.T hx hP h0 t (by omega)) (by omega)
     refine (Qcw h3).trans ?_
     rfl
    ·rw [QaO (by simpa using hc),if_neg hc]
     rfl) (by
    unfold Qed
    show br (ltI (x.types.length:Int) (x.types.length:Int)) _ _=_
    rw [QaO (by simp)]
    rfl)
  refine (Qcw (l3 _)).trans ?_
  have hJ:=JC.T hx hP h0 x.types.length (Nat.le_refl _)
  unfold QCV
  cases hc:QvQ x p o x.types.length with
  | none=>rfl
  | some c =>
   have:=(hJ c hc).1
   simp only [repI]
   rw [QaO (by simp; omega)]
 ·rw [if_pos he,if_pos he,Qjn]
end
end Go.Proofs.YtpkkaboonnedfaaGreatDoor
namespace Go.Proofs.YtpkkaboonnedfaaGreatDoor
set_option linter.unusedSimpArgs false
set_option linter.unusedVariables false
set_option linter.unusedSectionVars false
def QxS (p:Qak) (o:Int) (c:Cnd):Qak:=Qak.mk (if c.1<p.routes.length then p.routes.set c.1.toNat c.2.1 else p.routes++[c.2.1]) (p.unserved.filter fun i=>neI i o)
def QCA (p:Qak) (o:Int):Bool:=p.routes.any fun r=>hasO r.visits o
def QzI:Qak:=Qak.mk [] []
section
variable {x : Qac} {r : Qad} {l more : List Qaa} {v : Qaa} {o : Int} {s : Option Cnd} {p : Qak} {n : Nat}
theorem QCI (hx:QbW x) (hP:InsP p o):Qg4 x p=some (if errP x p≠0 then ([],errP x p) else (priX x p p.routes.length,0)):=by
 have hf:=hP.few
 unfold Qg4
 have hloop:=QoZ (n:=p.routes.length) (by omega) (badR x p) (fun k=>(priX x p k,(k:Int))) (fun j=>(.inr ([],match p.routes[j]? with|some r=>(prX x r).2|none=>0):(List Int)⊕(List Int×Int)))
  (B:=fun s=>Qcl x p s.1 s.2) (N:=.inl (priX x p p.routes.length)) (fun j hj=>by
   have e:p.routes[j]?=some p.routes[j]:=List.getElem?_eq_getElem hj
   have hm:=List.getElem_mem hj
   generalize p.routes[j]=r at e hm
   obtain ⟨hi,h9⟩:=hP.each r hm
   show Qcl x p (priX x p j) (j:Int)=_
   unfold Qcl
   rw [Qcm e,(Qwl hx hi.R h9).2,Qaj,incL e (by omega)]
   unfold badR
   rw [e]
   simp only
   by_cases h0:(prX x r).2=0
   ·have hl:=QBW (x:=x) (p:=p) (k:=j+1)
    rw [QaO (by simpa using h0),if_neg (by simpa using h0),QBX e,Qd6 (QeN (by omega))]
    rfl
   ·rw [QaY (by simpa using h0),if_pos (by simpa using h0)]) (by
   show Qcl x p (priX x p p.routes.length) (p.routes.length:Int)=_
   unfold Qcl
   rw [Qbw])
 have hle:=QtQ (x:=x) (p:=p)
 by_cases he:errP x p=0
 ·rw [if_neg (show ¬ QhE (badR x p) p.routes.length 0<p.routes.length by rw [show QhE (badR x p) p.routes.length 0=Qm7 x p from rfl,(QzT he).1]; omega)] at hloop
  refine Eq.trans (Qcw hloop) ?_
  rw [if_neg (by simpa using he)]
  rfl
 ·rw [if_pos (show QhE (badR x p) p.routes.length 0<p.routes.length from QFZ he)] at hloop
  refine Eq.trans (Qcw hloop) ?_
  rw [if_pos he]
  rfl
def tupK (s:Option Cnd) (i:Nat):Bool×Int×Int×Int×List Bool×List Qaa×Int×Int :=
 ((repK s).ok,(repK s).place,(repK s).route.type_,(repK s).route.start,(repK s).route.rests,(repK s).route.visits,(repK s).increase,(i:Int))
theorem QBL (hx:QbW x) (hP:InsP p o) (h0:∀ r∈p.routes,(prX x r).2=0) :
  QaT (fun s=>Qcs x p (priX x p p.routes.length) o s.1 s.2.1 s.2.2.1 s.2.2.2.1 s.2.2.2.2.1 s.2.2.2.2.2.1 s.2.2.2.2.2.2.1 s.2.2.2.2.2.2.2) (false,0,0,0,[],[],0,0)=some (repK (Qsq x p o p.routes.length)):=by
 have hf:=hP.few
 exact QcJ (B:=fun s=>Qcs x p (priX x p p.routes.length) o s.1 s.2.1 s.2.2.1 s.2.2.2.1 s.2.2.2.2.1 s.2.2.2.2.2.1 s.2.2.2.2.2.2.1 s.2.2.2.2.2.2.2) p.routes.length (fun i=>tupK (Qsq x p o i) i) (by omega) (fun i hi=>by
  have e:p.routes[i]?=some p.routes[i]:=List.getElem?_eq_getElem hi
  have hm:=List.getElem_mem hi
  generalize p.routes[i]=r at e hm
  obtain ⟨h1,h9⟩:=hP.each r hm
  obtain ⟨hz,hb⟩:=Qy0 hx h1
  have hpb:=QGr hx h1.R h9 (h0 r hm)
  have hJ:=JC.R hx hP h0 i (by omega)
  show Qcs x p (priX x p p.routes.length) o (repK (Qsq x p o i)).ok (repK (Qsq x p o i)).place (repK (Qsq x p o i)).route.type_ (repK (Qsq x p o i)).route.start (repK (Qsq x p o i)).route.rests (repK (Qsq x p o i)).route.visits (repK (Qsq x p o i)).increase (i:Int)=some (.inl (tupK (Qsq x p o (i+1)) (i+1)))
  rw [Qsq,e]
  simp only
  unfold Qcs
  rw [Qcm e,QBZ hx h1,Qaj,QaX (QBV e),Qaj,Qaj,subI (by omega) (by omega),incL e (by omega)]
  unfold QCC
  by_cases hk:(insX x r o).2.2=0
  ·rw [QaY (by simpa using hk),if_pos hk]
   cases hc:Qsq x p o i with
   | none =>
    rw [QaO (by rfl)]
    rfl
   | some c =>
    rw [QaY (by rfl)]
    show br (ltI ((insX x r o).2.1-(prX x r).1) c.2.2) _ _=_
    by_cases h3:(insX x r o).2.1-(prX x r).1<c.2.2
    ·rw [QaY (by simpa using h3)]
     simp only [if_pos h3]
     rfl
    ·rw [QaO (by simpa using h3)]
     simp only [if_neg h3]
     rfl
  ·rw [QaO (by simpa using hk),if_neg hk]
   rfl) (by
  show Qcs x p (priX x p p.routes.length) o (repK (Qsq x p o p.routes.length)).ok (repK (Qsq x p o p.routes.length)).place (repK (Qsq x p o p.routes.length)).route.type_ (repK (Qsq x p o p.routes.length)).route.start (repK (Qsq x p o p.routes.length)).route.rests (repK (Qsq x p o p.routes.length)).route.visits (repK (Qsq x p o p.routes.length)).increase (p.routes.length:Int)=_
  unfold Qcs
  rw [Qbw])
theorem QBM (hf:p.routes.length≤1000) (c:Qai) (t:Nat):QaT (fun s=>Qct x p o (t:Int) s.1 s.2.1 s.2.2) (c,0,0)=some (c,cntT p.routes t) :=
 QcJ (B:=fun s=>Qct x p o (t:Int) s.1 s.2.1 s.2.2) p.routes.length (fun i=>(c,cntT (p.routes.take i) t,(i:Int))) (by omega) (fun i hi=>by
  have e:p.routes[i]?=some p.routes[i]:=List.getElem?_eq_getElem hi
  have hcb:=QDP (rs:=p.routes.take i) (t:=t)
  have htl:(p.routes.take i).length≤1000:=by rw [List.length_take]; omega
  have estep:cntT (p.routes.take (i+1)) t=cntT (p.routes.take i) t+bit1 (eqI p.routes[i].type_ (t:Int)):=QuW e
  show Qct x p o (t:Int) c (cntT (p.routes.take i) t) (i:Int)=some (.inl (c,cntT (p.routes.take (i+1)) t,((i+1:Nat):Int)))
  rw [estep]
  unfold Qct
  rw [Qcm e,incL e (by omega),addI (a:=cntT (p.routes.take i) t) (by omega) (by omega)]
  by_cases h:p.routes[i].type_=(t:Int)
  ·rw [QaY (by simpa using h)]
   have:bit1 (eqI p.routes[i].type_ (t:Int))=1:=by simp [bit1,h]
   rw [this]; rfl
  ·rw [QaO (by simpa using h)]
   have:bit1 (eqI p.routes[i].type_ (t:Int))=0:=by simp [bit1,h]
   rw [this,Int.add_zero]; rfl) (by
  show Qct x p o (t:Int) c (cntT (p.routes.take p.routes.length) t) (p.routes.length:Int)=_
  unfold Qct
  rw [Qbw,List.take_length])
theorem QGp (hx:QbW x) (hP:InsP p o) (h0:∀ r∈p.routes,(prX x r).2=0):Qiy x p (priX x p p.routes.length) o=some (repK (QCV x p o)):=by
 have hf:=hP.few
 have h6:=hx.types
 unfold Qiy
 refine Eq.trans (Qcw (QBL hx hP h0)) ?_
 have l2:QaT (fun s=>Qb5 x p o s.1 s.2) (repK (Qsq x p o p.routes.length),0)=some (repK (QCV x p o)) :=
  QcJ (B:=fun s=>Qb5 x p o s.1 s.2) x.types.length (fun t=>(repK (QvQ x p o t),(t:Int))) (by omega) (fun t ht=>by
   have e:x.types[t]?=some x.types[t]:=List.getElem?_eq_getElem ht
   have hn:InsI (Qad.mk (t:Int) 0 [] []) o:=newI (by omega)
   have hJ:=JC.T hx hP h0 t (by omega)
   obtain ⟨hz,hb⟩:=Qy0 hx hn
   show Qb5 x p o (repK (QvQ x p o t)) (t:Int)=some (.inl (repK (QvQ x p o (t+1)),((t+1:Nat):Int)))
   rw [QvQ,e]
   simp only
   unfold Qb5
   rw [QaY (by simp [lenI]; omega)]
   refine Eq.trans (Qcw (QBM (x:=x) (o:=o) hf (repK (QvQ x p o t)) t)) ?_
   show bnd (getI x.types (t:Int)) _=_
   rw [QaX e,Qaj,incL e (by omega)]
   by_cases hc:cntT p.routes t<x.types[t].count
   ·rw [QaO (show geI (cntT p.routes t) x.types[t].count=false by simpa using hc),if_pos hc,QBZ hx hn,Qaj]
    unfold QCC
    by_cases hk:(insX x (Qad.mk (t:Int) 0 [] []) o).2.2=0
    ·rw [if_pos hk,Int.sub_zero]
     cases hcc:QvQ x p o t with
     | none =>
      rw [QaY (by simp [hk,repK])]
      rfl
     | some c =>
      by_cases h3:(insX x (Qad.mk (t:Int) 0 [] []) o).2.1<c.2.2
      ·rw [QaY (by simp [hk,repK]; exact h3)]
       simp only [if_pos h3]
       rfl
      ·rw [QaO (by simp [hk,repK]; omega)]
       simp only [if_neg h3]
       rfl
    ·rw [if_neg hk,QaO (by simp [hk])]
     rfl
   ·rw [QaY (show geI (cntT p.routes t) x.types[t].count=true by simp; omega),if_neg hc]
    rfl) (by
   show Qb5 x p o (repK (QvQ x p o x.types.length)) (x.types.length:Int)=_
   unfold Qb5
   rw [QaO (by simp [lenI])]
   rfl)
 exact Qcw l2
theorem Qwe {L:List Int} {o:Int} {B:List Int×Int→Option ((List Int×Int)⊕List Int)} (hl:L.length≤1048576) (hin:∀ (s:List Int) (i:Nat) a,L[i]?=some a→s.length≤i→B (s,(i:Int))=some (.inl (if neI a o=true then s++[a] else s,(i:Int)+1))) (hend:∀ s,B (s,(L.length:Int))=some (.inr s)) :
  QaT B ([],0)=some (L.filter fun i=>neI i o) :=
 QcJ (B:=B) L.length (fun i=>((L.take i).filter fun i=>neI i o,(i:Int))) (by omega) (fun i hi=>by
  have e:L[i]?=some L[i]:=List.getElem?_eq_getElem hi
  refine (hin _ i _ e (Nat.le_trans (List.length_filter_le ..) (by rw [List.length_take]; omega))).trans ?_
  rw [take_one e,List.filter_append]
  by_cases h:neI L[i] o=true
  ·rw [if_pos h,List.filter_cons_of_pos (by exact h)]; rfl
  ·rw [if_neg h,List.filter_cons_of_neg (by exact h),List.filter_nil,List.append_nil]; rfl) (by
  refine (hend _).trans ?_
  rw [List.take_length])
theorem QGI {c:Cnd} (h1:p.routes.length≤1000) (h2:p.unserved.length≤1048576) (hc:0≤c.1∧c.1≤p.routes.length):QoX p (Qaq.mk c.1 c.2.1 c.2.2) o=some (QxS p o c):=by
 unfold QoX
 have hcl:Qbt p.routes=some p.routes:=by
  unfold Qbt
  rw [Qd6 (QeN (by omega))]
  cases p.routes with
  | nil=>exact QxV
  | cons a r=>rfl
 have hJ:∀ L,Qh2 p (Qaq.mk c.1 c.2.1 c.2.2) o L=some (Qak.mk L (p.unserved.filter fun i=>neI i o)):=fun L=>by
  unfold Qh2
  refine Eq.trans (Qcw (Qwe (L:=p.unserved) (o:=o) h2 (fun s i a ha hs=>by
   have hlt:=(List.getElem?_eq_some_iff.1 ha).1
   show QfO p _ o L s (i:Int)=_
   unfold QfO
   rw [Qcm ha,incL ha h2]
   by_cases h:neI a o=true
   ·rw [QaY h,if_pos h,Qd6 (QeN (by simp; omega))]
   ·rw [QaO (by simpa using h),if_neg h]) (fun s=>by
   show QfO p _ o L s (p.unserved.length:Int)=_
   unfold QfO
   rw [Qbw]))) ?_
  rfl
 rw [hcl,Qaj]
 unfold QxS
 by_cases h:c.1<p.routes.length
 ·rw [QaY (by simp [lenI]; omega),if_pos h,Qup hc.1 h,Qaj,hJ]
  rfl
 ·rw [QaO (by simp [lenI]; omega),if_neg h,Qd6 (QeN (by simp; omega)),hJ]
theorem QEs {c:Cnd} (h1:p.routes.length≤1000) (h2:p.unserved.length≤1048576) (hc:0≤c.1∧c.1≤p.routes.length):Qny p (Qai.mk true c.1 c.2.1 c.2.2) o=some (QxS p o c):=by
 obtain ⟨k,hk⟩:∃ k:Nat,c.1=k:=⟨c.1.toNat,by omega⟩
 unfold Qny
 have hJ:∀ L,QeL p (Qai.mk true c.1 c.2.1 c.2.2) o L=some (Qak.mk L (p.unserved.filter fun i=>neI i o)):=fun L=>by
  unfold QeL
  refine Eq.trans (Qcw (Qwe (L:=p.unserved) (o:=o) h2 (fun s i a ha hs=>by
   have hlt:=(List.getElem?_eq_some_iff.1 ha).1
   show QcF p _ o L s (i:Int)=_
   unfold QcF
   rw [Qcm ha,incL ha h2]
   by_cases h:neI a o=true
   ·rw [QaY h,if_pos h,Qd6 (QeN (by simp; omega))]
   ·rw [QaO (by simpa using h),if_neg h]) (fun s=>by
   show QcF p _ o L s (p.unserved.length:Int)=_
   unfold QcF
   rw [Qbw]))) ?_
  rfl
 have l1:QaT (fun s=>QdH p (Qai.mk true c.1 c.2.1 c.2.2) o s.1 s.2) ([],0)=some (p.routes.set k c.2.1) :=
  QcJ (B:=fun s=>QdH p (Qai.mk true c.1 c.2.1 c.2.2) o s.1 s.2) p.routes.length (fun i=>((p.routes.set k c.2.1).take i,(i:Int))) (by omega) (fun i hi=>by
   have e:p.routes[i]?=some p.routes[i]:=List.getElem?_eq_getElem hi
   have e2:(p.routes.set k c.2.1)[i]?=some (if k=i then c.2.1 else p.routes[i]):=by
    rw [List.getElem?_set]
    by_cases h:k=i
    ·rw [if_pos h,if_pos h,if_pos (by omega)]
    ·rw [if_neg h,if_neg h]; exact e
   have hlen:((p.routes.set k c.2.1).take i).length≤i:=by rw [List.length_take]; omega
   show QdH p _ o ((p.routes.set k c.2.1).take i) (i:Int)=some (.inl ((p.routes.set k c.2.1).take (i+1),((i+1:Nat):Int)))
   unfold QdH
   rw [QaY (by simp [lenI]; omega),incL e (by omega),take_one e2,QaX e,Qaj]
   by_cases h:k=i
   ·rw [QaY (by simp [hk,h]),if_pos h,Qd6 (QeN (by simp; omega))]
    rfl
   ·rw [QaO (by simp [hk]; omega),if_neg h,Qd6 (QeN (by simp; omega))]
    rfl) (by
   show QdH p _ o ((p.routes.set k c.2.1).take p.routes.length) (p.routes.length:Int)=_
   unfold QdH
   rw [Qbw,List.take_of_length_le (by rw [List.length_set]; exact Nat.le_refl _)])
 refine Eq.trans (Qcw l1) ?_
 unfold QxS
 simp only
 by_cases h:c.1<p.routes.length
 ·rw [QaO (by simp [lenI]; omega),if_pos h,hJ,hk]
  rfl
 ·rw [QaY (by simp [lenI]; omega),if_neg h,Qd6 (QeN (by simp; omega)),hJ,List.set_eq_of_length_le (by omega)]
theorem QDz (h1:p.routes.length≤1000) (hR:∀ r∈p.routes,r.visits.length≤1048576):QkF p o=some (QCA p o):=by
 unfold QkF
 have hix:∀ (B:Int→Option (Int⊕(Unit⊕Int))),(∀ (i:Nat) r,p.routes[i]?=some r→B (i:Int)=some (if hasO r.visits o=true then .inr (.inr (i:Int)) else .inl ((i:Int)+1)))→B (p.routes.length:Int)=some (.inr (.inl ())) →
   bnd (QaT B 0) (fun e=>sel e (fun (_:Unit)=>some (-1:Int)) (fun r1=>some r1))=some (ixI (fun r:Qad=>hasO r.visits o) p.routes):=fun B hB hE=>by
  rw [QsF (l:=p.routes) (by omega) (fun r:Qad=>hasO r.visits o) (fun k=>.inr (k:Int)) (N:=.inl ()) hB hE,Qaj]
  unfold ixI
  cases ixP (fun r:Qad=>hasO r.visits o) p.routes <;> rfl
 have key:Qa3 p.routes o=some (QCA p o):=by
  unfold Qa3 Qbn
  rw [hix _ (fun i r hr=>by
   unfold QaU QkB
   rw [Qcm hr,QzF (hR r (List.mem_of_getElem? hr)),Qaj,Qaj,incL hr (by omega),brs]) (by
   unfold QaU
   rw [Qbw]),Qaj,QpV]
  rfl
 rw [key,Qaj]
theorem QCe (h1:p.routes.length≤1000) (hR:∀ r∈p.routes,r.visits.length≤1048576):Qg5 p o=some (QCA p o):=by
 unfold Qg5
 rw [QiW (l:=p.routes) (by omega) (fun r:Qad=>hasO r.visits o) (y:=.inr true) (N:=.inl ()) (fun i r hr=>by
  unfold Qd5
  rw [Qcm hr,QHF (hR r (List.mem_of_getElem? hr)),Qaj,incL hr (by omega),brs]) (by
  unfold Qd5
  rw [Qbw]),Qaj]
 unfold QCA
 cases p.routes.any (fun r:Qad=>hasO r.visits o) <;> rfl
end
end Go.Proofs.YtpkkaboonnedfaaGreatDoor
namespace Go.Proofs.YtpkkaboonnedfaaGreatDoor
set_option linter.unusedSimpArgs false
set_option linter.unusedVariables false
set_option linter.unusedSectionVars false
structure QAr (x:Qac) (rs:List Qad):Prop where
 each:∀ r∈rs,QmN r∧r.visits.length≤8∧(prX x r).2=0
 once:∀ i:Nat,i<x.orders.length→cntO rs i≤1
 count:∀ (t:Nat) ty,x.types[t]?=some ty→cntT rs t≤ty.count
def QHM (x:Qac) (p:Qak) (c:Cnd) (b:Qad):Prop:=(∃ i:Nat,c.1=(i:Int)∧p.routes[i]?=some b)∨(c.1=(p.routes.length:Int)∧∃ (t:Nat) (ty:Qal),x.types[t]?=some ty∧b=Qad.mk (t:Int) 0 [] []∧cntT p.routes t<ty.count)
def QAp (x:Qac) (p:Qak) (o:Int) (c:Cnd):Prop:=∃ b,QHM x p c b∧(insX x b o).2.2=0∧c.2.1=(insX x b o).1
section
variable {x : Qac} {r : Qad} {l more : List Qaa} {v : Qaa} {o : Int} {s : Option Cnd} {p : Qak} {n : Nat} {c : Cnd} {rs : List Qad}
theorem QF9 (h:(insX x r o).2.2=0):∃ q∈plcS (visO x o) r.visits r.rests.length,(prX x (rW r q)).2=0∧(insX x r o).1=rW r q∧(0≤o∧o<x.orders.length)∧offN x o.toNat=false∧hasO r.visits o=false:=by
 unfold insX at h ⊢
 split at h
 ·rename_i ht
  split at h
  ·rename_i ho
   split at h
   ·cases h
   ·rename_i hf
    split at h
    ·cases h
    ·rename_i hh
     rw [if_pos ht,if_pos ho,if_neg hf,if_neg hh]
     obtain ⟨b1,_,_⟩:=QAE (x:=x) (r:=r) (plcS (visO x o) r.visits r.rests.length) none (fun k=>∃ q,q∈plcS (visO x o) r.visits r.rests.length∧(prX x (rW r q)).2=0∧k=kyX x r q) (fun k hk=>by cases hk) (fun q hq hp=>⟨q,hq,hp,rfl⟩)
     cases hb:QzP x r o with
     | none=>rw [hb] at h; cases h
     | some k =>
      obtain ⟨q,q1,q2,q3⟩:=b1 k hb
      exact ⟨q,q1,q2,by rw [q3]; rfl,ho,by simpa using hf,by simpa using hh⟩
  ·cases h
 ·cases h
theorem QC1 {k:Nat} {i:Int}:hasO (Qqm l k v) i=(hasO l i||isO i v):=by
 unfold hasO Qqm
 rw [List.any_append,List.any_append]
 conv=>rhs; rw [← List.take_append_drop k l,List.any_append]
 cases (l.take k).any (isO i) <;> cases (l.drop k).any (isO i) <;> simp
theorem QBS:∀ {more l:List Qaa} {f:Nat},∀ s∈plcS more l f,∀ i,hasO s i=(hasO l i||hasO more i)
 | [],l,f,s,hs,i=>by
  rw [plcS,List.mem_singleton] at hs; rw [hs]; simp [hasO]
 | v :: r,l,f,s,hs,i=>by
  rw [plcS,List.mem_flatMap] at hs
  obtain ⟨k,_,hk⟩:=hs
  rw [QBS s hk i,QC1]
  show ((hasO l i||isO i v)||hasO r i)=(hasO l i||(isO i v||hasO r i))
  rw [Bool.or_assoc]
theorem QFs (hx:QbW x) (ho:0≤o∧o<x.orders.length) {i:Int}:hasO (visO x o) i=eqI o i:=by
 rw [Bool.eq_iff_iff,Qvb,QvW]
 constructor
 ·rintro ⟨v,hv,rfl⟩
  exact (QvO hv).symm
 ·rintro rfl
  obtain ⟨v,hv⟩:=QzE hx (i:=o.toNat) (by omega)
  rw [show ((o.toNat:Nat):Int)=o by omega] at hv
  exact ⟨v,hv,QvO hv⟩
theorem Qwr:∀ (i:Nat) {c:Cnd},Qsq x p o i=some c→QAp x p o c
 | 0,c,h=>by cases h
 | i+1,c,h=>by
  rw [Qsq] at h
  cases e:p.routes[i]? with
  | none=>rw [e] at h; exact Qwr i h
  | some r =>
   rw [e] at h
   simp only at h
   unfold QCC at h
   split at h
   ·rename_i h0
    have hn:QAp x p o ((i:Int),(insX x r o).1,(insX x r o).2.1-(prX x r).1):=⟨r,.inl ⟨i,rfl,e⟩,h0,rfl⟩
    cases hc:Qsq x p o i with
    | none=>rw [hc] at h; cases h; exact hn
    | some q =>
     rw [hc] at h
     simp only at h
     split at h
     ·cases h; exact hn
     ·cases h; exact Qwr i hc
   ·exact Qwr i h
theorem Qu2:∀ (t:Nat) {c:Cnd},QvQ x p o t=some c→QAp x p o c
 | 0,c,h=>Qwr _ h
 | t+1,c,h=>by
  rw [QvQ] at h
  cases e:x.types[t]? with
  | none=>rw [e] at h; exact Qu2 t h
  | some ty =>
   rw [e] at h
   simp only at h
   split at h
   ·rename_i hlt
    unfold QCC at h
    split at h
    ·rename_i h0
     have hn:QAp x p o ((p.routes.length:Int),(insX x (Qad.mk (t:Int) 0 [] []) o).1,(insX x (Qad.mk (t:Int) 0 [] []) o).2.1-0):=⟨_,.inr ⟨rfl,t,ty,e,rfl,hlt⟩,h0,rfl⟩
     cases hc:QvQ x p o t with
     | none=>rw [hc] at h; cases h; exact hn
     | some q =>
      rw [hc] at h
      simp only at h
      split at h
      ·cases h; exact hn
      ·cases h; exact Qu2 t hc
    ·exact Qu2 t h
   ·exact Qu2 t h
theorem Qyw {α:Type} {f:α→Int}:∀ {l:List α} {k:Nat} {a b:α},l[k]?=some b→sumF f (l.set k a)=sumF f l-f b+f a
 | [],k,a,b,h=>by simp at h
 | y :: l,0,a,b,h=>by
  cases h
  simp [sumF]; omega
 | y :: l,k+1,a,b,h=>by
  have:=Qyw (f:=f) (l:=l) (k:=k) (a:=a) (b:=b) (by simpa using h)
  simp only [List.set_cons_succ]
  have e1:sumF f (y :: l.set k a)=f y+sumF f (l.set k a):=by simp [sumF]
  have e2:sumF f (y :: l)=f y+sumF f l:=by simp [sumF]
  rw [e1,e2,this]; omega
theorem seq6 (h4:x.orders.length≤4) (ho:0≤o∧o<x.orders.length) (hq:QvP x l) (hn:hasO l o=false):l.length≤6:=by
 have hno:∀ v∈l,v.order≠o:=fun v hv e=>by
  have:hasO l o=true:=Qvb.2 ⟨v,hv,e⟩
  rw [hn] at this; cases this
 have hg:QEm x (l++[Qaa.mk o false,Qaa.mk o true]):=by
  refine ⟨?_,fun v hv=>?_⟩
  ·rw [List.nodup_append]
   refine ⟨hq.nodup,by simp,fun a ha b hb e=>?_⟩
   subst e
   simp only [List.mem_cons,List.not_mem_nil,or_false] at hb
   rcases hb with rfl|rfl <;> exact hno _ ha rfl
  ·rcases List.mem_append.1 hv with h|h
   ·exact QpF hq.inn h
   ·simp only [List.mem_cons,List.not_mem_nil,or_false] at h
    rcases h with rfl|rfl <;> exact ho
 have:=hg.len
 rw [List.length_append] at this
 simp at this
 omega
theorem QGz (h:r.visits.length≤8):Qtz r:=by unfold Qtz; omega
theorem QAr.seq (hx:QbW x) (hg:QAr x rs) (hr:r∈rs):QvP x r.visits:=by
 obtain ⟨h1,h2,h3⟩:=hg.each r hr
 exact QHl hx h1 (QGz h2) h3
theorem QAr.insI (hx:QbW x) (h4:x.orders.length≤4) (ho:0≤o∧o<x.orders.length) (hg:QAr x rs) (hr:r∈rs):InsI r o∧Qtz r:=by
 obtain ⟨h1,h2,h3⟩:=hg.each r hr
 refine ⟨⟨h1,by omega,fun hn=>.inl ?_⟩,QGz h2⟩
 have:=seq6 h4 ho (hg.seq hx hr) hn
 omega
theorem QAr.insP (hx:QbW x) (h4:x.orders.length≤4) (ho:0≤o∧o<x.orders.length) (hg:QAr x p.routes) (hl:p.routes.length≤1000):InsP p o:=⟨hl,fun r hr=>hg.insI hx h4 ho hr⟩
theorem QAr.with (hx:QbW x) (h4:x.orders.length≤4) (hg:QAr x p.routes) {k:Nat} (hk:k<x.orders.length) (hk0:cntO p.routes k≤0) (hc:QAp x p (k:Int) c) :
  QAr x (QxS p (k:Int) c).routes∧(∀ i:Nat,cntO (QxS p (k:Int) c).routes i=cntO p.routes i+bit1 (eqI (k:Int) (i:Int)))∧p.routes.length≤(QxS p (k:Int) c).routes.length∧(QxS p (k:Int) c).routes.length≤p.routes.length+1:=by
 obtain ⟨b,hb,h0,hc2⟩:=hc
 obtain ⟨q,q1,q2,q3,ho,hf,hh⟩:=QF9 h0
 have hbI:QmN b∧b.visits.length≤6:=by
  rcases hb with ⟨i,_,e⟩|⟨_,t,ty,e,rfl,_⟩
  ·have hm:=List.mem_of_getElem? e
   exact ⟨(hg.each b hm).1,seq6 h4 ho (hg.seq hx hm) hh⟩
  ·have h6:=hx.types
   have:=(List.getElem?_eq_some_iff.1 e).1
   exact ⟨(newI (t:=t) (o:=(0:Int)) (by omega)).R,by simp⟩
 have hql:=Qyg q q1
 have hvl:=QpQ (x:=x) (o:=(k:Int))
 have hnew:QmN c.2.1∧c.2.1.visits.length≤8∧(prX x c.2.1).2=0:=by
  rw [hc2,q3]
  exact ⟨(rW_I hbI.1 (by omega)).1,show q.length≤8 by omega,q2⟩
 have hhas:∀ i:Nat,bit1 (hasO c.2.1.visits (i:Int))=bit1 (hasO b.visits (i:Int))+bit1 (eqI (k:Int) (i:Int)):=fun i=>by
  rw [hc2,q3]
  show bit1 (hasO q (i:Int))=_
  rw [QBS q q1,QFs hx ho]
  by_cases hi:i=k
  ·subst hi; rw [hh]; simp [bit1,eqI]
  ·have:eqI (k:Int) (i:Int)=false:=by simp; omega
   rw [this]; simp [bit1]
 have hty:c.2.1.type_=b.type_:=by rw [hc2,q3]; rfl
 rcases hb with ⟨i,hi,e⟩|⟨hi,t,ty,e,rfl,hlt⟩
 ·have hil:=(List.getElem?_eq_some_iff.1 e).1
  have hw:(QxS p (k:Int) c).routes=p.routes.set i c.2.1:=by
   unfold QxS
   simp only
   rw [hi,if_pos (by omega),Int.toNat_natCast]
  rw [hw]
  have hcO:∀ j:Nat,cntO (p.routes.set i c.2.1) j=cntO p.routes j+bit1 (eqI (k:Int) (j:Int)):=fun j=>by
   have:=Qyw (f:=fun r:Qad=>bit1 (hasO r.visits (j:Int))) (l:=p.routes) (k:=i) (a:=c.2.1) (b:=b) e
   have h2:=hhas j
   unfold cntO
   rw [this]; omega
  refine ⟨⟨fun r hr=>?_,fun j hj=>?_,fun t ty et=>?_⟩,hcO,by rw [List.length_set]; exact Nat.le_refl _,by rw [List.length_set]; omega⟩
  ·rcases List.mem_or_eq_of_mem_set hr with h|h
   ·exact hg.each r h
   ·rw [h]; exact hnew
  ·rw [hcO]
   by_cases hjk:j=k
   ·subst hjk
    have:=Qsp (b:=eqI (j:Int) (j:Int))
    omega
   ·have:eqI (k:Int) (j:Int)=false:=by simp; omega
    rw [this]
    have:=hg.once j hj
    simp [bit1]; omega
  ·have:=Qyw (f:=fun r:Qad=>bit1 (eqI r.type_ (t:Int))) (l:=p.routes) (k:=i) (a:=c.2.1) (b:=b) e
   have h2:=hg.count t ty et
   unfold cntT at h2 ⊢
   rw [this]
   simp only [hty]
   omega
 ·have hw:(QxS p (k:Int) c).routes=p.routes++[c.2.1]:=by
   unfold QxS
   simp only
   rw [hi,if_neg (by omega)]
  rw [hw]
  have hcO:∀ j:Nat,cntO (p.routes++[c.2.1]) j=cntO p.routes j+bit1 (eqI (k:Int) (j:Int)):=fun j=>by
   have h2:=hhas j
   have h3:hasO (Qad.mk (t:Int) 0 [] []).visits (j:Int)=false:=rfl
   rw [h3] at h2
   unfold cntO
   rw [Qs4,Qs5,h2]
   simp [bit1]
  refine ⟨⟨fun r hr=>?_,fun j hj=>?_,fun t' ty' et=>?_⟩,hcO,by simp,by simp⟩
  ·rcases List.mem_append.1 hr with h|h
   ·exact hg.each r h
   ·rw [List.mem_singleton.1 h]; exact hnew
  ·rw [hcO]
   by_cases hjk:j=k
   ·subst hjk
    have:=Qsp (b:=eqI (j:Int) (j:Int))
    omega
   ·have:eqI (k:Int) (j:Int)=false:=by simp; omega
    rw [this]
    have:=hg.once j hj
    simp [bit1]; omega
  ·have h2:=hg.count t' ty' et
   unfold cntT at h2 hlt ⊢
   rw [Qs4,Qs5,hty]
   by_cases htt:t'=t
   ·subst htt
    rw [e] at et
    cases et
    have:=Qsp (b:=eqI ((Qad.mk (t':Int) 0 [] []).type_) (t':Int))
    omega
   ·have:eqI ((Qad.mk (t:Int) 0 [] []).type_) (t':Int)=false:=by simp; omega
    rw [this]
    have hz:bit1 false=0:=rfl
    rw [hz]; omega
end
end Go.Proofs.YtpkkaboonnedfaaGreatDoor
namespace Go.Proofs.YtpkkaboonnedfaaGreatDoor
set_option linter.unusedSimpArgs false
set_option linter.unusedVariables false
set_option linter.unusedSectionVars false
section
variable {x : Qac} {r : Qad} {l : List Int} {v : Qaa} {o : Int} {s : Option Cnd} {p : Qak} {n : Nat} {c : Cnd} {rs : List Qad}
theorem QEy {L:List Int} {a:Int} (hl:L.length≤1048576):Qdq L a=some (L.any fun b=>eqI a b):=by
 unfold Qdq Qfy
 rw [QsF (l:=L) hl (fun b=>eqI a b) (fun k=>.inr (k:Int)) (N:=.inl ()) (fun i b hb=>by
  unfold Qcu
  rw [Qcm hb,incL hb hl,brs]) (by unfold Qcu; rw [Qbw])]
 have hg:geI (ixI (fun b=>eqI a b) L) 0=L.any (fun b=>eqI a b):=QpV
 unfold ixI at hg
 cases h:ixP (fun b=>eqI a b) L with
 | none=>rw [h] at hg; exact congrArg some hg
 | some k=>rw [h] at hg; exact congrArg some hg
def Qw5 (x:Qac) (l:List Int):Prop:=(∀ a∈l,0≤a∧a<x.orders.length)∧l.Nodup
theorem Qw5.len (h:Qw5 x l):l.length≤x.orders.length:=by
 have hm:(l.map Int.toNat).Nodup:=by
  unfold List.Nodup
  rw [List.pairwise_map]
  refine h.2.imp_of_mem fun {a b} ha hb hne he=>hne ?_
  have h1:=h.1 a ha
  have h2:=h.1 b hb
  omega
 have:=Qvp x.orders.length _ hm fun a ha=>by
  obtain ⟨v,hv,rfl⟩:=List.mem_map.1 ha
  have h1:=h.1 v hv
  omega
 simpa using this
structure GrI (x:Qac) (l:List Int) (k:Nat) (rs:List Qad):Prop where
 good:QAr x rs
 len:rs.length≤k
 new:∀ i:Nat,i<x.orders.length→(i:Int) ∉ l.take k→cntO rs i≤0
end
end Go.Proofs.YtpkkaboonnedfaaGreatDoor
namespace Go.Proofs.YtpkkaboonnedfaaGreatDoor
set_option linter.unusedSimpArgs false
set_option linter.unusedVariables false
set_option linter.unusedSectionVars false
noncomputable def QGf (x:Qac) (i:Nat):Int:=match x.orders[i]? with
 | some q=>((Qge (Qau.mk q.penalty (if q.now=-1 then 0 else 1) 0 0)).getD (0,0)).1
 | none=>0
def penX (x:Qac) (i:Nat):Int:=match x.orders[i]? with
 | some q=>q.penalty
 | none=>0
noncomputable def wrtB (x:Qac) (i:Nat) (inc:Int):Bool:=decide (penX x i=-1)||ltI inc (QGf x i)
noncomputable def QGC (x:Qac) (rs:List Qad) (a:Int):List Qad :=
 if offN x a.toNat=true then rs else match QCV x (Qak.mk rs []) a with
  | none=>rs
  | some c=>if wrtB x a.toNat c.2.2=true then (QxS (Qak.mk rs []) a c).routes else rs
noncomputable def grS (x:Qac) (l:List Int):Nat→List Qad
 | 0=>[]
 | k+1=>match l[k]? with
  | some a=>QGC x (grS x l k) a
  | none=>grS x l k
def unS (x:Qac) (rs:List Qad):Nat→List Int
 | 0=>[]
 | j+1=>if (offN x j||QCA (Qak.mk rs []) (j:Int))=true then unS x rs j else unS x rs j++[(j:Int)]
def badG (x:Qac) (l:List Int) (j:Nat):Bool:=match l[j]? with
 | some a=>(ltI a 0||geI a (lenI x.orders))||(l.take j).any fun b=>eqI a b
 | none=>false
def QCw (x:Qac) (l:List Int) (j:Nat):Int:=match l[j]? with
 | some a=>if (ltI a 0||geI a (lenI x.orders))=true then 2 else 6
 | none=>0
def misB (x:Qac) (rs:List Qad) (j:Nat):Bool:=(!(offN x j||QCA (Qak.mk rs []) (j:Int)))&&decide (penX x j=-1)
noncomputable def greX (x:Qac) (l:List Int):Qak×Int :=
 if QhE (badG x l) l.length 0<l.length then (QzI,QCw x l (QhE (badG x l) l.length 0)) else
  if QhE (misB x (grS x l l.length)) x.orders.length 0<x.orders.length then (QzI,24) else (Qak.mk (grS x l l.length) (unS x (grS x l l.length) x.orders.length),0)
section
variable {x : Qac} {r : Qad} {l : List Int} {v : Qaa} {o : Int} {s : Option Cnd} {p : Qak} {n : Nat} {c : Cnd} {rs : List Qad}
theorem QBA (hx:QbW x) {k:Nat} (hk:k<x.orders.length) (hp:0≤penX x k):Qge (Qau.mk x.orders[k].penalty (if x.orders[k].now=-1 then 0 else 1) 0 0)=some (QGf x k,0)∧Qdr (Qau.mk x.orders[k].penalty (if x.orders[k].now=-1 then 0 else 1) 0 0)=some (QGf x k,0):=by
 have hO:=hx.ord _ (List.getElem_mem hk)
 have e:x.orders[k]?=some x.orders[k]:=List.getElem?_eq_getElem hk
 have hpen:=hO.penalty
 have hp':0≤x.orders[k].penalty:=by unfold penX at hp; rw [e] at hp; exact hp
 have hm:(0:Int)≤(if x.orders[k].now=-1 then 0 else 1)∧(if x.orders[k].now=-1 then (0:Int) else 1)≤15:=by split <;> omega
 have hw:=QyE (c:=x.orders[k].penalty) (m:=if x.orders[k].now=-1 then 0 else 1) (o:=0) (w:=0) ⟨hp',by omega⟩ hm (by omega) (by omega)
 obtain ⟨w,w1,w2⟩:=QyD (Qau.mk x.orders[k].penalty (if x.orders[k].now=-1 then 0 else 1) 0 0)
 have hl:QGf x k=(((x.orders[k].penalty*16+(if x.orders[k].now=-1 then 0 else 1))*16+0)*65536+0):=by
  unfold QGf
  rw [e]
  simp only
  rw [hw]
  rfl
 rw [w1] at hw
 rw [w1,w2,Option.some.inj hw,hl]
 exact ⟨rfl,rfl⟩
theorem QFp {k:Nat} (hk:k<x.orders.length) (hoff:offN x k=false) (hp:penX x k≠-1):QjK x (k:Int)=some (Qau.mk x.orders[k].penalty (if x.orders[k].now=-1 then 0 else 1) 0 0,0)∧QdF x (k:Int)=some (Qau.mk x.orders[k].penalty (if x.orders[k].now=-1 then 0 else 1) 0 0,0):=by
 have e:x.orders[k]?=some x.orders[k]:=List.getElem?_eq_getElem hk
 have ho:x.orders[k].off=false:=by unfold offN at hoff; rw [e] at hoff; exact hoff
 have hp':x.orders[k].penalty≠-1:=by unfold penX at hp; rw [e] at hp; exact hp
 unfold QjK QdF
 rw [QaO (by simp [lenI]; omega),QtR hk,Qaj,QaO ho,QaO (by simpa using hp'),brs]
 have:(if (neI x.orders[k].now (-1))=true then (Qau.mk x.orders[k].penalty 1 0 0,(0:Int)) else (Qau.mk x.orders[k].penalty 0 0 0,0))=(Qau.mk x.orders[k].penalty (if x.orders[k].now=-1 then 0 else 1) 0 0,0):=by
  by_cases h:x.orders[k].now=-1
  ·rw [if_neg (by simp [h]),if_pos h]
  ·rw [if_pos (by simpa using h),if_neg h]
 rw [this]
 exact ⟨rfl,rfl⟩
theorem QFu (hx:QbW x) {k:Nat} (hk:k<x.orders.length) (hoff:offN x k=false) (inc:Int):Qnc x (k:Int) inc=some (wrtB x k inc):=by
 have hO:=hx.ord _ (List.getElem_mem hk)
 have e:x.orders[k]?=some x.orders[k]:=List.getElem?_eq_getElem hk
 have hpe:penX x k=x.orders[k].penalty:=by unfold penX; rw [e]
 have hpen:=hO.penalty
 unfold Qnc wrtB
 rw [QtR hk,Qaj]
 by_cases hp:x.orders[k].penalty=-1
 ·rw [QaY (by simpa using hp),hpe]
  simp [hp]
 ·have h0:0≤penX x k:=by rw [hpe]; omega
  rw [QaO (by simpa using hp),(QFp hk hoff (by rw [hpe]; exact hp)).1,Qaj,QaO (by simp),(QBA hx hk h0).1,Qaj,hpe]
  simp [hp]
theorem GrI.step (hx:QbW x) (h4:x.orders.length≤4) (hl:Qw5 x l) {k:Nat} {a:Int} (e:l[k]?=some a) (hi:GrI x l k rs):GrI x l (k+1) (QGC x rs a):=by
 have hm:=hl.1 _ (List.mem_of_getElem? e)
 have hlen:=hl.len
 have hkl:=(List.getElem?_eq_some_iff.1 e).1
 obtain ⟨i,rfl⟩:∃ i:Nat,a=i:=⟨a.toNat,by omega⟩
 have hil:i<x.orders.length:=by omega
 have hsub:∀ j:Nat,(j:Int) ∉ l.take (k+1)→(j:Int) ∉ l.take k:=fun j hj hjk=>hj (by rw [take_one e]; exact List.mem_append_left _ hjk)
 have stay:GrI x l (k+1) rs:=⟨hi.good,by have:=hi.len; omega,fun j hj hjn=>hi.new j hj (hsub j hjn)⟩
 unfold QGC
 split
 ·exact stay
 ·unfold QCV
  cases hc:QvQ x (Qak.mk rs []) (i:Int) x.types.length with
  | none=>exact stay
  | some c =>
   simp only
   split
   ·have hnot:(i:Int) ∉ l.take k:=fun hmem=>by
     have hn:=hl.2
     rw [← List.take_append_drop (k+1) l,take_one e,List.append_assoc,List.nodup_append] at hn
     exact hn.2.2 _ hmem _ (by simp) rfl
    obtain ⟨g1,g2,g3,g4⟩:=QAr.with (p:=Qak.mk rs []) hx h4 hi.good hil (hi.new i hil hnot) (Qu2 _ hc)
    refine ⟨g1,?_,fun j hj hjn=>?_⟩
    ·have:=hi.len
     have g4':(QxS (Qak.mk rs []) (i:Int) c).routes.length≤rs.length+1:=g4
     omega
    ·rw [g2]
     have hji:(j:Int)≠(i:Int):=fun hji=>hjn (by rw [take_one e,hji]; simp)
     have:eqI (i:Int) (j:Int)=false:=by simp; omega
     rw [this]
     have hz:bit1 false=0:=rfl
     have:=hi.new j hj (hsub j hjn)
     show cntO rs j+bit1 false≤0
     omega
   ·exact stay
theorem GrI.all (hx:QbW x) (h4:x.orders.length≤4) (hl:Qw5 x l):∀ k,k≤l.length→GrI x l k (grS x l k)
 | 0,_=>⟨⟨fun r hr=>by simp [grS] at hr,fun i hi=>by simp [cntO,sumF,grS],fun t ty e=>by
  have hO:=hx.typ _ (List.mem_of_getElem? e)
  have:=hO.count
  simp [cntT,sumF,grS]; omega⟩,by simp [grS],fun i hi _=>by simp [cntO,sumF,grS]⟩
 | k+1,h=>by
  have e:l[k]?=some l[k]:=List.getElem?_eq_getElem (by omega)
  rw [grS,e]
  exact (GrI.all hx h4 hl k (by omega)).step hx h4 hl e
theorem QEg {us us':List Int}:QCA (Qak.mk rs us) o=QCA (Qak.mk rs us') o:=rfl
theorem QCn {j:Nat}:(unS x rs j).length≤j:=by
 induction j with
 | zero=>simp [unS]
 | succ j ih =>
  unfold unS
  split
  ·omega
  ·simp; omega
theorem QBs (h:QhE (badG x l) l.length 0=l.length):Qw5 x l:=by
 obtain ⟨s1,s2,s3,s4⟩:=Qkq (badG x l) l.length 0
 have hb:∀ j,j<l.length→badG x l j=false:=fun j hj=>s3 j (Nat.zero_le _) (by omega)
 have main:∀ k,k≤l.length→Qw5 x (l.take k):=fun k=>by
  induction k with
  | zero=>exact fun _=>⟨fun a ha=>by simp at ha,by simp⟩
  | succ k ih =>
   intro hk
   obtain ⟨i1,i2⟩:=ih (by omega)
   have e:l[k]?=some l[k]:=List.getElem?_eq_getElem (by omega)
   have hbk:=hb k (by omega)
   unfold badG at hbk
   rw [e] at hbk
   simp only [Bool.or_eq_false_iff,QsA,QCz,lenI] at hbk
   rw [take_one e]
   refine ⟨fun a ha=>?_,?_⟩
   ·rcases List.mem_append.1 ha with h|h
    ·exact i1 a h
    ·rw [List.mem_singleton.1 h]; exact ⟨by omega,by omega⟩
   ·rw [List.nodup_append]
    refine ⟨i2,by simp,fun b hb2 d hd2 hbd=>?_⟩
    rw [List.mem_singleton] at hd2
    subst hd2
    subst hbd
    have:=List.any_eq_false.1 hbk.2 _ hb2
    simp at this
 have:=main l.length (Nat.le_refl _)
 rwa [List.take_length] at this
end
end Go.Proofs.YtpkkaboonnedfaaGreatDoor
namespace Go.Proofs.YtpkkaboonnedfaaGreatDoor
set_option linter.unusedSimpArgs false
set_option linter.unusedVariables false
set_option linter.unusedSectionVars false
section
variable {x : Qac} {r : Qad} {l : List Int} {v : Qaa} {o : Int} {s : Option Cnd} {p : Qak} {n : Nat} {c : Cnd} {rs : List Qad}
theorem QHP (hl:l.length≤1048576):QaT (fun s=>Qel x l s) 0=some (if QhE (badG x l) l.length 0<l.length then .inr (QzI,QCw x l (QhE (badG x l) l.length 0)) else .inl ()) :=
 QoZ (B:=fun s=>Qel x l s) (n:=l.length) (by omega) (badG x l) (fun k=>(k:Int)) (fun j=>(.inr (QzI,QCw x l j):Unit⊕(Qak×Int))) (N:=.inl ()) (fun j hj=>by
  have e:l[j]?=some l[j]:=List.getElem?_eq_getElem hj
  generalize l[j]=a at e
  unfold Qel badG QCw
  rw [Qcm e,e]
  simp only
  by_cases hc:(ltI a 0||geI a (lenI x.orders))=true
  ·rw [QaY hc,hc,if_pos rfl,Bool.true_or,if_pos rfl]
   rfl
  ·have hc':(ltI a 0||geI a (lenI x.orders))=false:=by simpa using hc
   rw [QaO hc',hc',QFk (by omega),Qaj,QEy (by rw [List.length_take]; omega),Qaj,incL e hl,Bool.false_or,brs]
   rfl) (by
  unfold Qel
  rw [Qbw])
theorem QFg (hl:l.length≤1048576):QhX x l=some (if QhE (badG x l) l.length 0<l.length then QCw x l (QhE (badG x l) l.length 0) else 0):=by
 unfold QhX
 have hloop:QaT (fun s=>Qdk x l s) 0=some (if QhE (badG x l) l.length 0<l.length then .inr (QCw x l (QhE (badG x l) l.length 0)) else .inl ()) :=
  QoZ (B:=fun s=>Qdk x l s) (n:=l.length) (by omega) (badG x l) (fun k=>(k:Int)) (fun j=>(.inr (QCw x l j):Unit⊕Int)) (N:=.inl ()) (fun j hj=>by
   have e:l[j]?=some l[j]:=List.getElem?_eq_getElem hj
   have hin:QaT (fun s=>Qdl x l (j:Int) s) 0=some (if ((l.take j).any fun b=>eqI l[j] b)=true then .inr 6 else .inl ()) :=
    QwV (B:=fun s=>Qdl x l (j:Int) s) (n:=j) (by omega) (fun k=>match l[k]? with|some b=>eqI b l[j]|none=>false) (y:=(.inr 6:Unit⊕Int)) (N:=.inl ()) (by
     rw [List.any_eq_true]
     constructor
     ·rintro ⟨b,hb,he⟩
      obtain ⟨k,hk⟩:=List.getElem?_of_mem hb
      have hkl:=(List.getElem?_eq_some_iff.1 hk).1
      rw [List.length_take] at hkl
      rw [List.getElem?_take,if_pos (by omega)] at hk
      exact ⟨k,by omega,by rw [hk]; simp at he ⊢; exact he.symm⟩
     ·rintro ⟨k,hk,he⟩
      rw [List.getElem?_eq_getElem (show k<l.length by omega)] at he
      refine ⟨l[k],List.mem_of_getElem? (i:=k) (by rw [List.getElem?_take,if_pos hk]; exact List.getElem?_eq_getElem _),?_⟩
      simp at he ⊢; exact he.symm) (fun i hi=>by
     unfold Qdl
     rw [QaY (by simp; omega),QtR (by omega),Qaj,QtR hj,Qaj,addI (by omega) (by omega),brs,List.getElem?_eq_getElem (show i<l.length by omega)]) (by
     unfold Qdl
     rw [QaO (by simp)])
   generalize l[j]=a at e hin
   unfold Qdk badG QCw QfK
   rw [Qcm e,Qaj,hin,Qaj,incL e hl,e]
   simp only
   by_cases hc:(ltI a 0||geI a (lenI x.orders))=true
   ·rw [hc,Bool.true_or,if_pos rfl,if_pos rfl,QaO (by
     rcases orT.1 hc with h|h
     ·rw [Qsh] at h; rw [Bool.and_eq_false_iff]; exact .inl (by simp; omega)
     ·rw [Qs7] at h; rw [Bool.and_eq_false_iff]; exact .inr (by simp; omega))]
   ·have hc':(ltI a 0||geI a (lenI x.orders))=false:=by simpa using hc
    have hc2:=hc'
    simp only [Bool.or_eq_false_iff,QsA,QCz] at hc2
    rw [hc',Bool.false_or,QaY (by simp; omega)]
    cases (l.take j).any (fun b=>eqI a b) <;> rfl) (by
   unfold Qdk
   rw [Qbw])
 rw [Qcw hloop]
 split
 ·rw [Qjn]
 ·rw [Qgh]
theorem QHQ (hx:QbW x) (h4:x.orders.length≤4) (hl:Qw5 x l):QaT (fun s=>QcR x l s.1 s.2.1 s.2.2) ([],[],0)=some (grS x l l.length,[]) :=
 QcJ (B:=fun s=>QcR x l s.1 s.2.1 s.2.2) l.length (fun k=>(grS x l k,([]:List Int),(k:Int))) (by have:=hl.len; omega) (fun k hk=>by
  have hlen:=hl.len
  have e:l[k]?=some l[k]:=List.getElem?_eq_getElem hk
  have hm:=hl.1 _ (List.getElem_mem hk)
  have hi:=GrI.all hx h4 hl k (by omega)
  generalize l[k]=a at e hm
  obtain ⟨i,rfl⟩:∃ i:Nat,a=i:=⟨a.toNat,by omega⟩
  have hil:i<x.orders.length:=by omega
  show QcR x l (grS x l k) [] (k:Int)=some (.inl (grS x l (k+1),[],((k+1:Nat):Int)))
  rw [grS,e]
  simp only
  generalize grS x l k=rs at hi
  have hP:InsP (Qak.mk rs []) (i:Int):=hi.good.insP (p:=Qak.mk rs []) hx h4 hm (by have:=hi.len; show rs.length≤1000; omega)
  have hE:errP x (Qak.mk rs [])=0:=QAW fun r hr=>(hi.good.each r hr).2.2
  have hoff':offN x i=x.orders[i].off:=by unfold offN; rw [List.getElem?_eq_getElem hil]
  unfold QcR QGC
  rw [Qcm e,QtR hil,Qaj,incL e (by omega),Int.toNat_natCast,← hoff']
  by_cases hoff:offN x i=true
  ·rw [QaY hoff,if_pos hoff]; rfl
  ·rw [QaO (by simpa using hoff),if_neg hoff,QEM hx hP,Qaj]
   unfold QG5
   rw [if_neg (by simpa using hE)]
   unfold QCV
   cases hc:QvQ x (Qak.mk rs []) (i:Int) x.types.length with
   | none=>rfl
   | some c =>
    have hJ:=(JC.T hx hP (QzT hE).2 x.types.length (Nat.le_refl _) c hc).1
    simp only
    rw [QaY (by simp),QFu hx hil (by simpa using hoff),Qaj]
    by_cases hw:wrtB x i c.2.2=true
    ·rw [QaY hw,if_pos hw,QGI (p:=Qak.mk rs []) (by have:=hi.len; show rs.length≤1000; omega) (by simp) hJ,Qaj]
     rfl
    ·rw [QaO (by simpa using hw),if_neg hw]; rfl) (by
  show QcR x l (grS x l l.length) [] (l.length:Int)=_
  unfold QcR
  rw [Qbw])
theorem QCM {c:Cnd} (h1:rs.length≤1000) (hc:0≤c.1∧c.1≤rs.length):QdV (Qak.mk rs []) (Qai.mk true c.1 c.2.1 c.2.2) o=some (QxS (Qak.mk rs []) o c):=by
 have h:=QEs (p:=Qak.mk rs []) (o:=o) (c:=c) h1 (by simp) hc
 rw [← h]
 unfold QdV Qny
 have hJ:∀ L,QeL (Qak.mk rs []) (Qai.mk true c.1 c.2.1 c.2.2) o L=QbA (Qak.mk rs []) (Qai.mk true c.1 c.2.1 c.2.2) o L:=fun L=>by
  unfold QeL QbA
  rw [QaO (by simp)]
  have hloop:QaT (fun s=>QcF (Qak.mk rs []) (Qai.mk true c.1 c.2.1 c.2.2) o L s.1 s.2) ([],0)=some [] :=
   QcJ (B:=fun s=>QcF (Qak.mk rs []) (Qai.mk true c.1 c.2.1 c.2.2) o L s.1 s.2) 0 (fun _=>([],0)) (by omega) (fun i hi=>by omega) (by
    show QcF _ _ o L [] 0=_
    unfold QcF
    rw [QaO (by simp)])
  rw [Qcw hloop]
 simp only [hJ]
 rfl
theorem QH2 (hx:QbW x) (h4:x.orders.length≤4) (hl:Qw5 x l):QaT (fun s=>QbV x l s.1 s.2) ([],0)=some (grS x l l.length) :=
 QcJ (B:=fun s=>QbV x l s.1 s.2) l.length (fun k=>(grS x l k,(k:Int))) (by have:=hl.len; omega) (fun k hk=>by
  have hlen:=hl.len
  have e:l[k]?=some l[k]:=List.getElem?_eq_getElem hk
  have hm:=hl.1 _ (List.getElem_mem hk)
  have hi:=GrI.all hx h4 hl k (by omega)
  generalize l[k]=a at e hm
  obtain ⟨i,rfl⟩:∃ i:Nat,a=i:=⟨a.toNat,by omega⟩
  have hil:i<x.orders.length:=by omega
  show QbV x l (grS x l k) (k:Int)=some (.inl (grS x l (k+1),((k+1:Nat):Int)))
  rw [grS,e]
  simp only
  generalize grS x l k=rs at hi
  have hP:InsP (Qak.mk rs []) (i:Int):=hi.good.insP (p:=Qak.mk rs []) hx h4 hm (by have:=hi.len; show rs.length≤1000; omega)
  have hE:errP x (Qak.mk rs [])=0:=QAW fun r hr=>(hi.good.each r hr).2.2
  have ex:x.orders[i]?=some x.orders[i]:=List.getElem?_eq_getElem hil
  have hoff':offN x i=x.orders[i].off:=by unfold offN; rw [ex]
  have hpe:penX x i=x.orders[i].penalty:=by unfold penX; rw [ex]
  have hO:=(hx.ord _ (List.getElem_mem hil)).penalty
  unfold QbV QGC
  rw [Qcm e,QtR hil,Qaj,incL e (by omega),Int.toNat_natCast,← hoff']
  by_cases hoff:offN x i=true
  ·rw [QaY hoff,if_pos hoff]; rfl
  ·have hpick:=QGp hx hP (QzT hE).2
   rw [QaO (by simpa using hoff),if_neg hoff,QCI hx hP,Qaj,if_neg (by simpa using hE),hpick,Qaj]
   unfold QCV
   have hneg:∀ q,Qbk x l rs (k:Int) q false=some (.inl (rs,(k:Int)+1)):=fun q=>by
    unfold Qbk
    rw [QaO rfl,incL e (by omega)]
   have hpos:∀ c:Cnd,0≤c.1∧c.1≤rs.length→Qbk x l rs (k:Int) (Qai.mk true c.1 c.2.1 c.2.2) true=some (.inl ((QxS (Qak.mk rs []) (i:Int) c).routes,(k:Int)+1)):=fun c hc=>by
    unfold Qbk
    rw [QaY rfl,QaX e,Qaj,QCM (by have:=hi.len; omega) hc,Qaj,incL e (by omega)]
   cases hc:QvQ x (Qak.mk rs []) (i:Int) x.types.length with
   | none =>
    simp only
    show br (geI x.orders[i].penalty 0) (bnd (QdF x (i:Int)) fun r3=>bnd (Qdr r3.1) fun r4=>Qbk x l rs (k:Int) (repK none) false) (Qbk x l rs (k:Int) (repK none) false)=_
    by_cases hp:0≤x.orders[i].penalty
    ·rw [QaY (by simpa using hp),(QFp hil (by simpa using hoff) (by rw [hpe]; omega)).2,Qaj,(QBA hx hil (by rw [hpe]; exact hp)).2,Qaj,hneg]
     rfl
    ·rw [QaO (by simpa using hp),hneg]
     rfl
   | some c =>
    have hJ:=(JC.T hx hP (QzT hE).2 x.types.length (Nat.le_refl _) c hc).1
    simp only
    show br (geI x.orders[i].penalty 0) (bnd (QdF x (i:Int)) fun r3=>bnd (Qdr r3.1) fun r4=>Qbk x l rs (k:Int) (Qai.mk true c.1 c.2.1 c.2.2) (true&&ltI c.2.2 r4.1)) (Qbk x l rs (k:Int) (Qai.mk true c.1 c.2.1 c.2.2) true)=_
    have fin:∀ b:Bool,b=wrtB x i c.2.2→Qbk x l rs (k:Int) (Qai.mk true c.1 c.2.1 c.2.2) b=some (.inl (if wrtB x i c.2.2=true then (QxS (Qak.mk rs []) (i:Int) c).routes else rs,((k+1:Nat):Int))):=fun b hb=>by
     cases b with
     | true=>rw [hpos c hJ,if_pos hb.symm]; rfl
     | false=>rw [hneg,if_neg (by rw [← hb]; simp)]; rfl
    by_cases hp:0≤x.orders[i].penalty
    ·rw [QaY (by simpa using hp),(QFp hil (by simpa using hoff) (by rw [hpe]; omega)).2,Qaj,(QBA hx hil (by rw [hpe]; exact hp)).2,Qaj]
     refine fin _ ?_
     unfold wrtB
     rw [Bool.true_and,hpe,show decide (x.orders[i].penalty=-1)=false from decide_eq_false (by omega),Bool.false_or]
    ·rw [QaO (by simpa using hp)]
     refine fin _ ?_
     unfold wrtB
     rw [hpe,show decide (x.orders[i].penalty=-1)=true from decide_eq_true (by omega),Bool.true_or]) (by
  show QbV x l (grS x l l.length) (l.length:Int)=_
  unfold QbV
  rw [Qbw])
theorem QHR (hx:QbW x) (hl:rs.length≤1000) (hr:∀ r∈rs,r.visits.length≤1048576):QaT (fun s=>Qcn x rs s.1 s.2) ([],0)=some (if QhE (misB x rs) x.orders.length 0<x.orders.length then .inr (QzI,24) else .inl (unS x rs x.orders.length)) :=
 QoZ (B:=fun s=>Qcn x rs s.1 s.2) (n:=x.orders.length) (by have:=hx.orders; omega) (misB x rs) (fun j=>(unS x rs j,(j:Int))) (fun _=>(.inr (QzI,24):List Int⊕(Qak×Int))) (N:=.inl (unS x rs x.orders.length)) (fun j hj=>by
  have h10:=hx.orders
  have e:x.orders[j]?=some x.orders[j]:=List.getElem?_eq_getElem hj
  have hoff:offN x j=x.orders[j].off:=by unfold offN; rw [e]
  have hpe:penX x j=x.orders[j].penalty:=by unfold penX; rw [e]
  have hul:=QCn (x:=x) (rs:=rs) (j:=j)
  show Qcn x rs (unS x rs j) (j:Int)=_
  unfold Qcn misB
  rw [Qcm e,incL e (by omega),← hoff,QDz (p:=Qak.mk rs (unS x rs j)) hl hr,Qaj,QEg (us:=unS x rs j) (us':=[]),hpe,unS]
  cases offN x j with
  | true=>rfl
  | false =>
   rw [Qhg]
   cases QCA (Qak.mk rs []) (j:Int) with
   | true=>rfl
   | false =>
    rw [Qhg]
    by_cases hp:x.orders[j].penalty=-1
    ·rw [QaY (by simpa using hp),if_pos (by simp [hp])]
     rfl
    ·rw [QaO (by simpa using hp),Qd6 (QeN (by simp; omega)),if_neg (by simp [hp])]
     rfl) (by
  show Qcn x rs (unS x rs x.orders.length) (x.orders.length:Int)=_
  unfold Qcn
  rw [Qbw])
theorem QH3 (hx:QbW x) (hl:rs.length≤1000) (hr:∀ r∈rs,r.visits.length≤1048576):QaT (fun s=>QbE x rs s.1 s.2) ([],0)=some (if QhE (misB x rs) x.orders.length 0<x.orders.length then .inr (QzI,24) else .inl (unS x rs x.orders.length)) :=
 QoZ (B:=fun s=>QbE x rs s.1 s.2) (n:=x.orders.length) (by have:=hx.orders; omega) (misB x rs) (fun j=>(unS x rs j,(j:Int))) (fun _=>(.inr (QzI,24):List Int⊕(Qak×Int))) (N:=.inl (unS x rs x.orders.length)) (fun j hj=>by
  have h10:=hx.orders
  have e:x.orders[j]?=some x.orders[j]:=List.getElem?_eq_getElem hj
  have hoff:offN x j=x.orders[j].off:=by unfold offN; rw [e]
  have hpe:penX x j=x.orders[j].penalty:=by unfold penX; rw [e]
  have hul:=QCn (x:=x) (rs:=rs) (j:=j)
  show QbE x rs (unS x rs j) (j:Int)=_
  unfold QbE misB
  rw [Qcm e,incL e (by omega),← hoff,QCe (p:=Qak.mk rs (unS x rs j)) hl hr,Qaj,QEg (us:=unS x rs j) (us':=[]),hpe,unS]
  cases offN x j with
  | true=>rfl
  | false =>
   rw [Qhg]
   cases QCA (Qak.mk rs []) (j:Int) with
   | true=>rfl
   | false =>
    rw [Qhg,Qd6 (QeN (by simp; omega))]
    by_cases hp:x.orders[j].penalty=-1
    ·rw [QaY (by simpa using hp),if_pos (by simp [hp])]
     rfl
    ·rw [QaO (by simpa using hp),if_neg (by simp [hp])]
     rfl) (by
  show QbE x rs (unS x rs x.orders.length) (x.orders.length:Int)=_
  unfold QbE
  rw [Qbw])
theorem QFT {j:Nat} (h:badG x l j=true):QCw x l j≠0:=by
 unfold badG at h
 unfold QCw
 cases e:l[j]? with
 | none=>rw [e] at h; cases h
 | some a =>
  simp only
  split <;> decide
theorem QHS (hx:QbW x) (h4:x.orders.length≤4) (hl:l.length≤1048576):Qi2 x l=some (greX x l):=by
 obtain ⟨s1,s2,s3,s4⟩:=Qkq (badG x l) l.length 0
 unfold Qi2 greX
 rw [Qcw (QHP hl)]
 by_cases hb:QhE (badG x l) l.length 0<l.length
 ·rw [if_pos hb,if_pos hb,Qjn]
 ·rw [if_neg hb,if_neg hb,Qgh]
  have hL:=QBs (x:=x) (l:=l) (by omega)
  have hi:=GrI.all hx h4 hL l.length (Nat.le_refl _)
  have hlen:=hL.len
  have hrl:=hi.len
  refine (Qcw (QHQ hx h4 hL)).trans ?_
  refine (Qcw (QHR (rs:=grS x l l.length) hx (by omega) (fun r hr=>by have:=(hi.good.each r hr).2.1; omega))).trans ?_
  split
  ·rw [Qjn]
  ·rw [Qgh]
theorem QH4 (hx:QbW x) (h4:x.orders.length≤4) (hl:l.length≤1048576):Qg3 x l=some (greX x l):=by
 obtain ⟨s1,s2,s3,s4⟩:=Qkq (badG x l) l.length 0
 unfold Qg3 greX
 rw [QFg hl,Qaj]
 by_cases hb:QhE (badG x l) l.length 0<l.length
 ·rw [if_pos hb,if_pos hb,QaY (by simpa using QFT (s4 (by omega)))]
  rfl
 ·rw [if_neg hb,if_neg hb,QaO (by decide)]
  have hL:=QBs (x:=x) (l:=l) (by omega)
  have hi:=GrI.all hx h4 hL l.length (Nat.le_refl _)
  have hlen:=hL.len
  have hrl:=hi.len
  refine (Qcw (QH2 hx h4 hL)).trans ?_
  refine (Qcw (QH3 (rs:=grS x l l.length) hx (by omega) (fun r hr=>by have:=(hi.good.each r hr).2.1; omega))).trans ?_
  split
  ·rw [Qjn]
  ·rw [Qgh]
theorem QF5 (hx:QbW x) (h4:x.orders.length≤4):(greX x l).1.routes.length≤1048576∧(greX x l).1.unserved.length≤1048576∧∀ r∈(greX x l).1.routes,SzR r:=by
 have hz:QzI.routes.length≤1048576∧QzI.unserved.length≤1048576∧∀ r∈QzI.routes,SzR r:=⟨by simp [QzI],by simp [QzI],fun r hr=>by simp [QzI] at hr⟩
 obtain ⟨s1,s2,s3,s4⟩:=Qkq (badG x l) l.length 0
 unfold greX
 split
 ·exact hz
 ·rename_i hb
  split
  ·exact hz
  ·have hL:=QBs (x:=x) (l:=l) (by omega)
   have hi:=GrI.all hx h4 hL l.length (Nat.le_refl _)
   have hlen:=hL.len
   have hrl:=hi.len
   have hul:=QCn (x:=x) (rs:=grS x l l.length) (j:=x.orders.length)
   exact ⟨by show (grS x l l.length).length≤_; omega,by show (unS x _ _).length≤_; omega,fun r hr=>by obtain ⟨a,b,_⟩:=hi.good.each r hr; exact ⟨a.rests,by omega⟩⟩
theorem QtL (x:Qac) (hI:QGJ x) (l:List Int) (hl:l.length≤1048576):Qfv x l=some true:=by
 apply post.eq
 unfold Qfv
 rw [Qxf]
 refine Qbc (QGw hI) fun b hb=>Qa0 (fun _=>QaH.2 rfl) (fun h1=>?_)
 simp only [orF,Bool.not_eq_false',QvR,lenI] at h1
 have hx:=hb h1.1
 have h4:x.orders.length≤4:=by omega
 obtain ⟨z1,z2,z3⟩:=QF5 (l:=l) hx h4
 rw [QHS hx h4 hl,Qaj,QH4 hx h4 hl,Qaj,QaY (by simp),QDx z1 z2 z3,Qaj,QaY rfl]
 exact QaH.2 rfl
end
end Go.Proofs.YtpkkaboonnedfaaGreatDoor
