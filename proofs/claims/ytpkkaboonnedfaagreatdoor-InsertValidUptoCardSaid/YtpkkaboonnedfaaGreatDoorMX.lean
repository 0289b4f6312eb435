/- Part MX of the proof: texts Yua Yub Yuc Yud Yue Yva Yvb Yvc Yvd Yve Yvf Yvg Yvh Yvi Yvj Yvk Yvl Yvm. -/
import Derived.Test.YtpkkaboonnedfaaGreatDoorMR
namespace Go.Proofs.YtpkkaboonnedfaaGreatDoor
set_option linter.unusedSimpArgs false
set_option linter.unusedVariables false
set_option linter.unusedSectionVars false
def ltV (a b:Qab):Bool:=ltI a.order b.order||(eqI a.order b.order&&(!a.drop&&b.drop))
theorem ltV_t {a b:Qab}:ltV a b=true↔a.order<b.order∨(a.order=b.order∧a.drop=false∧b.drop=true):=by
 unfold ltV
 simp
theorem QzC {a:Qab}:ltV a a=false:=by
 rw [Bool.eq_false_iff]
 intro h
 rw [ltV_t] at h
 rcases h with h|⟨_,h1,h2⟩
 ·omega
 ·rw [h1] at h2; cases h2
theorem QyP {a b c:Qab} (h1:ltV a b=true) (h2:ltV b c=true):ltV a c=true:=by
 rw [ltV_t] at *
 rcases h1 with h1|⟨h1,h3,h4⟩ <;> rcases h2 with h2|⟨h2,h5,h6⟩
 ·exact .inl (by omega)
 ·exact .inl (by omega)
 ·exact .inl (by omega)
 ·rw [h4] at h5; cases h5
theorem QBp (a b:Qab):a=b∨ltV a b=true∨ltV b a=true:=by
 rcases Int.lt_trichotomy a.order b.order with h|h|h
 ·exact .inr (.inl (ltV_t.2 (.inl h)))
 ·cases ha:a.drop <;> cases hb:b.drop
  ·exact .inl (by cases a; cases b; simp_all)
  ·exact .inr (.inl (ltV_t.2 (.inr ⟨h,ha,hb⟩)))
  ·exact .inr (.inr (ltV_t.2 (.inr ⟨h.symm,hb,ha⟩)))
  ·exact .inl (by cases a; cases b; simp_all)
 ·exact .inr (.inr (ltV_t.2 (.inl h)))
def lessV:List Qab→List Qab→Bool
 | [],[]=>false
 | [],_ :: _=>true
 | _ :: _,[]=>false
 | a :: l,b :: m=>ltV a b||(decide (a=b)&&lessV l m)
theorem Qvd:∀ {l:List Qab},lessV l l=false
 | []=>rfl
 | a :: l=>by unfold lessV; rw [QzC,Qvd]; simp
theorem Qst:∀ {a b c:List Qab},lessV a b=true→lessV b c=true→lessV a c=true
 | [],[],_,h,_=>by cases h
 | _ :: _,[],_,h,_=>by cases h
 | [],_ :: _,[],_,h=>by cases h
 | [],_ :: _,_ :: _,_,_=>rfl
 | _ :: _,_ :: _,[],_,h=>by cases h
 | x :: a,y :: b,z :: c,h1,h2=>by
  unfold lessV at *
  simp only [Bool.or_eq_true,Bool.and_eq_true,decide_eq_true_iff] at *
  rcases h1 with h1|⟨rfl,h1⟩
  ·rcases h2 with h2|⟨rfl,h2⟩
   ·exact .inl (QyP h1 h2)
   ·exact .inl h1
  ·rcases h2 with h2|⟨rfl,h2⟩
   ·exact .inl h2
   ·exact .inr ⟨rfl,Qst h1 h2⟩
theorem Qve:∀ (a b:List Qab),a=b∨lessV a b=true∨lessV b a=true
 | [],[]=>.inl rfl
 | [],_ :: _=>.inr (.inl rfl)
 | _ :: _,[]=>.inr (.inr rfl)
 | x :: a,y :: b=>by
  unfold lessV
  simp only [Bool.or_eq_true,Bool.and_eq_true,decide_eq_true_iff]
  rcases QBp x y with rfl|h|h
  ·rcases Qve a b with rfl|h|h
   ·exact .inl rfl
   ·exact .inr (.inl (.inr ⟨rfl,h⟩))
   ·exact .inr (.inr (.inr ⟨rfl,h⟩))
  ·exact .inr (.inl (.inl h))
  ·exact .inr (.inr (.inl h))
abbrev Ky:=Int×List Qab
def kLt (k q:Ky):Prop:=k.1<q.1∨(k.1=q.1∧lessV k.2 q.2=true)
theorem Qxh {k:Ky}:¬ kLt k k:=by
 rintro (h|⟨_,h⟩)
 ·omega
 ·rw [Qvd] at h; cases h
theorem QyK {a b c:Ky} (h1:kLt a b) (h2:kLt b c):kLt a c:=by
 rcases h1 with h1|⟨h1,h3⟩ <;> rcases h2 with h2|⟨h2,h4⟩
 ·exact .inl (by omega)
 ·exact .inl (by omega)
 ·exact .inl (by omega)
 ·exact .inr ⟨by omega,Qst h3 h4⟩
theorem QBo (a b:Ky):a=b∨kLt a b∨kLt b a:=by
 rcases Int.lt_trichotomy a.1 b.1 with h|h|h
 ·exact .inr (.inl (.inl h))
 ·rcases Qve a.2 b.2 with h'|h'|h'
  ·exact .inl (Prod.ext h h')
  ·exact .inr (.inl (.inr ⟨h,h'⟩))
  ·exact .inr (.inr (.inr ⟨h.symm,h'⟩))
 ·exact .inr (.inr (.inl h))
theorem QyJ {a b c:Ky} (h1:¬ kLt a b) (h2:¬ kLt b c):¬ kLt a c:=fun h=>by
 rcases QBo b c with rfl|h3|h3
 ·exact h1 h
 ·exact h2 h3
 ·exact h1 (QyK h h3)
def Bst (S:Ky→Prop) (s t:Option Ky):Prop:=(∀ k,t=some k→s=some k∨S k)∧(∀ k,(s=some k∨S k)→∃ k',t=some k'∧¬ kLt k k')
theorem Bst.none {S:Ky→Prop} {s:Option Ky} (h:∀ k,¬ S k):Bst S s s :=
 ⟨fun k e=>.inl e,fun k e=>e.elim (fun e=>⟨k,e,Qxh⟩) fun e=>absurd e (h k)⟩
theorem Bst.comp {S T:Ky→Prop} {s t u:Option Ky} (h1:Bst S s t) (h2:Bst T t u):Bst (fun k=>S k∨T k) s u:=by
 refine ⟨fun k e=>?_,fun k e=>?_⟩
 ·rcases h2.1 k e with e|e
  ·rcases h1.1 k e with e|e
   ·exact .inl e
   ·exact .inr (.inl e)
  ·exact .inr (.inr e)
 ·have go:(s=some k∨S k)→∃ k',u=some k'∧¬ kLt k k':=fun e=>by
   obtain ⟨a,ha,hl⟩:=h1.2 k e
   obtain ⟨b,hb,hm⟩:=h2.2 a (.inl ha)
   exact ⟨b,hb,QyJ hl hm⟩
  rcases e with e|e|e
  ·exact go (.inl e)
  ·exact go (.inr e)
  ·exact h2.2 k (.inr e)
theorem Bst.congr {S T:Ky→Prop} {s t:Option Ky} (h:Bst S s t) (he:∀ k,S k↔T k):Bst T s t :=
 ⟨fun k e=>(h.1 k e).imp id (he k).1,fun k e=>h.2 k (e.imp id (he k).2)⟩
theorem Bst.one {S:Ky→Prop} {k:Ky} (hS:∀ q,S q↔q=k) {s t:Option Ky} (h:(t=some k∧∀ q,s=some q→¬ kLt q k)∨(t=s∧∃ q,s=some q∧¬ kLt k q)):Bst S s t:=by
 rcases h with ⟨rfl,h⟩|⟨rfl,q,rfl,h⟩
 ·refine ⟨fun q e=>.inr ((hS q).2 (Option.some.inj e).symm),fun q e=>⟨k,rfl,?_⟩⟩
  rcases e with e|e
  ·exact h q e
  ·rw [(hS q).1 e]; exact Qxh
 ·refine ⟨fun q e=>.inl e,fun q' e=>?_⟩
  rcases e with e|e
  ·exact ⟨q',e,Qxh⟩
  ·rw [(hS q').1 e]; exact ⟨q,rfl,h⟩
theorem Bst.nil {S:Ky→Prop} {s:Option Ky} (h:∀ k,¬ S k):Bst S s s:=Bst.none h
theorem Bst.more {α:Type} {T:α→Ky→Prop} {l:List α} {i:Nat} {a:α} {s t u:Option Ky} (h:Bst (fun k=>∃ b∈l.take i,T b k) s t) (ha:l[i]?=some a) (h2:Bst (T a) t u):Bst (fun k=>∃ b∈l.take (i+1),T b k) s u:=by
 refine (h.comp h2).congr fun k=>?_
 rw [take_one ha]
 constructor
 ·rintro (⟨b,hb,h⟩|h)
  ·exact ⟨b,List.mem_append_left _ hb,h⟩
  ·exact ⟨a,by simp,h⟩
 ·rintro ⟨b,hb,h⟩
  rcases List.mem_append.1 hb with hb|hb
  ·exact .inl ⟨b,hb,h⟩
  ·rw [List.mem_singleton.1 hb] at h; exact .inr h
end Go.Proofs.YtpkkaboonnedfaaGreatDoor
namespace Go.Proofs.YtpkkaboonnedfaaGreatDoor
set_option linter.unusedSimpArgs false
set_option linter.unusedVariables false
set_option linter.unusedSectionVars false
def headV (v:Qab):List Qab→List Qab
 | []=>[]
 | w :: r=>if w=v then [] else w :: headV v r
def QBC (x:Qac) (l:List Qab) (o:Int):Bool:=x.before.all fun p=>!eqI p.x1 o||(visO x p.x0).all fun w=>l.any (isV w)
def QBD (x:Qac) (l:List Qab) (v:Qab):Bool:=!l.any (isV v)&&((headV v (visO x v.order)).all (fun w=>l.any (isV w))&&QBC x l v.order)
def offN (x:Qac) (i:Nat):Bool:=match x.orders[i]? with
 | some o=>o.off
 | none=>true
structure GoodL (x:Qac) (l:List Qab):Prop where
 nodup:l.Nodup
 inn:∀ v∈l,0≤v.order∧v.order<x.orders.length
section
variable {x : Qac} {l t : List Qab} {m : Nat} {v w : Qab}
theorem Qr8 {o:Int} (h:v∈visO x o):v.order=o:=by
 unfold visO at h
 split at h
 ·rcases List.mem_append.1 h with h|h <;> (split at h <;> simp at h; rw [h])
 ·cases h
theorem GoodL.add (h:GoodL x l) (hv:v ∉ l) (h0:0≤v.order∧v.order<x.orders.length):GoodL x (l++[v]):=by
 refine ⟨List.nodup_append.2 ⟨h.nodup,by simp,fun a ha b hb=>?_⟩,fun w hw=>?_⟩
 ·rw [List.mem_singleton.1 hb]; exact fun e=>hv (e ▸ ha)
 ·rcases List.mem_append.1 hw with hw|hw
  ·exact h.inn w hw
  ·rw [List.mem_singleton.1 hw]; exact h0
theorem GoodL.len (h:GoodL x l):l.length≤2*x.orders.length:=by
 have hm:(l.map fun v:Qab=>2*v.order.toNat+(if v.drop=true then 1 else 0)).Nodup:=by
  unfold List.Nodup
  rw [List.pairwise_map]
  refine h.nodup.imp_of_mem fun {a b} ha hb hne he=>hne ?_
  have h1:=h.inn a ha
  have h2:=h.inn b hb
  cases a with
  | mk ao ad =>
   cases b with
   | mk bo bd =>
    simp only at h1 h2 he
    have hd:ad=bd∧ao=bo:=by
     cases ad <;> cases bd <;> simp at he ⊢ <;> omega
    rw [hd.1,hd.2]
 have:=QrG (2*x.orders.length) _ hm fun a ha=>by
  obtain ⟨v,hv,rfl⟩:=List.mem_map.1 ha
  have h1:=h.inn v hv
  split <;> omega
 simpa using this
theorem SeqOK.good (h:SeqOK x l):GoodL x l:=⟨h.nodup,fun v hv=>QmL h.inn hv⟩
theorem SeqOK.all (h:SeqOK x l) {o:Int} (ho:hasO l o=true) (hw:w∈visO x o):w∈l:=by
 obtain ⟨v,hv,rfl⟩:=Qru.1 ho
 have hp:=h.pair v hv
 unfold pairV at hp
 rw [Bool.and_eq_true] at hp
 have hr:=hp.2
 cases hvis:visO x v.order with
 | nil=>rw [hvis] at hw; cases hw
 | cons a r =>
  rw [hvis] at hr hw
  cases r with
  | nil =>
   simp only [rowB,geI_t] at hr
   rw [List.mem_singleton.1 hw]
   exact Qxg.1 hr
  | cons b r =>
   obtain ⟨rfl,_⟩:=QuM hvis
   simp only [rowB,geI_t,Bool.and_eq_true,ltI_t] at hr
   rcases List.mem_cons.1 hw with rfl|hw
   ·exact Qxg.1 hr.1
   ·rw [List.mem_singleton.1 hw]
    exact Qxg.1 (by omega)
theorem SeqOK.own (h:SeqOK x l) (hv:v∈l):v∈visO x v.order:=by
 have hp:=h.pair v hv
 unfold pairV at hp
 rw [Bool.and_eq_true] at hp
 exact any_V.1 hp.1
theorem QBW (h:(l++v :: t).Nodup):ixI (isV v) (l++v :: t)=(l.length:Int):=by
 have h0:=Qxg.2 (show v∈l++v :: t by simp)
 obtain ⟨k,hk⟩:∃ k:Nat,ixI (isV v) (l++v :: t)=k:=⟨(ixI (isV v) (l++v :: t)).toNat,by omega⟩
 obtain ⟨h1,h2⟩:=Qtz hk
 rw [hk]
 rcases Nat.lt_trichotomy k l.length with h3|h3|h3
 ·rw [List.getElem?_append_left h3] at h1
  exact absurd rfl ((List.nodup_append.1 h).2.2 v (List.mem_of_getElem? h1) v (by simp))
 ·rw [h3]
 ·exact absurd (by rw [List.getElem?_append_right (Nat.le_refl _)]; simp) (h2 l.length h3)
theorem ix_lt (h:ixI (isV w) (l++t)<(l.length:Int)) (h0:0≤ixI (isV w) (l++t)):w∈l:=by
 obtain ⟨k,hk⟩:∃ k:Nat,ixI (isV w) (l++t)=k:=⟨(ixI (isV w) (l++t)).toNat,by omega⟩
 obtain ⟨h1,_⟩:=Qtz hk
 rw [List.getElem?_append_left (by omega)] at h1
 exact List.mem_of_getElem? h1
theorem SeqOK.head (h:SeqOK x (l++v :: t)) (hw:w∈headV v (visO x v.order)):w∈l:=by
 have hp:=h.pair v (by simp)
 unfold pairV at hp
 rw [Bool.and_eq_true] at hp
 obtain ⟨h1,hr⟩:=hp
 have hv:=any_V.1 h1
 have hix:=QBW h.nodup
 cases hvis:visO x v.order with
 | nil=>rw [hvis] at hw; cases hw
 | cons a r =>
  rw [hvis] at hr hw hv
  cases r with
  | nil =>
   rw [headV,if_pos (List.mem_singleton.1 hv).symm] at hw
   cases hw
  | cons b r =>
   obtain ⟨rfl,hne⟩:=QuM hvis
   by_cases ha:a=v
   ·rw [headV,if_pos ha] at hw; cases hw
   ·have hb:b=v:=by
     rcases List.mem_cons.1 hv with h|h
     ·exact absurd h.symm ha
     ·exact (List.mem_singleton.1 h).symm
    rw [headV,if_neg ha,headV,if_pos hb] at hw
    rw [List.mem_singleton.1 hw]
    simp only [rowB,geI_t,Bool.and_eq_true,ltI_t] at hr
    rw [hb,hix] at hr
    exact ix_lt hr.2 hr.1
theorem Qyl (h:SeqOK x (l++v :: t)) {p:QaW} (hp:p∈x.before) (ho:p.x1=v.order) (hw:w∈visO x p.x0):w∈l:=by
 have hb:hasO (l++v :: t) p.x1=true:=Qru.2 ⟨v,by simp,ho.symm⟩
 have h1:badB (l++v :: t) p=false:=by simpa using List.any_eq_false.1 h.before p hp
 unfold badB at h1
 rw [hb,Bool.true_and] at h1
 simp only [Bool.or_eq_false_iff,Bool.not_eq_false'] at h1
 obtain ⟨h2,h3⟩:=h1
 have hm:=h.all h2 hw
 rcases List.mem_append.1 hm with hm|hm
 ·exact hm
 ·exfalso
  unfold lateB at h3
  cases e:ixP (isO p.x1) (l++v :: t) with
  | none =>
   have:=QsQ e v (by simp)
   rw [isO_t.2 ho.symm] at this
   cases this
  | some k =>
   rw [e] at h3
   simp only at h3
   have hk:k≤l.length:=Nat.le_of_not_lt fun hlt=>by
    have:=(QnQ e).2.2 l.length hlt
    rw [List.getElem_append_right (Nat.le_refl _)] at this
    simp only [Nat.sub_self,List.getElem_cons_zero] at this
    rw [isO_t.2 ho.symm] at this
    cases this
   have:hasO ((l++v :: t).drop k) p.x0=true:=Qru.2 ⟨w,by rw [List.drop_append_of_le_length hk]; exact List.mem_append_right _ hm,Qr8 hw⟩
   rw [this] at h3
   cases h3
theorem SeqOK.ready (h:SeqOK x (l++v :: t)):QBD x l v=true:=by
 unfold QBD
 have hn:v ∉ l:=fun hv=>(List.nodup_append.1 h.nodup).2.2 v hv v (by simp) rfl
 have e1:l.any (isV v)=false:=by rw [Bool.eq_false_iff,Ne,any_V]; exact hn
 rw [e1,Bool.not_false,Bool.true_and,Bool.and_eq_true,List.all_eq_true]
 refine ⟨fun w hw=>any_V.2 (h.head hw),?_⟩
 unfold QBC
 rw [List.all_eq_true]
 intro p hp
 by_cases ho:p.x1=v.order
 ·rw [Bool.or_eq_true]
  exact .inr (List.all_eq_true.2 fun w hw=>any_V.2 (Qyl h hp ho hw))
 ·rw [Bool.or_eq_true]
  exact .inl (by simpa using ho)
end
end Go.Proofs.YtpkkaboonnedfaaGreatDoor
namespace Go.Proofs.YtpkkaboonnedfaaGreatDoor
set_option linter.unusedSimpArgs false
set_option linter.unusedVariables false
set_option linter.unusedSectionVars false
def cmpI (a b:Int):Int:=if a<b then -1 else if b<a then 1 else 0
def cmpV (a b:Qab):Int:=if cmpI a.order b.order≠0 then cmpI a.order b.order else cmpI (if a.drop=true then 1 else 0) (if b.drop=true then 1 else 0)
theorem Qzk (a b:Int):Qfz a b=some (cmpI a b):=by
 unfold Qfz QhZ cmpI
 rw [Qah,Qah,show neI a a=false by simp,show neI b b=false by simp,QhY,QhY,brs,brs]
 simp only [ltI_t,gtI_t]
theorem QwH {a b:Int}:cmpI a b=0↔a=b:=by unfold cmpI; split <;> (try split) <;> omega
theorem Qzl {a b:Int}:cmpI a b<0↔a<b:=by unfold cmpI; split <;> (try split) <;> omega
theorem QzX (a b:Int):Ql9 [a,b]=some (if a≠0 then a else b):=by
 unfold Ql9
 have g0:Qds [a,b] 0=some (if a≠0 then .inr (.inr a) else .inl 1):=by
  unfold Qds
  rw [show br (ltI 0 (lenI [a,b])) (bnd (getI [a,b] 0) fun x0=>br (neI x0 0) (some (.inr (.inr x0))) (some (.inl (addK .i64 0 1)))) (some (.inr (.inl ())))=br (neI a 0) (some (.inr (.inr a):Int⊕(Unit⊕Int))) (some (.inl 1)) from rfl,brs]
  simp only [neI_t]
 have g1:Qds [a,b] 1=some (if b≠0 then .inr (.inr b) else .inl 2):=by
  unfold Qds
  rw [show br (ltI 1 (lenI [a,b])) (bnd (getI [a,b] 1) fun x0=>br (neI x0 0) (some (.inr (.inr x0))) (some (.inl (addK .i64 1 1)))) (some (.inr (.inl ())))=br (neI b 0) (some (.inr (.inr b):Int⊕(Unit⊕Int))) (some (.inl 2)) from rfl,brs]
  simp only [neI_t]
 have g2:Qds [a,b] 2=some (.inr (.inl ())):=rfl
 have key:loopF (fun s=>Qds [a,b] s) 0=some (if a≠0 then .inr a else if b≠0 then .inr b else .inl ()):=by
  refine Qqg 3 (by decide) ?_
  simp only [iterF]
  rw [g0]
  by_cases ha:a≠0
  ·rw [if_pos ha,if_pos ha]
  ·rw [if_neg ha,if_neg ha]
   simp only
   rw [g1]
   by_cases hb:b≠0
   ·rw [if_pos hb,if_pos hb]
   ·rw [if_neg hb,if_neg hb]
    simp only
    rw [g2]
 rw [Qc9 key]
 by_cases ha:a≠0
 ·rw [if_pos ha,if_pos ha,Qg6]
 ·rw [if_neg ha,if_neg ha]
  by_cases hb:b≠0
  ·rw [if_pos hb,Qg6]
  ·rw [if_neg hb,QfQ]
   congr 1; omega
theorem QA8 (a b:Qab):QgR a b=some (cmpV a b):=by
 have h1:∀ v:Qab,QeE v=some (if v.drop=true then 1 else 0):=fun v=>by unfold QeE; rw [brs]
 unfold QgR cmpV
 rw [Qzk,Qah,h1,Qah,h1,Qah,Qzk,Qah,QzX,Qah]
theorem QA7 {a b:Qab}:cmpV a b=0↔a=b:=by
 unfold cmpV
 cases a; cases b
 simp only [ne_eq,QwH,Qab.mk.injEq]
 split
 ·rename_i h
  rw [QwH]
  exact ⟨fun h'=>absurd h' h,fun h'=>absurd h'.1 h⟩
 ·rename_i h
  rw [QwH]
  rename_i d _ e
  cases d <;> cases e <;> simp_all
theorem QA9 {a b:Qab}:ltI (cmpV a b) 0=ltV a b:=by
 rw [Bool.eq_iff_iff,ltI_t,ltV_t]
 unfold cmpV
 split
 ·rename_i h
  rw [Qzl]
  rw [Ne,QwH] at h
  exact ⟨fun h'=>.inl h',fun h'=>h'.elim id fun h'=>absurd h'.1 h⟩
 ·rename_i h
  simp only [ne_eq,QwH,Classical.not_not] at h
  rw [Qzl]
  cases a.drop <;> cases b.drop <;> simp <;> omega
theorem QrA:∀ {k:Nat} {a b:List Qab},(∀ j,j<k→∃ u,a[j]?=some u∧b[j]?=some u)→lessV a b=lessV (a.drop k) (b.drop k)
 | 0,_,_,_=>rfl
 | k+1,a,b,h=>by
  obtain ⟨u,h1,h2⟩:=h 0 (by omega)
  cases a with
  | nil=>simp at h1
  | cons x a =>
   cases b with
   | nil=>simp at h2
   | cons y b =>
    simp at h1 h2
    subst h1
    subst h2
    rw [lessV,QzC,List.drop_succ_cons,List.drop_succ_cons,← QrA (k:=k) (a:=a) (b:=b) fun j hj=>by simpa using h (j+1) (by omega)]
    simp
def difN (a b:List Qab) (k:Nat):Bool:=match a[k]?,b[k]? with
 | some u,some w=>!decide (u=w)
 | some _,none=>true
 | _,_=>false
theorem Qzn {a b:List Qab} {k:Nat} (h:k<a.length) (hd:difN a b k=false):∃ u,a[k]?=some u∧b[k]?=some u:=by
 unfold difN at hd
 rw [List.getElem?_eq_getElem h] at hd ⊢
 cases hb:b[k]? with
 | none=>rw [hb] at hd; cases hd
 | some w =>
  rw [hb] at hd
  simp only [Bool.not_eq_false',decide_eq_true_iff] at hd
  exact ⟨_,rfl,by rw [hd]⟩
theorem QA1 {a b:List Qab} (ha:a.length≤1048576) (hb:b.length≤1048576):QjP a b=some (lessV a b):=by
 unfold QjP QaM
 rcases QxZ (B:=fun s=>Qaq a b s) (n:=a.length) ha (difN a b) (fun k=>(.inr (match a[k]?,b[k]? with|some u,some w=>cmpV u w|_,_=>1):Unit⊕Int)) (N:=.inl ()) (fun i hi=>by
  have e:a[i]?=some a[i]:=List.getElem?_eq_getElem hi
  show Qaq a b i=_
  unfold Qaq difN
  rw [Qb1 e,incL e ha,e]
  generalize a[i]=u at e
  cases hb2:b[i]? with
  | none =>
   rw [Qbc (by simp only [geI_t,lenI]; have:=List.getElem?_eq_none_iff.1 hb2; omega)]
   rfl
  | some w =>
   rw [QaY (by have:=(List.getElem?_eq_some_iff.1 hb2).1; simp [lenI]; omega),QaU hb2,Qah,QA8,Qah,brs]
   by_cases hq:u=w
   ·rw [if_neg (by simp only [neI_t,Classical.not_not,ne_eq]; exact QA7.2 hq),if_neg (by simp [hq])]
   ·rw [if_pos (by simp only [neI_t,ne_eq]; exact fun h=>hq (QA7.1 h)),if_pos (by simp [hq])]) (by
  show Qaq a b a.length=_
  unfold Qaq
  rw [Qbu]) with ⟨k,h1,h2,h3,h4⟩|⟨h1,h4⟩
 ·rw [Qc9 h4,Qg6,Qah]
  rw [QrA (k:=k) fun j hj=>Qzn (by omega) (h3 j hj)]
  unfold difN at h2
  rw [List.drop_eq_getElem_cons h1]
  rw [List.getElem?_eq_getElem h1] at h2 ⊢
  cases hb2:b[k]? with
  | none =>
   rw [List.drop_eq_nil_of_le (List.getElem?_eq_none_iff.1 hb2)]
   rfl
  | some w =>
   obtain ⟨g1,g2⟩:=List.getElem?_eq_some_iff.1 hb2
   rw [hb2] at h2
   simp only [Bool.not_eq_true',decide_eq_false_iff_not] at h2
   rw [List.drop_eq_getElem_cons g1,lessV,g2]
   simp only
   rw [QA9,decide_eq_false h2,Bool.false_and,Bool.or_false]
 ·rw [Qc9 h4,QfQ]
  rw [QrA (k:=a.length) fun j hj=>Qzn hj (h1 j hj),List.drop_length,brs,Qah]
  by_cases hl:a.length<b.length
  ·rw [if_pos (by simp [lenI]; omega),List.drop_eq_getElem_cons hl]; rfl
  ·rw [if_neg (by simp [lenI]; omega),List.drop_eq_nil_of_le (by omega)]; rfl
end Go.Proofs.YtpkkaboonnedfaaGreatDoor
namespace Go.Proofs.YtpkkaboonnedfaaGreatDoor
set_option linter.unusedSimpArgs false
set_option linter.unusedVariables false
set_option linter.unusedSectionVars false
def rW (b:Qad) (l:List Qab):Qad:=Qad.mk b.type_ b.start b.rests l
noncomputable def prX (x:Qac) (r:Qad):Int×Int:=(QfM x r).getD (0,1)
noncomputable def kyX (x:Qac) (b:Qad) (l:List Qab):Ky:=((prX x (rW b l)).1,l)
def Qr9:Qad:=Qad.mk 0 0 [] []
instance (k q:Ky):Decidable (kLt k q):=inferInstanceAs (Decidable (_∨_))
section
variable {x : Qac} {b r : Qad} {l t : List Qab} {m n : Nat} {v : Qab} {s : Option Ky}
theorem QtM (hx:QbQ x) (hR:Qi5 r) (h9:Qka r):QfM x r=some (prX x r)∧Qk8 x r=some (prX x r):=by
 obtain ⟨w,h1,h2⟩:=Qwq hx hR h9
 have:prX x r=w:=by unfold prX; rw [h1]; rfl
 rw [this]
 exact ⟨h1,h2⟩
theorem pr_ev (hx:QbQ x) (hR:Qi5 r) (h9:Qka r) (h:(prX x r).2=0):(evX x r).2.2=0:=by
 obtain ⟨e1,_⟩:=Qrq hx hR h9
 obtain ⟨p1,_⟩:=QtM hx hR h9
 unfold QfM at p1
 rw [e1,Qah] at p1
 by_cases h0:(evX x r).2.2=0
 ·exact h0
 ·rw [Qbc (by simpa using h0)] at p1
  have:=Option.some.inj p1
  rw [← this] at h
  exact h
theorem QBB (hx:QbQ x) (hR:Qi5 r) (h9:Qka r) (h:(prX x r).2=0):SeqOK x r.visits:=by
 obtain ⟨_,_,_,_,e5⟩:=Qrq hx hR h9
 obtain ⟨_,q,hE⟩:=e5 (pr_ev hx hR h9 h)
 exact QtU hE.seq
theorem rW_I (hR:Qi5 b) (hl:l.length≤8):Qi5 (rW b l)∧Qka (rW b l):=by
 refine ⟨⟨hR.type_,hR.start,hR.rests,?_⟩,?_⟩
 ·show l.length≤_
  omega
 ·unfold Qka
  show ¬ (9<l.length∧l.length≤20)
  omega
end
end Go.Proofs.YtpkkaboonnedfaaGreatDoor
namespace Go.Proofs.YtpkkaboonnedfaaGreatDoor
set_option linter.unusedSimpArgs false
set_option linter.unusedVariables false
set_option linter.unusedSectionVars false
def insAt {α:Type} (l:List α) (k:Nat) (v:α):List α:=l.take k++[v]++l.drop k
def plcS:List Qab→List Qab→Nat→List (List Qab)
 | [],l,_=>[l]
 | v :: r,l,f=>(List.range' f (l.length+1-f)).flatMap fun k=>plcS r (insAt l k v) (k+1)
section
variable {α : Type} {x : Qac} {r : Qad} {l more : List Qab} {v : Qab} {o : Int}
theorem QsP {l:List α} {k:Nat} {v:α}:(insAt l k v).length=l.length+1:=by
 unfold insAt; simp; omega
theorem Qut:∀ {more l:List Qab} {f:Nat},∀ s∈plcS more l f,s.length=l.length+more.length
 | [],l,f,s,hs=>by
  rw [plcS,List.mem_singleton] at hs; rw [hs]; rfl
 | v :: r,l,f,s,hs=>by
  rw [plcS,List.mem_flatMap] at hs
  obtain ⟨k,_,hk⟩:=hs
  rw [Qut s hk,QsP,List.length_cons]; omega
theorem QwW {α β:Type} {g:α→List β} {B:Nat}:∀ {L:List α},(∀ a∈L,(g a).length≤B)→(L.flatMap g).length≤L.length*B
 | [],_=>by simp
 | a :: L,h=>by
  rw [List.flatMap_cons,List.length_append,List.length_cons,Nat.add_mul,Nat.one_mul]
  have h1:=h a (List.mem_cons_self ..)
  have h2:=QwW (g:=g) (B:=B) (L:=L) fun b hb=>h b (List.mem_cons_of_mem _ hb)
  omega
theorem QxK {f:Nat} (hm:more.length≤2):(plcS more l f).length≤(l.length+1)*(l.length+2):=by
 have one:∀ (l:List Qab) (v:Qab) (f:Nat),(plcS [v] l f).length≤l.length+1:=fun l v f=>by
  rw [plcS]
  refine Nat.le_trans (QwW (B:=1) fun k _=>by rw [plcS]; simp) ?_
  rw [List.length_range']; omega
 match more,hm with
 | [],_ =>
  rw [plcS,List.length_singleton]
  exact Nat.le_trans (show 1≤1*1 by omega) (Nat.mul_le_mul (by omega) (by omega))
 | [v],_=>exact Nat.le_trans (one l v f) (Nat.le_trans (by omega) (Nat.mul_le_mul (Nat.le_refl _) (show 1≤l.length+2 by omega)))
 | [v,w],_ =>
  rw [plcS]
  refine Nat.le_trans (QwW (B:=l.length+2) fun k _=>Nat.le_trans (one _ w _) (by rw [QsP]; exact Nat.le_refl _)) ?_
  exact Nat.mul_le_mul_right _ (by rw [List.length_range']; omega)
 | a :: b :: c :: r,h=>simp at h
theorem QBr (h:l.length≤1048580):(l.length+1)*(l.length+2)≤1099532500000:=by
 have:=Nat.mul_le_mul (show l.length+1≤1048581 by omega) (show l.length+2≤1048582 by omega)
 omega
theorem QwG (hl:l.length≤4194304):Qbs l=some l:=by
 unfold Qbs
 rw [Qf7 (Qfw (by omega))]
 cases l with
 | nil=>exact Qt9
 | cons a r=>rfl
theorem QBk {k:Nat} (hk:k≤l.length) (hl:l.length≤4194304):insL 16 l (k:Int) [v]=some (insAt l k v):=by
 unfold insL insAt
 rw [if_pos ⟨by omega,by omega,by simp,by simp; omega,by simp; omega⟩]
 rw [Int.toNat_natCast]
theorem QB9 {α:Type} {a:α} {r:List α}:slcI (a :: r) 1 (lenI (a :: r))=some r:=by
 unfold slcI lenI
 rw [if_pos ⟨by omega,by simp; omega,by simp⟩]
 simp
theorem QxH:∀ (more:List Qab) (n:Nat) (l:List Qab) (f:Nat),more.length<n→more.length≤2→l.length+more.length≤1048580→f≤1048580→Qep n l more (f:Int)=some (plcS more l f)
 | [],n+1,l,f,_,_,_,_=>by
  show Qfo (Qep n) l [] (f:Int)=_
  unfold Qfo
  rw [Qbc (by simp)]
  rfl
 | v :: r,n+1,l,f,h1,h2,h3,h4=>by
  show Qfo (Qep n) l (v :: r) (f:Int)=_
  simp only [List.length_cons] at h1 h2 h3
  unfold Qfo
  rw [QaY (by simp [lenI]; omega)]
  have hloop:=Qd8 (B:=fun s=>QdG (Qep n) l (v :: r) s.1 s.2) (e:=plcS (v :: r) l f) (l.length+1-f) (fun i=>(((List.range' f i).flatMap fun k=>plcS r (insAt l k v) (k+1)),((f+i:Nat):Int))) (by omega) (fun i hi=>by
   simp only
   unfold QdG
   rw [Qbc (by simp [lenI]; omega),QwG (by omega),Qah,show getI (v :: r) 0=some v from rfl,Qah,QBk (by omega) (by omega),Qah,QB9,Qah,addI (by omega) (by omega),
    show ((f+i:Nat):Int)+1=((f+i+1:Nat):Int) by omega,QxH r n (insAt l (f+i) v) (f+i+1) (by omega) (by omega) (by rw [QsP]; omega) (by omega),Qah]
   have hcat:((List.range' f i).flatMap fun k=>plcS r (insAt l k v) (k+1))++plcS r (insAt l (f+i) v) (f+i+1)=(List.range' f (i+1)).flatMap fun k=>plcS r (insAt l k v) (k+1):=by
    rw [List.range'_concat,List.flatMap_append]; simp
   rw [hcat]
   have hb:((List.range' f (i+1)).flatMap fun k=>plcS r (insAt l k v) (k+1)).length≤1099532500000:=by
    have hn:=QxK (more:=v :: r) (l:=l) (f:=f) (by simp; omega)
    rw [plcS] at hn
    refine Nat.le_trans ?_ (Nat.le_trans hn (QBr (by omega)))
    have hsplit:List.range' f (l.length+1-f)=List.range' f (i+1)++List.range' (f+(i+1)) (l.length+1-f-(i+1)):=by
     rw [show f+(i+1)=f+1*(i+1) by omega,List.range'_append]
     congr 1; omega
    rw [hsplit,List.flatMap_append,List.length_append]
    omega
   rw [Qf7 (Qfw (by omega))]
   congr 3) (by
   simp only
   unfold QdG
   rw [QaY (by simp [lenI]; omega)]
   rw [plcS])
  have h0:(fun i:Nat=>(((List.range' f i).flatMap fun k=>plcS r (insAt l k v) (k+1)),((f+i:Nat):Int))) 0=([],(f:Int)):=by simp
  have h9:loopF (fun s=>QdG (Qep n) l (v :: r) s.1 s.2) ([],(f:Int))=some (plcS (v :: r) l f):=by rw [← h0]; exact hloop
  rw [Qc9 h9]
theorem QyZ {f:Nat} (hm:more.length≤2) (hl:l.length+more.length≤1048580) (hf:f≤1048580):Qlz l more (f:Int)=some (plcS more l f):=by
 unfold Qlz
 exact QxH more QtE l f (Nat.lt_of_le_of_lt hm (by decide)) hm hl hf
end
end Go.Proofs.YtpkkaboonnedfaaGreatDoor
namespace Go.Proofs.YtpkkaboonnedfaaGreatDoor
set_option linter.unusedSimpArgs false
set_option linter.unusedVariables false
set_option linter.unusedSectionVars false
noncomputable def betX (x:Qac) (r:Qad) (s:Option Ky) (l:List Qab):Option Ky:=if (prX x (rW r l)).2=0 then (match s with
 | none=>some (kyX x r l)
 | some k=>if kLt (kyX x r l) k then some (kyX x r l) else some k) else s
noncomputable def bestI (x:Qac) (r:Qad) (o:Int):Option Ky:=(plcS (visO x o) r.visits r.rests.length).foldl (betX x r) none
noncomputable def insX (x:Qac) (r:Qad) (o:Int):Qad×Int×Int :=
 if 0≤r.type_∧r.type_<x.types.length then
  if 0≤o∧o<x.orders.length then
   if offN x o.toNat=true then (Qr9,0,9) else if hasO r.visits o=true then (Qr9,0,6) else match bestI x r o with
    | none=>(Qr9,0,24)
    | some k=>(rW r k.2,k.1,0)
  else (Qr9,0,2)
 else (Qr9,0,2)
def stP (r:Qad) (s:Option Ky) (i:Nat):Qad×Int×Int×List Bool×List Qab×Int×Int:=match s with
 | none=>(r,0,0,[],[],-1,(i:Int))
 | some k=>(r,r.type_,r.start,r.rests,k.2,k.1,(i:Int))
def JK (s:Option Ky):Prop:=∀ k,s=some k→(0≤k.1∧k.1≤36028797018963968)∧k.2.length≤1048576
def OkL (r:Qad) (l:List Qab):Prop:=l.length≤1048576∧Qka (rW r l)
section
variable {x : Qac} {r : Qad} {l more : List Qab} {v : Qab} {o : Int} {s : Option Ky}
theorem pr_bd (hx:QbQ x) (hR:Qi5 r) (h9:Qka r) (h:(prX x r).2=0):0≤(prX x r).1∧(prX x r).1≤36028797018963968:=by
 have h:=pr_ev hx hR h9 h
 obtain ⟨e1,_,_,_,e5⟩:=Qrq hx hR h9
 obtain ⟨es,q,hE⟩:=e5 h
 obtain ⟨p1,_⟩:=QtM hx hR h9
 obtain ⟨c,m,o,w,hs,g1,g2,g3,g4,g5,g6,g7,g8,g9,g10⟩:=hE.score hx
 unfold QfM at p1
 rw [e1,Qah,QaY (by simpa using h),es,hs,QuR ⟨g2,g3⟩ ⟨g4,by omega⟩ ⟨g6,by omega⟩ ⟨g8,g9⟩] at p1
 rw [← Option.some.inj p1]
 simp only
 omega
theorem okL_R (hR:Qi5 r) (hl:OkL r l):Qi5 (rW r l):=⟨hR.type_,hR.start,hR.rests,hl.1⟩
theorem JK.bet (hx:QbQ x) (hR:Qi5 r) (hl:OkL r l) (h:JK s):JK (betX x r s l):=by
 unfold betX
 split
 ·rename_i hp
  have hk:JK (some (kyX x r l)):=fun k e=>by
   cases e
   exact ⟨pr_bd hx (okL_R hR hl) hl.2 hp,hl.1⟩
  cases s with
  | none=>exact hk
  | some k =>
   simp only
   split
   ·exact hk
   ·exact h
 ·exact h
theorem JK.none:JK none:=fun k e=>by cases e
theorem JK.fold (hx:QbQ x) (hR:Qi5 r):∀ {L:List (List Qab)} {s:Option Ky},(∀ l∈L,OkL r l)→JK s→JK (L.foldl (betX x r) s)
 | [],s,_,h=>h
 | l :: L,s,hL,h=>JK.fold (L:=L) (s:=betX x r s l) hx hR (fun l' h'=>hL l' (List.mem_cons_of_mem _ h')) (h.bet hx hR (hL l (List.mem_cons_self ..)))
theorem stP_i {i:Nat}:(stP r s i).2.2.2.2.2.2=(i:Int):=by unfold stP; split <;> rfl
theorem Qwj (hx:QbQ x) (hR:Qi5 r) {L:List (List Qab)} {i:Nat} (hi:L[i]?=some l) (hn:i<1099532500000) (hl:OkL r l) (hs:JK s) (B:_) (hB:B=stP r s i) :
  Qed x L B.1 B.2.1 B.2.2.1 B.2.2.2.1 B.2.2.2.2.1 B.2.2.2.2.2.1 B.2.2.2.2.2.2=some (.inl (stP r (betX x r s l) (i+1))):=by
 have hlt:=(List.getElem?_eq_some_iff.1 hi).1
 have hp:=(QtM hx (okL_R hR hl) hl.2).1
 subst hB
 have hinc:addK .i64 (i:Int) 1=((i+1:Nat):Int):=by rw [addI (by omega) (by omega)]; omega
 unfold Qed
 rw [stP_i,Qbc (by simp [lenI]; omega),QaU hi,Qah,hinc]
 have hr:Qad.mk (stP r s i).1.type_ (stP r s i).1.start (stP r s i).1.rests l=rW r l:=by unfold stP; split <;> rfl
 rw [hr,hp,Qah]
 unfold betX
 by_cases h0:(prX x (rW r l)).2=0
 ·rw [Qbc (by simpa using h0),if_pos h0]
  cases s with
  | none =>
   rw [Qbc (by simp [stP])]
   rfl
  | some k =>
   obtain ⟨⟨k0,k1⟩,k2⟩:=hs k rfl
   simp only [stP]
   rw [QA1 hl.1 k2,Qah,brs]
   by_cases h1:(prX x (rW r l)).1<k.1
   ·rw [Qbc (by simp; omega),if_pos (show kLt (kyX x r l) k from .inl h1)]
    rfl
   ·rw [QaY (by simp; omega)]
    by_cases h2:(prX x (rW r l)).1=k.1
    ·rw [Qbc (by simpa using h2)]
     by_cases h3:lessV l k.2=true
     ·rw [if_pos h3,if_pos (show kLt (kyX x r l) k from .inr ⟨h2,h3⟩)]
      rfl
     ·rw [if_neg h3,if_neg (show ¬ kLt (kyX x r l) k from fun h=>h.elim (fun h=>h1 h) fun h=>h3 h.2)]
    ·rw [QaY (by simpa using h2),if_neg (show ¬ kLt (kyX x r l) k from fun h=>h.elim (fun h=>h1 h) fun h=>h2 h.1)]
 ·rw [QaY (by simpa using h0),if_neg h0]
  cases s <;> rfl
theorem Qw2 {α S:Type} {f:S→α→S} {L:List α} {s:S} {i:Nat} {a:α} (h:L[i]?=some a):(L.take (i+1)).foldl f s=f ((L.take i).foldl f s) a:=by
 rw [List.take_add_one,h,List.foldl_append]; rfl
theorem QvK (hl:r.visits.length≤1048576):QhI r o=some (hasO r.visits o):=by
 unfold QhI Qbb Qbm
 rw [Qpe (l:=r.visits) hl (isO o) (fun k=>.inr (k:Int)) (N:=.inl ()) (fun i a ha=>by
  have hlt:=(List.getElem?_eq_some_iff.1 ha).1
  unfold QaP QiZ
  rw [Qbc (by simp [lenI]; omega),QaU ha,Qah,Qah,inc hlt hl,brs]
  rfl) (by unfold QaP; rw [QaY (by simp [lenI])])]
 have hg:geI (ixI (isO o) r.visits) 0=r.visits.any (isO o):=Qm3
 unfold ixI at hg
 cases h:ixP (isO o) r.visits with
 | none=>rw [h] at hg; exact congrArg some hg
 | some k=>rw [h] at hg; exact congrArg some hg
theorem QuS {o:Int}:QhE x o=some (if 0≤o∧o<x.orders.length then (if offN x o.toNat=true then 9 else 0) else 2):=by
 unfold QhE
 by_cases h:0≤o∧o<x.orders.length
 ·rw [QaY (by simp [lenI]; omega),if_pos h,Qrs h.1 h.2,Qah,brs]
  congr 1
  unfold offN
  rw [List.getElem?_eq_getElem (show o.toNat<x.orders.length by omega)]
 ·rw [Qbc (by simp [lenI]; omega),if_neg h]
structure InsI (r:Qad) (o:Int):Prop where
 R:Qi5 r
 len:r.visits.length≤1048574
 short:hasO r.visits o=false→r.visits.length≤7∨20<r.visits.length
theorem InsI.okL (h:InsI r o) (hn:hasO r.visits o=false):∀ l∈plcS (visO x o) r.visits r.rests.length,OkL r l:=fun l hl=>by
 have h1:=Qut l hl
 have h2:=Qow (x:=x) (o:=o)
 have h3:=h.len
 have h4:=h.short hn
 refine ⟨by omega,?_⟩
 unfold Qka
 show ¬ (9<l.length∧l.length≤20)
 omega
theorem InsI.num (h:InsI r o):(plcS (visO x o) r.visits r.rests.length).length≤1099532500000 :=
 Nat.le_trans (QxK Qow) (QBr (by have:=h.len; omega))
theorem QAc (hx:QbQ x) (h:InsI r o):QhC x r o=some (insX x r o):=by
 have hlen:=h.len
 have hrl:=h.R.rests
 unfold QhC insX
 by_cases ht:0≤r.type_∧r.type_<x.types.length
 ·rw [QaY (by simp [lenI]; omega),if_pos ht,QuS,Qah]
  by_cases ho:0≤o∧o<x.orders.length
  ·rw [if_pos ho,if_pos ho]
   by_cases hf:offN x o.toNat=true
   ·rw [if_pos hf,if_pos hf]; rfl
   ·rw [if_neg hf,if_neg hf,QaY (by decide),QvK (by omega),Qah]
    by_cases hh:hasO r.visits o=true
    ·rw [Qbc hh,if_pos hh]; rfl
    ·rw [QaY (by simpa using hh),if_neg hh,QuP hx ho.1 ho.2,Qah,lenI,QyZ Qow (by have:=Qow (x:=x) (o:=o); omega) (by omega),Qah]
     have hok:=h.okL (x:=x) (by simpa using hh)
     have hnum:=h.num (x:=x)
     have hb:bestI x r o=(plcS (visO x o) r.visits r.rests.length).foldl (betX x r) none:=rfl
     have hJ:=JK.fold (x:=x) hx h.R hok JK.none
     rw [← hb] at hJ
     revert hb hok hnum
     generalize plcS (visO x o) r.visits r.rests.length=L
     intro hok hnum hb
     have hloop:=Qd8 (B:=fun s=>Qed x L s.1 s.2.1 s.2.2.1 s.2.2.2.1 s.2.2.2.2.1 s.2.2.2.2.2.1 s.2.2.2.2.2.2) (e:=(match bestI x r o with|none=>(Qr9,(-1:Int))|some k=>(rW r k.2,k.1))) L.length (fun i=>stP r ((L.take i).foldl (betX x r) none) i) (by omega) (fun i hi=>by
      have hg:=List.getElem?_eq_getElem hi
      rw [Qw2 hg]
      exact Qwj hx h.R hg (by omega) (hok _ (List.getElem_mem hi)) (JK.fold hx h.R (fun l hl=>hok l (List.mem_of_mem_take hl)) JK.none) _ rfl) (by
      unfold Qed
      rw [stP_i,QaY (by simp [lenI]),List.take_length,← hb]
      cases bestI x r o <;> rfl)
     have h0:(fun i:Nat=>stP r ((L.take i).foldl (betX x r) none) i) 0=(r,0,0,[],[],-1,0):=rfl
     have h9:loopF (fun s=>Qed x L s.1 s.2.1 s.2.2.1 s.2.2.2.1 s.2.2.2.2.1 s.2.2.2.2.2.1 s.2.2.2.2.2.2) (r,0,0,[],[],-1,0)=_:=hloop
     rw [Qc9 h9]
     cases hbs:bestI x r o with
     | none=>rfl
     | some k =>
      have:=(hJ k hbs).1
      simp only
      rw [QaY (by simp; omega)]
  ·rw [if_neg ho,if_neg ho]; rfl
 ·rw [Qbc (by simp [lenI]; omega),if_neg ht]; rfl
end
end Go.Proofs.YtpkkaboonnedfaaGreatDoor
namespace Go.Proofs.YtpkkaboonnedfaaGreatDoor
set_option linter.unusedSimpArgs false
set_option linter.unusedVariables false
set_option linter.unusedSectionVars false
section
variable {x : Qac} {r : Qad} {l more : List Qab} {v : Qab} {o : Int} {s : Option Ky}
theorem Qzb (hx:QbQ x) {i:Nat} (hi:i<x.orders.length):∃ v,v∈visO x (i:Int):=by
 have e:x.orders[i]?=some x.orders[i]:=List.getElem?_eq_getElem hi
 have hO:=hx.ord _ (List.getElem_mem hi)
 unfold visO
 rw [Int.toNat_natCast,e]
 simp only
 have h1:=hO.pick
 have h2:=hO.drop
 have h3:=hO.one
 unfold Qws at h1 h2
 by_cases hp:0≤x.orders[i].pick.place
 ·rw [if_pos hp]; exact ⟨_,List.mem_append_left _ (List.mem_cons_self ..)⟩
 ·rw [if_pos (show 0≤x.orders[i].drop.place by omega)]
  exact ⟨_,List.mem_append_right _ (List.mem_cons_self ..)⟩
end
end Go.Proofs.YtpkkaboonnedfaaGreatDoor
namespace Go.Proofs.YtpkkaboonnedfaaGreatDoor
set_option linter.unusedSimpArgs false
set_option linter.unusedVariables false
set_option linter.unusedSectionVars false
theorem Qtp:Qbq=some true:=by kernel_rfl
section
variable {x : Qac} {r : Qad} {l more : List Qab} {v : Qab} {o : Int} {s : Option Ky} {p : Qam}
theorem QBF (hI:InstI x):post (QgD x) fun b=>b=true→QbQ x:=by
 unfold QgD
 refine QaR (Qud hI) fun l hl=>Qat.2 fun h=>hl ?_
 rw [eqI_t,lenI] at h
 exact List.eq_nil_of_length_eq_zero (by omega)
structure SzR (r:Qad):Prop where
 rests:r.rests.length≤1048576
 visits:r.visits.length≤1048576
theorem Qzx (hx:QbQ x) (h:InsI r o):SzR (insX x r o).1∧(0≤(insX x r o).2.1∧(insX x r o).2.1≤36028797018963968):=by
 have hz:SzR Qr9:=⟨by simp [Qr9],by simp [Qr9]⟩
 unfold insX
 split
 ·split
  ·split
   ·exact ⟨hz,by simp⟩
   ·split
    ·exact ⟨hz,by simp⟩
    ·rename_i hh
     have hJ:JK (bestI x r o):=JK.fold hx h.R (h.okL (by simpa using hh)) JK.none
     cases hb:bestI x r o with
     | none=>exact ⟨hz,by simp⟩
     | some k =>
      obtain ⟨h1,h2⟩:=hJ k hb
      exact ⟨⟨h.R.rests,h2⟩,h1⟩
  ·exact ⟨hz,by simp⟩
 ·exact ⟨hz,by simp⟩
end
end Go.Proofs.YtpkkaboonnedfaaGreatDoor
namespace Go.Proofs.YtpkkaboonnedfaaGreatDoor
set_option linter.unusedSimpArgs false
set_option linter.unusedVariables false
set_option linter.unusedSectionVars false
section
variable {x : Qac} {r : Qad} {l more : List Qab} {v : Qab} {o : Int} {s : Option Ky} {p : Qam}
theorem Qwy:∀ (L:List (List Qab)) (s:Option Ky) (P:Ky→Prop),(∀ k,s=some k→P k)→(∀ l∈L,(prX x (rW r l)).2=0→P (kyX x r l)) →
  (∀ k,L.foldl (betX x r) s=some k→P k)∧(∀ k,s=some k→∃ q,L.foldl (betX x r) s=some q∧q.1≤k.1)∧∀ l∈L,(prX x (rW r l)).2=0→∃ q,L.foldl (betX x r) s=some q∧q.1≤(prX x (rW r l)).1
 | [],s,P,h1,h2=>⟨h1,fun k hk=>⟨k,hk,Int.le_refl _⟩,fun l hl=>by cases hl⟩
 | l :: L,s,P,h1,h2=>by
  have hb:(∀ k,betX x r s l=some k→P k):=fun k hk=>by
   unfold betX at hk
   split at hk
   ·rename_i hp
    have:=h2 l (List.mem_cons_self ..) hp
    cases s with
    | none=>simp only at hk; cases hk; exact this
    | some q =>
     simp only at hk
     split at hk
     ·cases hk; exact this
     ·exact h1 k hk
   ·exact h1 k hk
  have hs:∀ k,s=some k→∃ q,betX x r s l=some q∧q.1≤k.1:=fun k hk=>by
   subst hk
   unfold betX
   split
   ·simp only
    split
    ·rename_i hlt
     refine ⟨_,rfl,?_⟩
     rcases hlt with h|h
     ·omega
     ·omega
    ·exact ⟨k,rfl,Int.le_refl _⟩
   ·exact ⟨k,rfl,Int.le_refl _⟩
  have hl:(prX x (rW r l)).2=0→∃ q,betX x r s l=some q∧q.1≤(prX x (rW r l)).1:=fun hp=>by
   unfold betX
   rw [if_pos hp]
   cases s with
   | none=>exact ⟨_,rfl,Int.le_refl _⟩
   | some k =>
    simp only
    split
    ·exact ⟨_,rfl,Int.le_refl _⟩
    ·rename_i hn
     refine ⟨k,rfl,Int.not_lt.1 fun h=>hn (.inl h)⟩
  obtain ⟨i1,i2,i3⟩:=Qwy L (betX x r s l) P hb fun l' hl'=>h2 l' (List.mem_cons_of_mem _ hl')
  have up:∀ n:Int,(∃ q,betX x r s l=some q∧q.1≤n)→∃ q,(l :: L).foldl (betX x r) s=some q∧q.1≤n:=fun n ⟨q,hq,hn⟩=>by
   obtain ⟨q',h1',h2'⟩:=i2 q hq
   exact ⟨q',h1',by omega⟩
  refine ⟨i1,fun k hk=>up _ (hs k hk),fun l' hl' hp=>?_⟩
  rcases List.mem_cons.1 hl' with rfl|hl'
  ·exact up _ (hl hp)
  ·exact i3 l' hl' hp
end
end Go.Proofs.YtpkkaboonnedfaaGreatDoor
namespace Go.Proofs.YtpkkaboonnedfaaGreatDoor
set_option linter.unusedSimpArgs false
set_option linter.unusedVariables false
set_option linter.unusedSectionVars false
abbrev Cnd:=Int×Qad×Int
noncomputable def stepC (x:Qac) (o:Int) (s:Option Cnd) (a:Int) (r:Qad) (old:Int):Option Cnd :=
 if (insX x r o).2.2=0 then (match s with
  | none=>some (a,(insX x r o).1,(insX x r o).2.1-old)
  | some c=>if (insX x r o).2.1-old<c.2.2 then some (a,(insX x r o).1,(insX x r o).2.1-old) else some c) else s
def cntT (rs:List Qad) (t:Nat):Int:=sumF (fun r=>bit1 (eqI r.type_ (t:Int))) rs
noncomputable def candR (x:Qac) (p:Qam) (o:Int):Nat→Option Cnd
 | 0=>none
 | i+1=>match p.routes[i]? with
  | some r=>stepC x o (candR x p o i) (i:Int) r (prX x r).1
  | none=>candR x p o i
noncomputable def candT (x:Qac) (p:Qam) (o:Int):Nat→Option Cnd
 | 0=>candR x p o p.routes.length
 | t+1=>match x.types[t]? with
  | some ty=>if cntT p.routes t<ty.count then stepC x o (candT x p o t) (p.routes.length:Int) (Qad.mk (t:Int) 0 [] []) 0 else candT x p o t
  | none=>candT x p o t
noncomputable def badR (x:Qac) (p:Qam) (j:Nat):Bool:=match p.routes[j]? with
 | some r=>decide ((prX x r).2≠0)
 | none=>false
noncomputable def QlU (x:Qac) (p:Qam):Nat:=QmM (badR x p) p.routes.length 0
noncomputable def errP (x:Qac) (p:Qam):Int:=match p.routes[QlU x p]? with
 | some r=>(prX x r).2
 | none=>0
def repI (s:Option Cnd):Qan:=match s with
 | none=>Qan.mk (-1) Qr9 0
 | some c=>Qan.mk c.1 c.2.1 c.2.2
def zCnd:Qan:=Qan.mk 0 Qr9 0
noncomputable def candF (x:Qac) (p:Qam) (o:Int):Option Cnd:=candT x p o x.types.length
noncomputable def findX (x:Qac) (p:Qam) (o:Int):Qan×Int :=
 if errP x p≠0 then (zCnd,errP x p) else match candF x p o with
  | none=>(zCnd,24)
  | some c=>(Qan.mk c.1 c.2.1 c.2.2,0)
def JC (n:Nat) (s:Option Cnd):Prop:=∀ c,s=some c→(0≤c.1∧c.1≤n)∧SzR c.2.1∧(-72057594037927936≤c.2.2∧c.2.2≤72057594037927936)
structure InsP (p:Qam) (o:Int):Prop where
 few:p.routes.length≤1000
 each:∀ r∈p.routes,InsI r o∧Qka r
section
variable {x : Qac} {r : Qad} {l more : List Qab} {v : Qab} {o : Int} {s : Option Cnd} {p : Qam} {n : Nat}
theorem JC.step (hx:QbQ x) (hi:InsI r o) (hs:JC n s) {a old:Int} (ha:0≤a∧a≤n) (hold:0≤old∧old≤36028797018963968):JC n (stepC x o s a r old):=by
 obtain ⟨hz,hb⟩:=Qzx hx hi
 have hn:JC n (some (a,(insX x r o).1,(insX x r o).2.1-old)):=fun c hc=>by
  cases hc
  exact ⟨ha,hz,by simp only; omega⟩
 unfold stepC
 split
 ·cases s with
  | none=>exact hn
  | some c =>
   simp only
   split
   ·exact hn
   ·exact hs
 ·exact hs
theorem QwU (hx:QbQ x) (hi:InsI r o) (hs:JC n s) {a old:Int} (hold:0≤old∧old≤36028797018963968):QhF a r old x o (repI s)=some (x,o,repI (stepC x o s a r old)):=by
 obtain ⟨hz,hb⟩:=Qzx hx hi
 unfold QhF
 rw [QAc hx hi,Qah,brs,subI (by omega) (by omega)]
 congr 1
 unfold stepC
 by_cases h0:(insX x r o).2.2=0
 ·rw [if_pos h0]
  cases s with
  | none =>
   rw [if_pos (by simp [h0,repI])]
   rfl
  | some c =>
   have hc:=(hs c rfl).1
   by_cases h1:(insX x r o).2.1-old<c.2.2
   ·rw [if_pos (by simp [h0,repI]; omega)]
    simp only [if_pos h1]
    rfl
   ·rw [if_neg (by simp [h0,repI]; omega)]
    simp only [if_neg h1]
 ·rw [if_neg (by simp [h0]),if_neg h0]
theorem QB6 (hx:QbQ x) (hR:Qi5 r) (h9:Qka r):(prX x r).2≠0∨(0≤(prX x r).1∧(prX x r).1≤36028797018963968)∧(0≤r.type_∧r.type_<x.types.length):=by
 by_cases h:(prX x r).2=0
 ·refine .inr ⟨pr_bd hx hR h9 h,?_⟩
  obtain ⟨_,_,_,_,e5⟩:=Qrq hx hR h9
  obtain ⟨_,q,hE⟩:=e5 (pr_ev hx hR h9 h)
  exact hE.type_
 ·exact .inl h
theorem Qsr:QlU x p≤p.routes.length:=by
 have:=(QoE (badR x p) p.routes.length 0).2.1
 unfold QlU
 omega
theorem Qys (h:errP x p=0):QlU x p=p.routes.length∧∀ r∈p.routes,(prX x r).2=0:=by
 obtain ⟨s1,s2,s3,s4⟩:=QoE (badR x p) p.routes.length 0
 have hle:=Qsr (x:=x) (p:=p)
 rw [Nat.zero_add] at s2 s4
 have hend:QlU x p=p.routes.length:=Classical.byContradiction fun hne=>by
  have hlt:QlU x p<p.routes.length:=by omega
  have hb:badR x p (QlU x p)=true:=s4 hlt
  unfold errP at h
  unfold badR at hb
  rw [List.getElem?_eq_getElem hlt] at h hb
  simp only at h hb
  simp [h] at hb
 refine ⟨hend,fun r hr=>?_⟩
 obtain ⟨j,hj⟩:=List.getElem?_of_mem hr
 have hjl:=(List.getElem?_eq_some_iff.1 hj).1
 have:=s3 j (Nat.zero_le _) (by rw [show QmM (badR x p) p.routes.length 0=QlU x p from rfl,hend]; exact hjl)
 unfold badR at this
 rw [hj] at this
 simpa using this
theorem QBS (h:errP x p≠0):QlU x p<p.routes.length:=by
 refine Nat.lt_of_not_le fun hge=>h ?_
 unfold errP
 rw [List.getElem?_eq_none hge]
theorem QwR (h:∀ r∈p.routes,(prX x r).2=0):errP x p=0:=by
 unfold errP
 split
 ·rename_i r hr
  exact h r (List.mem_of_getElem? hr)
 ·rfl
noncomputable def priX (x:Qac) (p:Qam) (k:Nat):List Int:=(p.routes.take k).map fun r=>(prX x r).1
theorem QAH {k:Nat} (h:p.routes[k]?=some r):priX x p k++[(prX x r).1]=priX x p (k+1):=by
 unfold priX; rw [take_one h,List.map_append]; rfl
theorem QAG {k:Nat}:(priX x p k).length≤k:=by unfold priX; rw [List.length_map,List.length_take]; omega
theorem QAF {k:Nat} (h:p.routes[k]?=some r):(priX x p p.routes.length)[k]?=some (prX x r).1:=by
 unfold priX; rw [List.take_length,List.getElem?_map,h]; rfl
theorem Qzm {rs:List Qad} {t:Nat}:0≤cntT rs t∧cntT rs t≤1000*rs.length:=QsB fun a _=>by have:=Qi6 (b:=eqI a.type_ (t:Int)); omega
theorem QwV (hx:QbQ x) (hP:InsP p o) (l:List Int):loopF (fun s=>Qdv x p o l s.1 s.2.1 s.2.2) ([],vecN x.types.length (fun _=>0),0)=some (if errP x p≠0 then .inr (zCnd,errP x p) else .inl (priX x p p.routes.length,vecN x.types.length (cntT p.routes))):=by
 have h6:=hx.types
 have hf:=hP.few
 have hloop:=QtF (n:=p.routes.length) (by omega) (badR x p) (fun k=>(priX x p k,vecN x.types.length (cntT (p.routes.take k)),(k:Int))) (fun j=>(.inr (zCnd,match p.routes[j]? with|some r=>(prX x r).2|none=>0):(List Int×List Int)⊕(Qan×Int)))
  (B:=fun s=>Qdv x p o l s.1 s.2.1 s.2.2) (N:=.inl (priX x p p.routes.length,vecN x.types.length (cntT p.routes))) (fun j hj=>by
   have e:p.routes[j]?=some p.routes[j]:=List.getElem?_eq_getElem hj
   have hm:=List.getElem_mem hj
   generalize p.routes[j]=r at e hm
   obtain ⟨hi,h9⟩:=hP.each r hm
   show Qdv x p o l (priX x p j) (vecN x.types.length (cntT (p.routes.take j))) (j:Int)=_
   unfold Qdv
   rw [Qb1 e,(QtM hx hi.R h9).1,Qah,incL e (by omega)]
   unfold badR
   rw [e]
   simp only
   rcases QB6 hx hi.R h9 with h|⟨h,h2⟩
   ·rw [Qbc (by simpa using h),if_pos (by simpa using h)]
    rfl
   ·by_cases h0:(prX x r).2=0
    ·obtain ⟨t,ht⟩:∃ t:Nat,r.type_=t:=⟨r.type_.toNat,by omega⟩
     have hl:=QAG (x:=x) (p:=p) (k:=j+1)
     have hcb:=Qzm (rs:=p.routes.take j) (t:=t)
     have htl:(p.routes.take j).length≤1000:=by rw [List.length_take]; omega
     rw [QaY (by simpa using h0),if_neg (by simpa using h0),QAH e,Qf7 (Qfw (by omega)),ht,Qpg (by omega) (by omega),Qah,Int.toNat_natCast,addI (by omega) (by omega),Qr7 (by omega)]
     congr 4
     refine Qfm fun d hd=>?_
     have estep:cntT (p.routes.take (j+1)) d=cntT (p.routes.take j) d+bit1 (eqI r.type_ (d:Int)):=QoL e
     rw [estep,ht]
     by_cases hdt:d=t
     ·subst hdt; rw [if_pos rfl]; simp [bit1,eqI]
     ·rw [if_neg hdt]
      have:eqI (t:Int) (d:Int)=false:=by simp; omega
      rw [this]; simp [bit1]
    ·rw [Qbc (by simpa using h0),if_pos (by simpa using h0)]
     rfl) (by
   show Qdv x p o l (priX x p p.routes.length) (vecN x.types.length (cntT (p.routes.take p.routes.length))) (p.routes.length:Int)=_
   unfold Qdv
   rw [Qbu,List.take_length])
 have hle:=Qsr (x:=x) (p:=p)
 refine Eq.trans hloop ?_
 congr 1
 by_cases he:errP x p=0
 ·rw [if_neg (show ¬ QmM (badR x p) p.routes.length 0<p.routes.length by rw [show QmM (badR x p) p.routes.length 0=QlU x p from rfl,(Qys he).1]; omega),if_neg (by simpa using he)]
 ·rw [if_pos (show QmM (badR x p) p.routes.length 0<p.routes.length from QBS he),if_pos he]
  rfl
theorem JC.R (hx:QbQ x) (hP:InsP p o) (h0:∀ r∈p.routes,(prX x r).2=0):∀ i,i≤p.routes.length→JC p.routes.length (candR x p o i)
 | 0,_=>fun c hc=>by cases hc
 | i+1,hi=>by
  have e:p.routes[i]?=some p.routes[i]:=List.getElem?_eq_getElem (by omega)
  have hm:=List.getElem_mem (show i<p.routes.length by omega)
  rw [candR,e]
  obtain ⟨h1,h9⟩:=hP.each _ hm
  exact JC.step hx h1 (JC.R hx hP h0 i (by omega)) (by omega) (pr_bd hx h1.R h9 (h0 _ hm))
theorem newI {t:Nat} (ht:t≤1000):InsI (Qad.mk (t:Int) 0 [] []) o:=⟨⟨(show isI64 (t:Int) from ⟨by omega,by omega⟩),(show isI64 0 from ⟨by omega,by omega⟩),by simp,by simp⟩,by simp,fun _=>.inl (by simp)⟩
theorem JC.T (hx:QbQ x) (hP:InsP p o) (h0:∀ r∈p.routes,(prX x r).2=0):∀ t,t≤x.types.length→JC p.routes.length (candT x p o t)
 | 0,_=>JC.R hx hP h0 _ (Nat.le_refl _)
 | t+1,ht=>by
  have h6:=hx.types
  have e:x.types[t]?=some x.types[t]:=List.getElem?_eq_getElem (by omega)
  rw [candT,e]
  simp only
  split
  ·exact JC.step hx (newI (by omega)) (JC.T hx hP h0 t (by omega)) (by omega) (by omega)
  ·exact JC.T hx hP h0 t (by omega)
def tupI (x:Qac) (o:Int) (s:Option Cnd) (i:Nat):Qac×Int×Int×Int×List Bool×List Qab×Int×Int×Int :=
 (x,(repI s).at_,(repI s).route.type_,(repI s).route.start,(repI s).route.rests,(repI s).route.visits,(repI s).increase,o,(i:Int))
theorem Qxc (hx:QbQ x) (hP:InsP p o):QkK x p o=some (findX x p o):=by
 have h6:=hx.types
 have hf:=hP.few
 unfold QkK findX
 rw [show lenI x.types=(x.types.length:Int) from rfl,zeros (by omega),Qah,Qc9 (QwV hx hP _)]
 by_cases he:errP x p=0
 ·rw [if_neg (by simpa using he),if_neg (by simpa using he),QfQ]
  obtain ⟨_,h0⟩:=Qys he
  have l2:∀ l,loopF (fun s=>Qee p l (priX x p p.routes.length) (vecN x.types.length (cntT p.routes)) s.1 s.2.1 s.2.2.1 s.2.2.2.1 s.2.2.2.2.1 s.2.2.2.2.2.1 s.2.2.2.2.2.2.1 s.2.2.2.2.2.2.2.1 s.2.2.2.2.2.2.2.2) (x,(-1),0,0,[],[],0,o,0)=some (x,repI (candR x p o p.routes.length),o):=fun l =>
   Qd8 (B:=fun s=>Qee p l (priX x p p.routes.length) (vecN x.types.length (cntT p.routes)) s.1 s.2.1 s.2.2.1 s.2.2.2.1 s.2.2.2.2.1 s.2.2.2.2.2.1 s.2.2.2.2.2.2.1 s.2.2.2.2.2.2.2.1 s.2.2.2.2.2.2.2.2) p.routes.length (fun i=>tupI x o (candR x p o i) i) (by omega) (fun i hi=>by
    have e:p.routes[i]?=some p.routes[i]:=List.getElem?_eq_getElem hi
    have hm:=List.getElem_mem hi
    generalize p.routes[i]=r at e hm
    obtain ⟨h1,h9⟩:=hP.each r hm
    have h3:=QwU (a:=(i:Int)) hx h1 (JC.R hx hP h0 i (by omega)) (pr_bd hx h1.R h9 (h0 r hm))
    unfold Qee
    show br (ltI (i:Int) (lenI p.routes)) _ _=_
    rw [Qbc (by simp [lenI]; omega)]
    show bnd (getI p.routes (i:Int)) _=_
    rw [QaU e,Qah]
    show bnd (getI (priX x p p.routes.length) (i:Int)) _=_
    rw [QaU (QAF e),Qah]
    refine (Qc9 h3).trans ?_
    rw [candR,e]
    show some (Sum.inl (_,_,_,_,_,_,_,_,addK .i64 (i:Int) 1))=_
    rw [incL e (by omega)]
    rfl) (by
    unfold Qee
    show br (ltI (p.routes.length:Int) (lenI p.routes)) _ _=_
    rw [QaY (by simp [lenI])]
    rfl)
  refine Eq.trans (Qc9 (l2 _)) ?_
  have l3:∀ l,loopF (fun s=>Qdw p l (vecN x.types.length (cntT p.routes)) s.1 s.2.1 s.2.2.1 s.2.2.2.1 s.2.2.2.2) (x,repI (candR x p o p.routes.length),o,(x.types.length:Int),0)=some (repI (candF x p o)):=fun l =>
   Qd8 (B:=fun s=>Qdw p l (vecN x.types.length (cntT p.routes)) s.1 s.2.1 s.2.2.1 s.2.2.2.1 s.2.2.2.2) x.types.length (fun t=>(x,repI (candT x p o t),o,(x.types.length:Int),(t:Int))) (by omega) (fun t ht=>by
    have e:x.types[t]?=some x.types[t]:=List.getElem?_eq_getElem ht
    unfold Qdw
    show br (ltI (t:Int) (x.types.length:Int)) _ _=_
    rw [Qbc (by simp; omega)]
    show bnd (getI (vecN x.types.length (cntT p.routes)) (t:Int)) _=_
    rw [Qpg (by omega) (by omega),Qah]
    show bnd (getI x.types (t:Int)) _=_
    rw [QaU e,Qah,Int.toNat_natCast]
    show br _ _ (some (Sum.inl (_,_,_,_,addK .i64 (t:Int) 1)))=_
    rw [incL e (by omega),candT,e]
    simp only
    by_cases hc:cntT p.routes t<x.types[t].count
    ·rw [Qbc (by simpa using hc),if_pos hc]
     have h3:=QwU (a:=(p.routes.length:Int)) (old:=0) hx (newI (t:=t) (o:=o) (by omega)) (JC.T hx hP h0 t (by omega)) (by omega)
     refine (Qc9 h3).trans ?_
     rfl
    ·rw [QaY (by simpa using hc),if_neg hc]
     rfl) (by
    unfold Qdw
    show br (ltI (x.types.length:Int) (x.types.length:Int)) _ _=_
    rw [QaY (by simp)]
    rfl)
  refine (Qc9 (l3 _)).trans ?_
  have hJ:=JC.T hx hP h0 x.types.length (Nat.le_refl _)
  unfold candF
  cases hc:candT x p o x.types.length with
  | none=>rfl
  | some c =>
   have:=(hJ c hc).1
   simp only [repI]
   rw [QaY (by simp; omega)]
 ·rw [if_pos he,if_pos he,Qg6]
end
end Go.Proofs.YtpkkaboonnedfaaGreatDoor
namespace Go.Proofs.YtpkkaboonnedfaaGreatDoor
set_option linter.unusedSimpArgs false
set_option linter.unusedVariables false
set_option linter.unusedSectionVars false
def withS (p:Qam) (o:Int) (c:Cnd):Qam:=Qam.mk (if c.1<p.routes.length then p.routes.set c.1.toNat c.2.1 else p.routes++[c.2.1]) (p.unserved.filter fun i=>neI i o)
def servB (p:Qam) (o:Int):Bool:=p.routes.any fun r=>hasO r.visits o
def zPlan:Qam:=Qam.mk [] []
noncomputable def planX (x:Qac) (p:Qam) (o:Int):Qam×Int :=
 if 0≤o∧o<x.orders.length then
  if offN x o.toNat=true then (zPlan,9) else if servB p o=true then (zPlan,6) else if errP x p≠0 then (zPlan,errP x p) else match candF x p o with
   | none=>(zPlan,24)
   | some c=>(withS p o c,0)
 else (zPlan,2)
section
variable {x : Qac} {r : Qad} {l more : List Qab} {v : Qab} {o : Int} {s : Option Cnd} {p : Qam} {n : Nat}
theorem QvX {L:List Int} {o:Int} {B:List Int×Int→Option ((List Int×Int)⊕List Int)} (hl:L.length≤1048576) (hin:∀ (s:List Int) (i:Nat) a,L[i]?=some a→s.length≤i→B (s,(i:Int))=some (.inl (if neI a o=true then s++[a] else s,(i:Int)+1))) (hend:∀ s,B (s,(L.length:Int))=some (.inr s)) :
  loopF B ([],0)=some (L.filter fun i=>neI i o) :=
 Qd8 (B:=B) L.length (fun i=>((L.take i).filter fun i=>neI i o,(i:Int))) (by omega) (fun i hi=>by
  have e:L[i]?=some L[i]:=List.getElem?_eq_getElem hi
  refine (hin _ i _ e (Nat.le_trans (List.length_filter_le ..) (by rw [List.length_take]; omega))).trans ?_
  rw [take_one e,List.filter_append]
  by_cases h:neI L[i] o=true
  ·rw [if_pos h,List.filter_cons_of_pos (by exact h)]; rfl
  ·rw [if_neg h,List.filter_cons_of_neg (by exact h),List.filter_nil,List.append_nil]; rfl) (by
  refine (hend _).trans ?_
  rw [List.take_length])
theorem QzP {c:Cnd} (h1:p.routes.length≤1000) (h2:p.unserved.length≤1048576) (hc:0≤c.1∧c.1≤p.routes.length):QkL p (Qan.mk c.1 c.2.1 c.2.2) o=some (withS p o c):=by
 unfold QkL
 have hcl:Qbr p.routes=some p.routes:=by
  unfold Qbr
  rw [Qf7 (Qfw (by omega))]
  cases p.routes with
  | nil=>exact Qt9
  | cons a r=>rfl
 have hJ:∀ L,QgV p (Qan.mk c.1 c.2.1 c.2.2) o L=some (Qam.mk L (p.unserved.filter fun i=>neI i o)):=fun L=>by
  unfold QgV
  refine Eq.trans (Qc9 (QvX (L:=p.unserved) (o:=o) h2 (fun s i a ha hs=>by
   have hlt:=(List.getElem?_eq_some_iff.1 ha).1
   show Qe8 p _ o L s (i:Int)=_
   unfold Qe8
   rw [Qb1 ha,incL ha h2]
   by_cases h:neI a o=true
   ·rw [Qbc h,if_pos h,Qf7 (Qfw (by simp; omega))]
   ·rw [QaY (by simpa using h),if_neg h]) (fun s=>by
   show Qe8 p _ o L s (p.unserved.length:Int)=_
   unfold Qe8
   rw [Qbu]))) ?_
  rfl
 rw [hcl,Qah]
 unfold withS
 by_cases h:c.1<p.routes.length
 ·rw [Qbc (by simp [lenI]; omega),if_pos h,Qrs hc.1 h,Qah,hJ]
  rfl
 ·rw [QaY (by simp [lenI]; omega),if_neg h,Qf7 (Qfw (by simp; omega)),hJ]
theorem QvB (h1:p.routes.length≤1000) (hR:∀ r∈p.routes,r.visits.length≤1048576):QhH p o=some (servB p o):=by
 unfold QhH
 have hix:∀ (B:Int→Option (Int⊕(Unit⊕Int))),(∀ (i:Nat) r,p.routes[i]?=some r→B (i:Int)=some (if hasO r.visits o=true then .inr (.inr (i:Int)) else .inl ((i:Int)+1)))→B (p.routes.length:Int)=some (.inr (.inl ())) →
   bnd (loopF B 0) (fun e=>sel e (fun (_:Unit)=>some (-1:Int)) (fun r1=>some r1))=some (ixI (fun r:Qad=>hasO r.visits o) p.routes):=fun B hB hE=>by
  rw [Qpe (l:=p.routes) (by omega) (fun r:Qad=>hasO r.visits o) (fun k=>.inr (k:Int)) (N:=.inl ()) hB hE,Qah]
  unfold ixI
  cases ixP (fun r:Qad=>hasO r.visits o) p.routes <;> rfl
 have key:QaZ p.routes o=some (servB p o):=by
  unfold QaZ Qbl
  rw [hix _ (fun i r hr=>by
   unfold QaO QiY
   rw [Qb1 hr,QvK (hR r (List.mem_of_getElem? hr)),Qah,Qah,incL hr (by omega),brs]) (by
   unfold QaO
   rw [Qbu]),Qah,Qm3]
  rfl
 rw [key,Qah]
theorem QAd (hx:QbQ x) (hP:InsP p o) (h2:p.unserved.length≤1048576):QiJ x p o=some (planX x p o):=by
 have hf:=hP.few
 unfold QiJ planX
 rw [QuS,Qah]
 by_cases ho:0≤o∧o<x.orders.length
 ·rw [if_pos ho,if_pos ho]
  by_cases hoff:offN x o.toNat=true
  ·rw [if_pos hoff,if_pos hoff]; rfl
  ·rw [if_neg hoff,if_neg hoff,QaY (by decide),QvB hf (fun r hr=>(hP.each r hr).1.R.visits),Qah]
   by_cases hs:servB p o=true
   ·rw [Qbc hs,if_pos hs]; rfl
   ·rw [QaY (by simpa using hs),if_neg hs,Qxc hx hP,Qah]
    unfold findX
    by_cases he:errP x p=0
    ·rw [if_neg (by simpa using he),if_neg (by simpa using he)]
     have hJ:=JC.T hx hP (Qys he).2 x.types.length (Nat.le_refl _)
     unfold candF
     cases hc:candT x p o x.types.length with
     | none=>rfl
     | some c =>
      simp only
      rw [QaY (by simp),QzP hf h2 (hJ c hc).1,Qah]
    ·rw [if_pos he,if_pos he,Qbc (by simpa using he)]
     rfl
 ·rw [if_neg ho,if_neg ho]; rfl
theorem few41 (h1:p.routes.length≤1048576):post (Qh3 p) fun b=>b=true→p.routes.length≤4∧∀ r∈p.routes,r.visits.length≤6∨20<r.visits.length:=by
 unfold Qh3
 refine QaI (fun _=>Qat.2 fun h=>by cases h) (fun h=>?_)
 rw [gtI_f,lenI] at h
 refine QaR (R:=fun e=>(∃ u,e=.inl u∧∀ r∈p.routes,r.visits.length≤6∨20<r.visits.length)∨e=.inr false) ?_ fun e he=>?_
 ·refine QcM (fun s=>∃ k:Nat,s=(k:Int)∧k≤p.routes.length∧∀ r∈p.routes.take k,r.visits.length≤6∨20<r.visits.length) (fun s=>p.routes.length-s.toNat) ⟨0,rfl,Nat.zero_le _,fun r hr=>by simp at hr⟩ (by simp; omega) ?_
  rintro _ ⟨k,rfl,hk,ha⟩
  unfold Qga
  rcases Nat.lt_or_ge k p.routes.length with hlt|hge
  ·have e:p.routes[k]?=some p.routes[k]:=List.getElem?_eq_getElem hlt
   rw [Qb1 e,incL e h1]
   unfold Qh4
   rw [Qah]
   refine QaI (fun h2=>QdI ⟨⟨k+1,by omega,hlt,fun r hr=>?_⟩,by simp; omega⟩) (fun _=>Qb2 (.inr rfl))
   rw [take_one e] at hr
   rcases List.mem_append.1 hr with hr|hr
   ·exact ha r hr
   ·rw [List.mem_singleton.1 hr]
    rcases orT.1 h2 with h|h
    ·rw [leI_t,lenI] at h; omega
    ·rw [gtI_t,lenI] at h; omega
  ·obtain rfl:k=p.routes.length:=by omega
   rw [Qbu]
   rw [List.take_length] at ha
   exact Qb2 (.inl ⟨(),rfl,ha⟩)
 ·rcases he with ⟨u,rfl,ha⟩|rfl
  ·rw [QfQ]; exact Qat.2 fun _=>⟨by omega,ha⟩
  ·rw [Qg6]; exact Qat.2 fun h=>by cases h
end
end Go.Proofs.YtpkkaboonnedfaaGreatDoor
namespace Go.Proofs.YtpkkaboonnedfaaGreatDoor
set_option linter.unusedSimpArgs false
set_option linter.unusedVariables false
set_option linter.unusedSectionVars false
def cntU (us:List Int) (i:Nat):Int:=sumF (fun o=>bit1 (eqI o (i:Int))) us
structure QsC (x:Qac) (p:Qam):Prop where
 valid:∀ r∈p.routes,(evX x r).2.2=0
 inn:∀ o∈p.unserved,0≤o∧o<x.orders.length
 once:∀ i:Nat,i<x.orders.length→cntO p.routes i+cntU p.unserved i≤1
 count:∀ (t:Nat) ty,x.types[t]?=some ty→cntT p.routes t≤ty.count
 off:∀ (i:Nat) o,x.orders[i]?=some o→o.off=true→cntU p.unserved i≤0
 miss:∀ (i:Nat) o,x.orders[i]?=some o→o.off=false→cntO p.routes i+cntU p.unserved i≠0∧¬ (0<cntU p.unserved i∧o.penalty=-1)
def outR (x:Qac) (p:Qam) (j:Nat):Bool:=match p.unserved[j]? with
 | some o=>(ltI o 0||geI o (lenI x.orders))
 | none=>false
section
variable {x : Qac} {r : Qad} {l more : List Qab} {v : Qab} {o : Int} {s : Option Cnd} {p : Qam} {n : Nat}
theorem Qu1 {us:List Int} {i:Nat}:0≤cntU us i∧cntU us i≤1000*us.length:=QsB fun a _=>by have:=Qi6 (b:=eqI a (i:Int)); omega
theorem QwL (hx:QbQ x) (hP:PlanI p) (hq:∀ r∈p.routes,SeqOK x r.visits):post (QkN x p) fun e=>(e=(vecN x.orders.length (cntO p.routes),vecN x.orders.length (cntU p.unserved),true)∧∀ o∈p.unserved,0≤o∧o<x.orders.length)∨(e=([],[],false)∧¬ ∀ o∈p.unserved,0≤o∧o<x.orders.length):=by
 have h10:=hx.orders
 have hr:=hP.routes
 have hu:=hP.unserved
 unfold QkN
 rw [show lenI x.orders=(x.orders.length:Int) from rfl,zeros (by omega),Qah,Qah,Qc9 (Qyr hx hP hq)]
 have hloop:=QtF (n:=p.unserved.length) (by omega) (outR x p) (fun k=>(vecN x.orders.length (cntU (p.unserved.take k)),(k:Int))) (fun j=>(.inr ([],[],false):(List Int)⊕(List Int×List Int×Bool)))
  (B:=fun s=>QdA x p (vecN x.orders.length fun _=>0) (vecN x.orders.length (cntO p.routes)) s.1 s.2) (N:=.inl (vecN x.orders.length (cntU p.unserved))) (fun j hj=>by
   have e:p.unserved[j]?=some p.unserved[j]:=List.getElem?_eq_getElem hj
   generalize p.unserved[j]=o at e
   show QdA x p _ _ (vecN x.orders.length (cntU (p.unserved.take j))) (j:Int)=_
   unfold QdA
   rw [Qb1 e,incL e hu]
   unfold outR
   rw [e]
   simp only
   by_cases hc:(ltI o 0||geI o (lenI x.orders))=true
   ·rw [Qbc hc,if_pos hc]
   ·rw [QaY (by simpa using hc),if_neg hc]
    simp only [Bool.or_eq_true,not_or,ltI_t,geI_t,lenI] at hc
    obtain ⟨t,rfl⟩:∃ t:Nat,o=t:=⟨o.toNat,by omega⟩
    have hcb:=Qu1 (us:=p.unserved.take j) (i:=t)
    have htl:(p.unserved.take j).length≤1048576:=by rw [List.length_take]; omega
    rw [Qpg (by omega) (by omega),Qah,Int.toNat_natCast,addI (by omega) (by omega),Qr7 (by omega)]
    congr 3
    refine Qfm fun d hd=>?_
    have estep:cntU (p.unserved.take (j+1)) d=cntU (p.unserved.take j) d+bit1 (eqI (t:Int) (d:Int)):=QoL e
    rw [estep]
    by_cases hdt:d=t
    ·subst hdt; rw [if_pos rfl]; simp [bit1,eqI]
    ·rw [if_neg hdt]
     have:eqI (t:Int) (d:Int)=false:=by simp; omega
     rw [this]; simp [bit1]) (by
   show QdA x p _ _ (vecN x.orders.length (cntU (p.unserved.take p.unserved.length))) (p.unserved.length:Int)=_
   unfold QdA
   rw [Qbu,List.take_length])
 obtain ⟨s1,s2,s3,s4⟩:=QoE (outR x p) p.unserved.length 0
 rw [Nat.zero_add] at s2 s4
 refine QaR (QBA (Q:=fun e=>e=_) hloop rfl) fun e he=>?_
 subst he
 split
 ·rename_i hlt
  rw [Qg6]
  refine Qat.2 (.inr ⟨rfl,fun hin=>?_⟩)
  have hb:=s4 hlt
  generalize QmM (outR x p) p.unserved.length 0=j0 at hlt hb
  unfold outR at hb
  rw [List.getElem?_eq_getElem hlt] at hb
  have:=hin _ (List.getElem_mem hlt)
  simp [lenI] at hb
  omega
 ·rename_i hge
  rw [QfQ]
  refine Qat.2 (.inl ⟨rfl,fun o ho=>?_⟩)
  obtain ⟨j,hj⟩:=List.getElem?_of_mem ho
  have hjl:=(List.getElem?_eq_some_iff.1 hj).1
  have:=s3 j (Nat.zero_le _) (by omega)
  unfold outR at this
  rw [hj] at this
  simp [lenI] at this
  omega
theorem QvT (hx:QbQ x) (hP:PlanI p) (ht:∀ r∈p.routes,0≤r.type_∧r.type_<x.types.length):post (QiT x p) fun b=>b=false↔∀ (t:Nat) ty,x.types[t]?=some ty→cntT p.routes t≤ty.count:=by
 have h6:=hx.types
 have hp:=hP.routes
 unfold QiT
 rw [show lenI x.types=(x.types.length:Int) from rfl,zeros (by omega),Qah]
 have l1:∀ l,loopF (fun s=>QcV x p l s.1 s.2) (vecN x.types.length (fun _=>0),0)=some (vecN x.types.length (cntT p.routes)):=fun l =>
  Qd8 (B:=fun s=>QcV x p l s.1 s.2) p.routes.length (fun j=>(vecN x.types.length (cntT (p.routes.take j)),(j:Int))) (by omega) (fun j hj=>by
   have e:p.routes[j]?=some p.routes[j]:=List.getElem?_eq_getElem hj
   have hm:=ht _ (List.getElem_mem hj)
   generalize p.routes[j]=r at e hm
   obtain ⟨t,htt⟩:∃ t:Nat,r.type_=t:=⟨r.type_.toNat,by omega⟩
   have hcb:=Qzm (rs:=p.routes.take j) (t:=t)
   have htl:(p.routes.take j).length≤1048576:=by rw [List.length_take]; omega
   show QcV x p l (vecN x.types.length (cntT (p.routes.take j))) (j:Int)=some (.inl (vecN x.types.length (cntT (p.routes.take (j+1))),((j+1:Nat):Int)))
   unfold QcV
   rw [Qb1 e,htt,Qpg (by omega) (by omega),Qah,Int.toNat_natCast,addI (a:=cntT (p.routes.take j) t) (by omega) (by omega),Qr7 (by omega),incL e hp]
   congr 3
   refine Qfm fun d hd=>?_
   have estep:cntT (p.routes.take (j+1)) d=cntT (p.routes.take j) d+bit1 (eqI r.type_ (d:Int)):=QoL e
   rw [estep,htt]
   by_cases hdt:d=t
   ·subst hdt; rw [if_pos rfl]; simp [bit1,eqI]
   ·rw [if_neg hdt]
    have:eqI (t:Int) (d:Int)=false:=by simp; omega
    rw [this]; simp [bit1]) (by
   show QcV x p l (vecN x.types.length (cntT (p.routes.take p.routes.length))) (p.routes.length:Int)=_
   unfold QcV
   rw [Qbu,List.take_length])
 rw [Qc9 (l1 _)]
 rcases QxZ (B:=fun s=>Qeq x (vecN x.types.length fun _=>0) (vecN x.types.length (cntT p.routes)) s) (n:=x.types.length) (by omega) (fun i=>match x.types[i]? with|some ty=>gtI (cntT p.routes i) ty.count|none=>false) (fun _=>(.inr true:Unit⊕Bool)) (N:=.inl ()) (fun i hi=>by
  have e:x.types[i]?=some x.types[i]:=List.getElem?_eq_getElem hi
  unfold Qeq
  rw [Qbc (by simp [lenI,Qe2]; omega),Qpg (by omega) (by omega),Qah,QaU e,Qah,inc hi (by omega),brs,e,Int.toNat_natCast]) (by
  unfold Qeq
  rw [QaY (by simp [lenI,Qe2])]) with ⟨k,hk,hk2,_,h4⟩|⟨h1,h4⟩
 ·rw [Qc9 h4,Qg6]
  refine Qat.2 ⟨(fun h=>by cases h),fun h=>?_⟩
  rw [List.getElem?_eq_getElem hk] at hk2
  have:=h k _ (List.getElem?_eq_getElem hk)
  simp at hk2
  omega
 ·rw [Qc9 h4,QfQ]
  refine Qat.2 ⟨fun _ t ty e=>?_,fun _=>rfl⟩
  have:=h1 t (List.getElem?_eq_some_iff.1 e).1
  rw [e] at this
  simpa using this
theorem Qun {q:Nat→Qag→Bool} {B:Int→Option (Int⊕(Unit⊕Bool))} (h10:x.orders.length≤10) (hB:∀ (i:Nat) o,x.orders[i]?=some o→B (i:Int)=br (q i o) (some (.inr (.inr true))) (some (.inl ((i:Int)+1)))) (hend:B (x.orders.length:Int)=some (.inr (.inl ()))) :
  post (bnd (loopF B 0) (fun e=>sel e (fun (_:Unit)=>some false) (fun r1=>some r1))) fun b=>b=false↔∀ (i:Nat) o,x.orders[i]?=some o→q i o=false:=by
 rcases QxZ (B:=B) (n:=x.orders.length) (by omega) (fun i=>match x.orders[i]? with|some o=>q i o|none=>false) (fun _=>(.inr true:Unit⊕Bool)) (N:=.inl ()) (fun i hi=>by
  have e:x.orders[i]?=some x.orders[i]:=List.getElem?_eq_getElem hi
  rw [hB i _ e,brs,e]) hend with ⟨k,hk,hk2,_,h4⟩|⟨h1,h4⟩
 ·rw [Qc9 h4,Qg6]
  refine Qat.2 ⟨(fun h=>by cases h),fun h=>?_⟩
  rw [List.getElem?_eq_getElem hk] at hk2
  have:=h k _ (List.getElem?_eq_getElem hk)
  simp only at hk2
  rw [this] at hk2
  cases hk2
 ·rw [Qc9 h4,QfQ]
  refine Qat.2 ⟨fun _ i o e=>?_,fun _=>rfl⟩
  have:=h1 i (List.getElem?_eq_some_iff.1 e).1
  rw [e] at this
  exact this
theorem Qya (hx:QbQ x) (hP:PlanI p) (h9:∀ r∈p.routes,Qka r):post (loopF (fun s=>QgQ x p s) 0) fun e=>(∃ u,e=.inl u∧∀ r∈p.routes,(evX x r).2.2=0)∨∃ c,e=.inr c∧c≠0∧¬ ∀ r∈p.routes,(evX x r).2.2=0:=by
 have hp:=hP.routes
 refine QcM (fun i=>∃ k:Nat,i=(k:Int)∧k≤p.routes.length∧∀ j r,j<k→p.routes[j]?=some r→(evX x r).2.2=0) (fun i=>p.routes.length-i.toNat) ⟨0,rfl,Nat.zero_le _,fun j r h=>by omega⟩ (by simp; omega) ?_
 rintro _ ⟨k,rfl,hk,hf⟩
 show post (QgQ x p (k:Int)) _
 unfold QgQ
 rcases Nat.lt_or_ge k p.routes.length with h|h
 ·have e:p.routes[k]?=some p.routes[k]:=List.getElem?_eq_getElem h
  have hm:=List.getElem_mem h
  generalize p.routes[k]=r at e hm
  rw [Qb1 e,QAT hx (hP.each r hm) (h9 r hm),Qah,incL e hp]
  refine QaI (fun hn=>Qb2 (.inr ⟨_,rfl,by simpa using hn,fun ha=>by simp [ha r hm] at hn⟩)) (fun hn=>QdI ⟨⟨k+1,rfl,h,fun j q hj hq=>?_⟩,by simp; omega⟩)
  rcases Nat.lt_or_eq_of_le (Nat.le_of_lt_succ hj) with hj|rfl
  ·exact hf j q hj hq
  ·rw [e] at hq; cases hq; simpa using hn
 ·obtain rfl:k=p.routes.length:=by omega
  rw [Qbu]
  refine Qb2 (.inl ⟨(),rfl,fun r hr=>?_⟩)
  obtain ⟨j,hj,rfl⟩:=List.getElem_of_mem hr
  exact hf j _ hj (List.getElem?_eq_getElem hj)
theorem QsH (hx:QbQ x) (hP:PlanI p) (h9:∀ r∈p.routes,Qka r):post (QgP x p) fun c=>c=0↔QsC x p:=by
 have h10:=hx.orders
 have hp:=hP.routes
 have hu:=hP.unserved
 unfold QgP
 refine QaR (Qya hx hP h9) fun e he=>?_
 rcases he with ⟨u,rfl,h0⟩|⟨c,rfl,hc,hno⟩
 ·rw [QfQ]
  have hE:∀ r∈p.routes,∃ b,EvOK x r (evX x r).1 b:=fun r hr=>((Qrq hx (hP.each r hr) (h9 r hr)).2.2.2.2 (h0 r hr)).2
  have hq:∀ r∈p.routes,SeqOK x r.visits:=fun r hr=>by obtain ⟨b,hb⟩:=hE r hr; exact QtU hb.seq
  have ht:∀ r∈p.routes,0≤r.type_∧r.type_<x.types.length:=fun r hr=>by obtain ⟨b,hb⟩:=hE r hr; exact hb.type_
  refine QaR (QwL hx hP hq) fun e he=>?_
  rcases he with ⟨rfl,hin⟩|⟨rfl,hout⟩
  ·rw [Qbc rfl]
   have hcb:=fun o=>QqG (l:=p.routes) (o:=o)
   have hcu:=fun o=>Qu1 (us:=p.unserved) (i:=o)
   have hadd:∀ i:Nat,addK .i64 (cntO p.routes i) (cntU p.unserved i)=cntO p.routes i+cntU p.unserved i:=fun i=>by have:=hcb i; have:=hcu i; exact addI (by omega) (by omega)
   have c2:=Qun (x:=x) (q:=fun i o=>gtI (addK .i64 (cntO p.routes i) (cntU p.unserved i)) 1) (B:=fun s=>QbC (vecN x.orders.length (cntO p.routes)) (vecN x.orders.length (cntU p.unserved)) x s) h10 (fun i o e=>by
    have hi:=(List.getElem?_eq_some_iff.1 e).1
    show QbC _ _ x i=_
    unfold QbC QmS
    rw [Qb1 e,Qpg (by omega) (by omega),Qah,Qpg (by omega) (by omega),Qah,Qah,incL e (by omega),Int.toNat_natCast]) (by
    show QbC _ _ x x.orders.length=_
    unfold QbC
    rw [Qbu])
   have c3:=Qun (x:=x) (q:=fun i o=>o.off&&gtI (cntU p.unserved i) 0) (B:=fun s=>QbD (vecN x.orders.length (cntU p.unserved)) x s) h10 (fun i o e=>by
    have hi:=(List.getElem?_eq_some_iff.1 e).1
    show QbD _ x i=_
    unfold QbD QmT
    rw [Qb1 e,Qpg (by omega) (by omega),Qah,incL e (by omega),Int.toNat_natCast]
    cases o.off <;> rfl) (by
    show QbD _ x x.orders.length=_
    unfold QbD
    rw [Qbu])
   have c4:=Qun (x:=x) (q:=fun i o=>!o.off&&(eqI (addK .i64 (cntO p.routes i) (cntU p.unserved i)) 0||(gtI (cntU p.unserved i) 0&&eqI o.penalty (-1)))) (B:=fun s=>QbE (vecN x.orders.length (cntO p.routes)) (vecN x.orders.length (cntU p.unserved)) x s) h10 (fun i o e=>by
    have hi:=(List.getElem?_eq_some_iff.1 e).1
    show QbE _ _ x i=_
    unfold QbE QmU
    rw [Qb1 e,Qpg (by omega) (by omega),Qah,Qpg (by omega) (by omega),Qah,incL e (by omega),Int.toNat_natCast]
    cases o.off <;> cases eqI (addK .i64 (cntO p.routes i) (cntU p.unserved i)) 0 <;> rfl) (by
    show QbE _ _ x x.orders.length=_
    unfold QbE
    rw [Qbu])
   have t2:∀ b2:Bool,(b2=false↔∀ (i:Nat) o,x.orders[i]?=some o→gtI (addK .i64 (cntO p.routes i) (cntU p.unserved i)) 1=false)→(b2=false↔∀ i:Nat,i<x.orders.length→cntO p.routes i+cntU p.unserved i≤1):=fun b2 hb=>hb.trans ⟨fun h i hi=>by
    have:=h i _ (List.getElem?_eq_getElem hi)
    rw [gtI_f,hadd] at this; exact this,fun h i o e=>by
    rw [gtI_f,hadd]; exact h i (List.getElem?_eq_some_iff.1 e).1⟩
   refine QaR (show post (QeP _ _ x) _ from c2) fun b2 hb2=>QaI (fun d2=>Qat.2 ⟨(fun h=>by cases h),fun h=>?_⟩) (fun d2=>?_)
   ·have:=(t2 b2 hb2).2 h.once
    rw [this] at d2; cases d2
   refine QaR (QvT hx hP ht) fun b3 hb3=>QaI (fun d3=>Qat.2 ⟨(fun h=>by cases h),fun h=>?_⟩) (fun d3=>?_)
   ·have:=hb3.2 h.count
    rw [this] at d3; cases d3
   refine QaR (show post (QeQ _ x) _ from c3) fun b4 hb4=>QaI (fun d4=>Qat.2 ⟨(fun h=>by cases h),fun h=>?_⟩) (fun d4=>?_)
   ·have:=hb4.2 fun i o e=>by
     cases ho:o.off with
     | false=>rfl
     | true=>simp only [Bool.true_and,gtI_f]; exact h.off i o e ho
    rw [this] at d4; cases d4
   refine QaR (show post (QeR _ _ x) _ from c4) fun b5 hb5=>QaI (fun d5=>Qat.2 ⟨(fun h=>by cases h),fun h=>?_⟩) (fun d5=>Qat.2 ⟨fun _=>?_,fun _=>rfl⟩)
   ·have:=hb5.2 fun i o e=>by
     cases ho:o.off with
     | true=>rfl
     | false =>
      obtain ⟨m1,m2⟩:=h.miss i o e ho
      rw [hadd]
      simp only [Bool.not_false,Bool.true_and,Bool.or_eq_false_iff,eqI_f]
      refine ⟨m1,?_⟩
      rw [Bool.and_eq_false_iff]
      by_cases hu:0<cntU p.unserved i
      ·exact .inr (by rw [eqI_f]; exact fun hp=>m2 ⟨hu,hp⟩)
      ·exact .inl (by rw [gtI_f]; omega)
    rw [this] at d5; cases d5
   ·refine ⟨h0,hin,(t2 b2 hb2).1 d2,hb3.1 d3,fun i o e ho=>?_,fun i o e ho=>?_⟩
    ·have:=hb4.1 d4 i o e
     rw [ho,Bool.true_and,gtI_f] at this
     exact this
    ·have:=hb5.1 d5 i o e
     rw [ho,hadd] at this
     simp only [Bool.not_false,Bool.true_and,Bool.or_eq_false_iff,eqI_f] at this
     refine ⟨this.1,fun ⟨h1,h2⟩=>?_⟩
     have h3:=this.2
     rw [h2] at h3
     simp at h3
     omega
  ·rw [QaY rfl]
   exact Qat.2 ⟨(fun h=>by cases h),fun h=>absurd h.inn hout⟩
 ·rw [Qg6]; exact Qat.2 ⟨fun h=>absurd h hc,fun h=>absurd h.valid hno⟩
end
end Go.Proofs.YtpkkaboonnedfaaGreatDoor
namespace Go.Proofs.YtpkkaboonnedfaaGreatDoor
set_option linter.unusedSimpArgs false
set_option linter.unusedVariables false
set_option linter.unusedSectionVars false
structure GoodP (x:Qac) (rs:List Qad):Prop where
 each:∀ r∈rs,Qi5 r∧r.visits.length≤8∧(prX x r).2=0
 once:∀ i:Nat,i<x.orders.length→cntO rs i≤1
 count:∀ (t:Nat) ty,x.types[t]?=some ty→cntT rs t≤ty.count
def BaseC (x:Qac) (p:Qam) (c:Cnd) (b:Qad):Prop:=(∃ i:Nat,c.1=(i:Int)∧p.routes[i]?=some b)∨(c.1=(p.routes.length:Int)∧∃ (t:Nat) (ty:Qaj),x.types[t]?=some ty∧b=Qad.mk (t:Int) 0 [] []∧cntT p.routes t<ty.count)
def Qwk (x:Qac) (p:Qam) (o:Int) (c:Cnd):Prop:=∃ b,BaseC x p c b∧(insX x b o).2.2=0∧c.2.1=(insX x b o).1
section
variable {x : Qac} {r : Qad} {l more : List Qab} {v : Qab} {o : Int} {s : Option Cnd} {p : Qam} {n : Nat} {c : Cnd} {rs : List Qad}
theorem QBl (h:(insX x r o).2.2=0):∃ q∈plcS (visO x o) r.visits r.rests.length,(prX x (rW r q)).2=0∧(insX x r o).1=rW r q∧(0≤o∧o<x.orders.length)∧offN x o.toNat=false∧hasO r.visits o=false:=by
 unfold insX at h ⊢
 split at h
 ·rename_i ht
  split at h
  ·rename_i ho
   split at h
   ·cases h
   ·rename_i hf
    split at h
    ·cases h
    ·rename_i hh
     rw [if_pos ht,if_pos ho,if_neg hf,if_neg hh]
     obtain ⟨b1,_,_⟩:=Qwy (x:=x) (r:=r) (plcS (visO x o) r.visits r.rests.length) none (fun k=>∃ q,q∈plcS (visO x o) r.visits r.rests.length∧(prX x (rW r q)).2=0∧k=kyX x r q) (fun k hk=>by cases hk) (fun q hq hp=>⟨q,hq,hp,rfl⟩)
     cases hb:bestI x r o with
     | none=>rw [hb] at h; cases h
     | some k =>
      obtain ⟨q,q1,q2,q3⟩:=b1 k hb
      exact ⟨q,q1,q2,by rw [q3]; rfl,ho,by simpa using hf,by simpa using hh⟩
  ·cases h
 ·cases h
theorem QyB {k:Nat} {i:Int}:hasO (insAt l k v) i=(hasO l i||isO i v):=by
 unfold hasO insAt
 rw [List.any_append,List.any_append]
 conv=>rhs; rw [← List.take_append_drop k l,List.any_append]
 cases (l.take k).any (isO i) <;> cases (l.drop k).any (isO i) <;> simp
theorem QxJ:∀ {more l:List Qab} {f:Nat},∀ s∈plcS more l f,∀ i,hasO s i=(hasO l i||hasO more i)
 | [],l,f,s,hs,i=>by
  rw [plcS,List.mem_singleton] at hs; rw [hs]; simp [hasO]
 | v :: r,l,f,s,hs,i=>by
  rw [plcS,List.mem_flatMap] at hs
  obtain ⟨k,_,hk⟩:=hs
  rw [QxJ s hk i,QyB]
  show ((hasO l i||isO i v)||hasO r i)=(hasO l i||(isO i v||hasO r i))
  rw [Bool.or_assoc]
theorem QAU (hx:QbQ x) (ho:0≤o∧o<x.orders.length) {i:Int}:hasO (visO x o) i=eqI o i:=by
 rw [Bool.eq_iff_iff,Qru,eqI_t]
 constructor
 ·rintro ⟨v,hv,rfl⟩
  exact (Qr8 hv).symm
 ·rintro rfl
  obtain ⟨v,hv⟩:=Qzb hx (i:=o.toNat) (by omega)
  rw [show ((o.toNat:Nat):Int)=o by omega] at hv
  exact ⟨v,hv,Qr8 hv⟩
theorem QsF:∀ (i:Nat) {c:Cnd},candR x p o i=some c→Qwk x p o c
 | 0,c,h=>by cases h
 | i+1,c,h=>by
  rw [candR] at h
  cases e:p.routes[i]? with
  | none=>rw [e] at h; exact QsF i h
  | some r =>
   rw [e] at h
   simp only at h
   unfold stepC at h
   split at h
   ·rename_i h0
    have hn:Qwk x p o ((i:Int),(insX x r o).1,(insX x r o).2.1-(prX x r).1):=⟨r,.inl ⟨i,rfl,e⟩,h0,rfl⟩
    cases hc:candR x p o i with
    | none=>rw [hc] at h; cases h; exact hn
    | some q =>
     rw [hc] at h
     simp only at h
     split at h
     ·cases h; exact hn
     ·cases h; exact QsF i hc
   ·exact QsF i h
theorem Qpj:∀ (t:Nat) {c:Cnd},candT x p o t=some c→Qwk x p o c
 | 0,c,h=>QsF _ h
 | t+1,c,h=>by
  rw [candT] at h
  cases e:x.types[t]? with
  | none=>rw [e] at h; exact Qpj t h
  | some ty =>
   rw [e] at h
   simp only at h
   split at h
   ·rename_i hlt
    unfold stepC at h
    split at h
    ·rename_i h0
     have hn:Qwk x p o ((p.routes.length:Int),(insX x (Qad.mk (t:Int) 0 [] []) o).1,(insX x (Qad.mk (t:Int) 0 [] []) o).2.1-0):=⟨_,.inr ⟨rfl,t,ty,e,rfl,hlt⟩,h0,rfl⟩
     cases hc:candT x p o t with
     | none=>rw [hc] at h; cases h; exact hn
     | some q =>
      rw [hc] at h
      simp only at h
      split at h
      ·cases h; exact hn
      ·cases h; exact Qpj t hc
    ·exact Qpj t h
   ·exact Qpj t h
theorem QuJ {α:Type} {f:α→Int}:∀ {l:List α} {k:Nat} {a b:α},l[k]?=some b→sumF f (l.set k a)=sumF f l-f b+f a
 | [],k,a,b,h=>by simp at h
 | y :: l,0,a,b,h=>by
  cases h
  simp [sumF]; omega
 | y :: l,k+1,a,b,h=>by
  have:=QuJ (f:=f) (l:=l) (k:=k) (a:=a) (b:=b) (by simpa using h)
  simp only [List.set_cons_succ]
  have e1:sumF f (y :: l.set k a)=f y+sumF f (l.set k a):=by simp [sumF]
  have e2:sumF f (y :: l)=f y+sumF f l:=by simp [sumF]
  rw [e1,e2,this]; omega
theorem QBR {k:Nat} (h:cntO rs k≤0):∀ r∈rs,hasO r.visits (k:Int)=false:=fun r hr=>Qz0 (Int.le_antisymm h QqG.1) r hr
theorem seq6 (h4:x.orders.length≤4) (ho:0≤o∧o<x.orders.length) (hq:SeqOK x l) (hn:hasO l o=false):l.length≤6:=by
 have hno:∀ v∈l,v.order≠o:=fun v hv e=>by
  have:hasO l o=true:=Qru.2 ⟨v,hv,e⟩
  rw [hn] at this; cases this
 have hg:GoodL x (l++[Qab.mk o false,Qab.mk o true]):=by
  refine ⟨?_,fun v hv=>?_⟩
  ·rw [List.nodup_append]
   refine ⟨hq.nodup,by simp,fun a ha b hb e=>?_⟩
   subst e
   simp only [List.mem_cons,List.not_mem_nil,or_false] at hb
   rcases hb with rfl|rfl <;> exact hno _ ha rfl
  ·rcases List.mem_append.1 hv with h|h
   ·exact QmL hq.inn h
   ·simp only [List.mem_cons,List.not_mem_nil,or_false] at h
    rcases h with rfl|rfl <;> exact ho
 have:=hg.len
 rw [List.length_append] at this
 simp at this
 omega
theorem Qy5 (h:r.visits.length≤8):Qka r:=by unfold Qka; omega
theorem GoodP.seq (hx:QbQ x) (hg:GoodP x rs) (hr:r∈rs):SeqOK x r.visits:=by
 obtain ⟨h1,h2,h3⟩:=hg.each r hr
 exact QBB hx h1 (Qy5 h2) h3
theorem GoodP.insI (hx:QbQ x) (h4:x.orders.length≤4) (ho:0≤o∧o<x.orders.length) (hg:GoodP x rs) (hr:r∈rs):InsI r o∧Qka r:=by
 obtain ⟨h1,h2,h3⟩:=hg.each r hr
 refine ⟨⟨h1,by omega,fun hn=>.inl ?_⟩,Qy5 h2⟩
 have:=seq6 h4 ho (hg.seq hx hr) hn
 omega
theorem GoodP.insP (hx:QbQ x) (h4:x.orders.length≤4) (ho:0≤o∧o<x.orders.length) (hg:GoodP x p.routes) (hl:p.routes.length≤1000):InsP p o:=⟨hl,fun r hr=>hg.insI hx h4 ho hr⟩
theorem GoodP.with (hx:QbQ x) (h4:x.orders.length≤4) (hg:GoodP x p.routes) {k:Nat} (hk:k<x.orders.length) (hk0:cntO p.routes k≤0) (hc:Qwk x p (k:Int) c) :
  GoodP x (withS p (k:Int) c).routes∧(∀ i:Nat,cntO (withS p (k:Int) c).routes i=cntO p.routes i+bit1 (eqI (k:Int) (i:Int)))∧p.routes.length≤(withS p (k:Int) c).routes.length∧(withS p (k:Int) c).routes.length≤p.routes.length+1:=by
 obtain ⟨b,hb,h0,hc2⟩:=hc
 obtain ⟨q,q1,q2,q3,ho,hf,hh⟩:=QBl h0
 have hbI:Qi5 b∧b.visits.length≤6:=by
  rcases hb with ⟨i,_,e⟩|⟨_,t,ty,e,rfl,_⟩
  ·have hm:=List.mem_of_getElem? e
   exact ⟨(hg.each b hm).1,seq6 h4 ho (hg.seq hx hm) hh⟩
  ·have h6:=hx.types
   have:=(List.getElem?_eq_some_iff.1 e).1
   exact ⟨(newI (t:=t) (o:=(0:Int)) (by omega)).R,by simp⟩
 have hql:=Qut q q1
 have hvl:=Qow (x:=x) (o:=(k:Int))
 have hnew:Qi5 c.2.1∧c.2.1.visits.length≤8∧(prX x c.2.1).2=0:=by
  rw [hc2,q3]
  exact ⟨(rW_I hbI.1 (by omega)).1,show q.length≤8 by omega,q2⟩
 have hhas:∀ i:Nat,bit1 (hasO c.2.1.visits (i:Int))=bit1 (hasO b.visits (i:Int))+bit1 (eqI (k:Int) (i:Int)):=fun i=>by
  rw [hc2,q3]
  show bit1 (hasO q (i:Int))=_
  rw [QxJ q q1,QAU hx ho]
  by_cases hi:i=k
  ·subst hi; rw [hh]; simp [bit1,eqI]
  ·have:eqI (k:Int) (i:Int)=false:=by simp; omega
   rw [this]; simp [bit1]
 have hty:c.2.1.type_=b.type_:=by rw [hc2,q3]; rfl
 rcases hb with ⟨i,hi,e⟩|⟨hi,t,ty,e,rfl,hlt⟩
 ·have hil:=(List.getElem?_eq_some_iff.1 e).1
  have hw:(withS p (k:Int) c).routes=p.routes.set i c.2.1:=by
   unfold withS
   simp only
   rw [hi,if_pos (by omega),Int.toNat_natCast]
  rw [hw]
  have hcO:∀ j:Nat,cntO (p.routes.set i c.2.1) j=cntO p.routes j+bit1 (eqI (k:Int) (j:Int)):=fun j=>by
   have:=QuJ (f:=fun r:Qad=>bit1 (hasO r.visits (j:Int))) (l:=p.routes) (k:=i) (a:=c.2.1) (b:=b) e
   have h2:=hhas j
   unfold cntO
   rw [this]; omega
  refine ⟨⟨fun r hr=>?_,fun j hj=>?_,fun t ty et=>?_⟩,hcO,by rw [List.length_set]; exact Nat.le_refl _,by rw [List.length_set]; omega⟩
  ·rcases List.mem_or_eq_of_mem_set hr with h|h
   ·exact hg.each r h
   ·rw [h]; exact hnew
  ·rw [hcO]
   by_cases hjk:j=k
   ·subst hjk
    have:=Qi6 (b:=eqI (j:Int) (j:Int))
    omega
   ·have:eqI (k:Int) (j:Int)=false:=by simp; omega
    rw [this]
    have:=hg.once j hj
    simp [bit1]; omega
  ·have:=QuJ (f:=fun r:Qad=>bit1 (eqI r.type_ (t:Int))) (l:=p.routes) (k:=i) (a:=c.2.1) (b:=b) e
   have h2:=hg.count t ty et
   unfold cntT at h2 ⊢
   rw [this]
   simp only [hty]
   omega
 ·have hw:(withS p (k:Int) c).routes=p.routes++[c.2.1]:=by
   unfold withS
   simp only
   rw [hi,if_neg (by omega)]
  rw [hw]
  have hcO:∀ j:Nat,cntO (p.routes++[c.2.1]) j=cntO p.routes j+bit1 (eqI (k:Int) (j:Int)):=fun j=>by
   have h2:=hhas j
   have h3:hasO (Qad.mk (t:Int) 0 [] []).visits (j:Int)=false:=rfl
   rw [h3] at h2
   unfold cntO
   rw [Qot,Qou,h2]
   simp [bit1]
  refine ⟨⟨fun r hr=>?_,fun j hj=>?_,fun t' ty' et=>?_⟩,hcO,by simp,by simp⟩
  ·rcases List.mem_append.1 hr with h|h
   ·exact hg.each r h
   ·rw [List.mem_singleton.1 h]; exact hnew
  ·rw [hcO]
   by_cases hjk:j=k
   ·subst hjk
    have:=Qi6 (b:=eqI (j:Int) (j:Int))
    omega
   ·have:eqI (k:Int) (j:Int)=false:=by simp; omega
    rw [this]
    have:=hg.once j hj
    simp [bit1]; omega
  ·have h2:=hg.count t' ty' et
   unfold cntT at h2 hlt ⊢
   rw [Qot,Qou,hty]
   by_cases htt:t'=t
   ·subst htt
    rw [e] at et
    cases et
    have:=Qi6 (b:=eqI ((Qad.mk (t':Int) 0 [] []).type_) (t':Int))
    omega
   ·have:eqI ((Qad.mk (t:Int) 0 [] []).type_) (t':Int)=false:=by simp; omega
    rw [this]
    have hz:bit1 false=0:=rfl
    rw [hz]; omega
theorem QvR {us:List Int} {o:Int} {i:Nat}:cntU (us.filter fun a=>neI a o) i=if (i:Int)=o then 0 else cntU us i:=by
 induction us with
 | nil=>simp [cntU,sumF]
 | cons a us ih =>
  have e1:cntU (a :: us) i=bit1 (eqI a (i:Int))+cntU us i:=by simp [cntU,sumF]
  by_cases ha:a=o
  ·rw [List.filter_cons_of_neg (by simpa using ha),ih,e1]
   split
   ·rfl
   ·rename_i hi
    have:eqI a (i:Int)=false:=by simp; omega
    rw [this]; simp [bit1]
  ·rw [List.filter_cons_of_pos (by simpa using ha)]
   have e2:cntU (a :: us.filter fun a=>neI a o) i=bit1 (eqI a (i:Int))+cntU (us.filter fun a=>neI a o) i:=by simp [cntU,sumF]
   rw [e2,ih,e1]
   split
   ·rename_i hi
    have:eqI a (i:Int)=false:=by simp; omega
    rw [this]; simp [bit1]
   ·rfl
theorem QwT {us:List Int} {k:Nat}:((us.filter fun a=>neI a (k:Int)).length:Int)=us.length-cntU us k:=by
 induction us with
 | nil=>simp [cntU,sumF]
 | cons a us ih =>
  have e1:cntU (a :: us) k=bit1 (eqI a (k:Int))+cntU us k:=by simp [cntU,sumF]
  rw [e1]
  by_cases ha:a=(k:Int)
  ·rw [List.filter_cons_of_neg (by simpa using ha),ih]
   have:eqI a (k:Int)=true:=by simpa using ha
   rw [this]; simp [bit1]; omega
  ·rw [List.filter_cons_of_pos (by simpa using ha)]
   have:eqI a (k:Int)=false:=by simpa using ha
   rw [this,List.length_cons,List.length_cons]; simp [bit1]; omega
theorem QsC.of_good {us:List Int} (hx:QbQ x) (hg:GoodP x rs) (h1:∀ o∈us,0≤o∧o<x.orders.length) (h2:∀ i:Nat,i<x.orders.length→cntO rs i+cntU us i≤1) (h3:∀ (i:Nat) o,x.orders[i]?=some o→o.off=true→cntU us i≤0)
  (h4:∀ (i:Nat) o,x.orders[i]?=some o→o.off=false→cntO rs i+cntU us i≠0∧¬ (0<cntU us i∧o.penalty=-1)):QsC x (Qam.mk rs us) :=
 ⟨fun r hr=>by obtain ⟨a,b,c⟩:=hg.each r hr; exact pr_ev hx a (Qy5 b) c,h1,h2,hg.count,h3,h4⟩
end
end Go.Proofs.YtpkkaboonnedfaaGreatDoor
namespace Go.Proofs.YtpkkaboonnedfaaGreatDoor
set_option linter.unusedSimpArgs false
set_option linter.unusedVariables false
set_option linter.unusedSectionVars false
section
variable {x : Qac} {r : Qad} {l more : List Qab} {v : Qab} {o : Int} {s : Option Cnd} {p : Qam} {n : Nat} {c : Cnd} {rs : List Qad}
theorem QB5 (hx:QbQ x) (hR:Qi5 r) (h9:Qka r) (h:(evX x r).2.2=0):(prX x r).2=0:=by
 obtain ⟨e1,_,_,_,e5⟩:=Qrq hx hR h9
 obtain ⟨es,q,hE⟩:=e5 h
 obtain ⟨p1,_⟩:=QtM hx hR h9
 obtain ⟨c,m,o,w,hs,g1,g2,g3,g4,g5,g6,g7,g8,g9,g10⟩:=hE.score hx
 unfold QfM at p1
 rw [e1,Qah,QaY (by simpa using h),es,hs,QuR ⟨g2,g3⟩ ⟨g4,by omega⟩ ⟨g6,by omega⟩ ⟨g8,g9⟩] at p1
 rw [← Option.some.inj p1]
theorem Qw8 {l:List Int} (hl:l.length≤1048576):Qdx l o=some (l.any fun a=>eqI a o):=by
 unfold Qdx
 rw [Qij (l:=l) hl (fun a=>eqI a o) (y:=.inr true) (N:=.inl ()) (fun i a ha=>by
  unfold Qe5
  rw [Qb1 ha,incL ha hl,brs]) (by
  unfold Qe5
  rw [Qbu]),Qah]
 cases l.any (fun a=>eqI a o) <;> rfl
theorem QzY {us:List Int} {k:Nat} (h:(k:Int)∈us):1≤cntU us k:=by
 induction us with
 | nil=>cases h
 | cons a us ih =>
  have e1:cntU (a :: us) k=bit1 (eqI a (k:Int))+cntU us k:=by simp [cntU,sumF]
  have h0:=Qu1 (us:=us) (i:=k)
  have h1:=Qi6 (b:=eqI a (k:Int))
  rw [e1]
  rcases List.mem_cons.1 h with h|h
  ·have:bit1 (eqI a (k:Int))=1:=by simp [bit1,h]
   omega
  ·have:=ih h; omega
theorem Qzv (hx:QbQ x) (h4:x.orders.length≤4) (hP:PlanI p) (hs:∀ r∈p.routes,r.visits.length≤6∨20<r.visits.length) (hok:QsC x p):GoodP x p.routes:=by
 refine ⟨fun r hr=>?_,fun i hi=>?_,hok.count⟩
 ·have h9:Qka r:=by have:=hs r hr; unfold Qka; omega
  have hv:=hok.valid r hr
  have hp:=QB5 hx (hP.each r hr) h9 hv
  have h20:=(QBB hx (hP.each r hr) h9 hp).short hx
  have:=hs r hr
  exact ⟨hP.each r hr,by omega,hp⟩
 ·have:=hok.once i hi
  have:=Qu1 (us:=p.unserved) (i:=i)
  omega
theorem goodI (hg:GoodP x rs) (hl:rs.length≤1048576) {us:List Int} (hu:us.length≤1048576):PlanI (Qam.mk rs us)∧∀ r∈rs,Qka r:=⟨⟨hl,fun r hr=>(hg.each r hr).1,hu⟩,fun r hr=>Qy5 (hg.each r hr).2.1⟩
theorem QBz (hx:QbQ x) (h4:x.orders.length≤4) (hP:PlanI p) (hl:p.routes.length≤4) (hs:∀ r∈p.routes,r.visits.length≤6∨20<r.visits.length) (hok:QsC x p) {k:Nat} (hk:(k:Int)∈p.unserved) :
  (∃ c,planX x p (k:Int)=(withS p (k:Int) c,0)∧QsC x (withS p (k:Int) c)∧PlanI (withS p (k:Int) c)∧(∀ r∈(withS p (k:Int) c).routes,Qka r)∧((withS p (k:Int) c).unserved.any fun a=>eqI a (k:Int))=false∧((withS p (k:Int) c).unserved.length:Int)=p.unserved.length-1∧p.routes.length≤(withS p (k:Int) c).routes.length∧(withS p (k:Int) c).unserved.length≤1048576)∨planX x p (k:Int)=(zPlan,24):=by
 have hg:=Qzv hx h4 hP hs hok
 have hkr:=hok.inn _ hk
 have hkl:k<x.orders.length:=by omega
 have hu1:=QzY hk
 have hon:=hok.once k hkl
 have hc0:=QqG (l:=p.routes) (o:=k)
 have hoff:offN x k=false:=by
  unfold offN
  rw [List.getElem?_eq_getElem hkl]
  show x.orders[k].off=false
  cases ho:x.orders[k].off with
  | false=>rfl
  | true =>
   have:=hok.off k _ (List.getElem?_eq_getElem hkl) ho
   omega
 have hsv:servB p (k:Int)=false:=by
  unfold servB
  rw [List.any_eq_false]
  intro r hr
  rw [QBR (show cntO p.routes k≤0 by omega) r hr]
  simp
 have hE:errP x p=0:=QwR fun r hr=>(hg.each r hr).2.2
 unfold planX
 rw [if_pos hkr,Int.toNat_natCast,if_neg (by simp [hoff]),if_neg (by simp [hsv]),if_neg (by simpa using hE)]
 unfold candF
 cases hc:candT x p (k:Int) x.types.length with
 | none=>exact .inr rfl
 | some c =>
  refine .inl ⟨c,rfl,?_⟩
  obtain ⟨g1,g2,g3,g4⟩:=hg.with hx h4 hkl (by omega) (Qpj _ hc)
  have hus:(withS p (k:Int) c).unserved=p.unserved.filter fun a=>neI a (k:Int):=rfl
  have hcu:∀ i:Nat,cntU (withS p (k:Int) c).unserved i=if i=k then 0 else cntU p.unserved i:=fun i=>by
   rw [hus,QvR]
   by_cases hik:i=k
   ·rw [if_pos (by rw [hik]),if_pos hik]
   ·rw [if_neg (by omega),if_neg hik]
  have hul:(withS p (k:Int) c).unserved.length≤1048576:=Nat.le_trans (List.length_filter_le ..) hP.unserved
  have hG:=goodI g1 (by have:=hP.routes; omega) hul
  refine ⟨?_,hG.1,hG.2,?_,?_,g3,hul⟩
  ·refine QsC.of_good (rs:=(withS p (k:Int) c).routes) (us:=(withS p (k:Int) c).unserved) hx g1 (fun o ho=>hok.inn o (by rw [hus] at ho; exact (List.mem_filter.1 ho).1)) (fun i hi=>?_) (fun i o e ho=>?_) (fun i o e ho=>?_)
   ·rw [g2,hcu]
    have h1:=hok.once i hi
    by_cases hik:i=k
    ·subst hik
     rw [if_pos rfl]
     have:=Qi6 (b:=eqI (i:Int) (i:Int))
     omega
    ·rw [if_neg hik]
     have:eqI (k:Int) (i:Int)=false:=by simp; omega
     rw [this]
     have hz:bit1 false=0:=rfl
     omega
   ·rw [hcu]
    split
    ·omega
    ·exact hok.off i o e ho
   ·rw [g2,hcu]
    by_cases hik:i=k
    ·subst hik
     rw [if_pos rfl]
     have:bit1 (eqI (i:Int) (i:Int))=1:=by simp [bit1]
     omega
    ·rw [if_neg hik]
     have:eqI (k:Int) (i:Int)=false:=by simp; omega
     rw [this]
     have hz:bit1 false=0:=rfl
     have:=hok.miss i o e ho
     rw [hz,Int.add_zero]
     exact this
  ·rw [List.any_eq_false]
   intro a ha
   rw [hus,List.mem_filter] at ha
   simpa using ha.2
  ·rw [hus,QwT]
   omega
end
end Go.Proofs.YtpkkaboonnedfaaGreatDoor
namespace Go.Proofs.YtpkkaboonnedfaaGreatDoor
set_option linter.unusedSimpArgs false
set_option linter.unusedVariables false
set_option linter.unusedSectionVars false
section
variable {x : Qac} {r : Qad} {l : List Int} {v : Qab} {o : Int} {s : Option Cnd} {p : Qam} {n : Nat} {c : Cnd} {rs : List Qad}
theorem Qz1 {L:List Int} {a:Int} (hl:L.length≤1048576):QcL L a=some (L.any fun b=>eqI a b):=by
 unfold QcL QeV
 rw [Qpe (l:=L) hl (fun b=>eqI a b) (fun k=>.inr (k:Int)) (N:=.inl ()) (fun i b hb=>by
  unfold Qb7
  rw [Qb1 hb,incL hb hl,brs]) (by unfold Qb7; rw [Qbu])]
 have hg:geI (ixI (fun b=>eqI a b) L) 0=L.any (fun b=>eqI a b):=Qm3
 unfold ixI at hg
 cases h:ixP (fun b=>eqI a b) L with
 | none=>rw [h] at hg; exact congrArg some hg
 | some k=>rw [h] at hg; exact congrArg some hg
def Qt6 (x:Qac) (l:List Int):Prop:=(∀ a∈l,0≤a∧a<x.orders.length)∧l.Nodup
theorem Qt6.len (h:Qt6 x l):l.length≤x.orders.length:=by
 have hm:(l.map Int.toNat).Nodup:=by
  unfold List.Nodup
  rw [List.pairwise_map]
  refine h.2.imp_of_mem fun {a b} ha hb hne he=>hne ?_
  have h1:=h.1 a ha
  have h2:=h.1 b hb
  omega
 have:=QrG x.orders.length _ hm fun a ha=>by
  obtain ⟨v,hv,rfl⟩:=List.mem_map.1 ha
  have h1:=h.1 v hv
  omega
 simpa using this
theorem Qyv (hl:l.length≤1048576):post (loopF (fun s=>QeI x l s) 0) fun e=>(∃ u,e=.inl u∧Qt6 x l)∨∃ c,e=.inr (zPlan,c)∧c≠0:=by
 refine QcM (fun s=>∃ k:Nat,s=(k:Int)∧k≤l.length∧Qt6 x (l.take k)) (fun s=>l.length-s.toNat) ⟨0,rfl,Nat.zero_le _,fun a ha=>by simp at ha,by simp⟩ (by simp; omega) ?_
 rintro _ ⟨k,rfl,hk,h1,h2⟩
 show post (QeI x l (k:Int)) _
 unfold QeI
 rcases Nat.lt_or_ge k l.length with h|h
 ·have e:l[k]?=some l[k]:=List.getElem?_eq_getElem h
  generalize l[k]=a at e
  rw [Qb1 e]
  refine QaI (fun _=>Qb2 (.inr ⟨_,rfl,by decide⟩)) (fun hc=>?_)
  simp only [Bool.or_eq_false_iff,ltI_f,geI_f,lenI] at hc
  rw [QAM (by omega),Qah,Qz1 (by rw [List.length_take]; omega),Qah,incL e hl]
  refine QaI (fun _=>Qb2 (.inr ⟨_,rfl,by decide⟩)) (fun hd=>QdI ⟨⟨k+1,rfl,h,fun b hb=>?_,?_⟩,by simp; omega⟩)
  ·rw [take_one e] at hb
   rcases List.mem_append.1 hb with hb|hb
   ·exact h1 b hb
   ·rw [List.mem_singleton.1 hb]; exact hc
  ·rw [take_one e,List.nodup_append]
   refine ⟨h2,by simp,fun b hb d hd2 hbd=>?_⟩
   rw [List.mem_singleton] at hd2
   subst hd2
   subst hbd
   have:=List.any_eq_false.1 hd b hb
   simp at this
 ·obtain rfl:k=l.length:=by omega
  rw [Qbu]
  rw [List.take_length] at h1 h2
  exact Qb2 (.inl ⟨(),rfl,h1,h2⟩)
theorem Qzd (s:QaG):post (QeS s) fun _=>True:=by
 obtain ⟨w,hw,_⟩:=QuQ s
 exact ⟨w,hw,trivial⟩
theorem Qyf {k:Nat} (hk:k<x.orders.length) (inc:Int):post (QkY x (k:Int) inc) fun _=>True:=by
 unfold QkY
 rw [Qv1 hk,Qah]
 refine QaI (fun _=>Qat.2 trivial) (fun _=>?_)
 unfold QkC
 rw [QaY (by simp [lenI]; omega),Qv1 hk,Qah]
 have hs:∀ q:QaG×Int,post (br (neI q.2 0) (some false) (bnd (QeS q.1) fun r1=>some (eqI r1.2 0&&ltI inc r1.1))) fun _=>True:=fun q =>
  QaI (fun _=>Qat.2 trivial) fun _=>QaR (Qzd _) fun _ _=>Qat.2 trivial
 exact QaR (R:=fun _=>True) (QaI (fun _=>Qat.2 trivial) fun _=>QaI (fun _=>Qat.2 trivial) fun _=>QaI (fun _=>Qat.2 trivial) fun _=>Qat.2 trivial) fun q _=>hs q
structure GrI (x:Qac) (l:List Int) (k:Nat) (rs:List Qad):Prop where
 good:GoodP x rs
 len:rs.length≤k
 new:∀ i:Nat,i<x.orders.length→(i:Int) ∉ l.take k→cntO rs i≤0
theorem Qyw (hx:QbQ x) (h4:x.orders.length≤4) (hl:Qt6 x l):post (loopF (fun s=>QdF x l s.1 s.2.1 s.2.2) ([],[],0)) fun e=>∃ rs,e=(rs,[])∧GrI x l l.length rs:=by
 have hlen:=hl.len
 refine QcM (fun s:List Qad×List Int×Int=>∃ (k:Nat) (rs:List Qad),s=(rs,[],(k:Int))∧k≤l.length∧GrI x l k rs) (fun s=>l.length-s.2.2.toNat) ⟨0,[],rfl,Nat.zero_le _,⟨fun r hr=>by simp at hr,fun i hi=>by simp [cntO,sumF],fun t ty e=>?_⟩,by simp,fun i hi _=>by simp [cntO,sumF]⟩ (by simp; omega) ?_
 ·have hO:=hx.typ _ (List.mem_of_getElem? e)
  have:=hO.count
  simp [cntT,sumF]; omega
 rintro _ ⟨k,rs,rfl,hk,hi⟩
 show post (QdF x l rs [] (k:Int)) _
 unfold QdF
 rcases Nat.lt_or_ge k l.length with h|h
 ·have e:l[k]?=some l[k]:=List.getElem?_eq_getElem h
  have hm:=hl.1 _ (List.getElem_mem h)
  generalize l[k]=a at e hm
  obtain ⟨i,rfl⟩:∃ i:Nat,a=i:=⟨a.toNat,by omega⟩
  have hil:i<x.orders.length:=by omega
  rw [Qb1 e,Qv1 hil,Qah,incL e (by omega)]
  have hsub:∀ j:Nat,(j:Int) ∉ l.take (k+1)→(j:Int) ∉ l.take k:=fun j hj hjk=>hj (by rw [take_one e]; exact List.mem_append_left _ hjk)
  have stay:GrI x l (k+1) rs:=⟨hi.good,by have:=hi.len; omega,fun j hj hjn=>hi.new j hj (hsub j hjn)⟩
  have hstay:post (some (Sum.inl (rs,([]:List Int),(k:Int)+1):(List Qad×List Int×Int)⊕(List Qad×List Int))) fun y=>(∀ s',y=.inl s'→(∃ (k:Nat) (rs:List Qad),s'=(rs,[],(k:Int))∧k≤l.length∧GrI x l k rs)∧(l.length-s'.2.2.toNat)<l.length-((k:Int)).toNat)∧∀ e,y=.inr e→∃ rs,e=(rs,[])∧GrI x l l.length rs:=QdI ⟨⟨k+1,rs,rfl,h,stay⟩,by simp; omega⟩
  have hP:InsP (Qam.mk rs []) (i:Int):=hi.good.insP (p:=Qam.mk rs []) hx h4 hm (by have:=hi.len; show rs.length≤1000; omega)
  refine QaI (fun _=>hstay) (fun hoff=>?_)
  rw [Qxc hx hP,Qah]
  refine QaI (fun h0=>?_) (fun _=>hstay)
  rw [eqI_t] at h0
  refine QaR (Qyf hil _) fun b _=>QaI (fun _=>?_) (fun _=>hstay)
  unfold findX at h0 ⊢
  have hE:errP x (Qam.mk rs [])=0:=QwR fun r hr=>(hi.good.each r hr).2.2
  rw [if_neg (by simpa using hE)] at h0 ⊢
  unfold candF at h0 ⊢
  cases hc:candT x (Qam.mk rs []) (i:Int) x.types.length with
  | none=>rw [hc] at h0; cases h0
  | some c =>
   have hJ:=(JC.T hx hP (Qys hE).2 x.types.length (Nat.le_refl _) c hc).1
   simp only
   rw [QzP (p:=Qam.mk rs []) (by have:=hi.len; show rs.length≤1000; omega) (by simp) hJ,Qah]
   have hnot:(i:Int) ∉ l.take k:=fun hmem=>by
    have hn:=hl.2
    rw [← List.take_append_drop (k+1) l,take_one e,List.append_assoc,List.nodup_append] at hn
    exact hn.2.2 _ hmem _ (by simp) rfl
   obtain ⟨g1,g2,g3,g4⟩:=GoodP.with (p:=Qam.mk rs []) hx h4 hi.good hil (hi.new i hil hnot) (Qpj _ hc)
   refine QdI ⟨⟨k+1,_,rfl,h,g1,?_,fun j hj hjn=>?_⟩,by simp; omega⟩
   ·have:=hi.len
    have g4':(withS (Qam.mk rs []) (i:Int) c).routes.length≤rs.length+1:=g4
    omega
   ·rw [g2]
    have hji:(j:Int)≠(i:Int):=fun hji=>hjn (by rw [take_one e,hji]; simp)
    have:eqI (i:Int) (j:Int)=false:=by simp; omega
    rw [this]
    have hz:bit1 false=0:=rfl
    have:=hi.new j hj (hsub j hjn)
    show cntO rs j+bit1 false≤0
    omega
 ·obtain rfl:k=l.length:=by omega
  rw [Qbu]
  exact Qb2 ⟨rs,rfl,hi⟩
theorem Qx1 {us:List Int} {k:Nat}:(servB (Qam.mk rs us) (k:Int)=true→1≤cntO rs k)∧(servB (Qam.mk rs us) (k:Int)=false→cntO rs k=0):=by
 unfold servB
 simp only
 induction rs with
 | nil=>exact ⟨fun h=>by simp at h,fun _=>rfl⟩
 | cons a rs ih =>
  have e1:cntO (a :: rs) k=bit1 (hasO a.visits (k:Int))+cntO rs k:=by simp [cntO,sumF]
  have h0:=QqG (l:=rs) (o:=k)
  have h1:=Qi6 (b:=hasO a.visits (k:Int))
  rw [List.any_cons,e1]
  cases hh:hasO a.visits (k:Int) with
  | true =>
   have hz:bit1 true=1:=rfl
   exact ⟨fun _=>by omega,fun h=>by cases h⟩
  | false =>
   have hz:bit1 false=0:=rfl
   rw [Bool.false_or]
   exact ⟨fun h=>by have:=ih.1 h; omega,fun h=>by have:=ih.2 h; omega⟩
structure UnI (x:Qac) (rs:List Qad) (k:Nat) (us:List Int):Prop where
 len:us.length≤k
 inn:∀ a∈us,0≤a∧a<k
 at_:∀ (i:Nat) o,i<k→x.orders[i]?=some o→(o.off=true→cntU us i=0)∧(o.off=false→(1≤cntO rs i→cntU us i=0)∧(cntO rs i=0→cntU us i=1∧o.penalty≠-1))
theorem QzZ {us:List Int} {k:Nat} (h:∀ a∈us,0≤a∧a<k):cntU us k=0:=by
 induction us with
 | nil=>rfl
 | cons a us ih =>
  have e1:cntU (a :: us) k=bit1 (eqI a (k:Int))+cntU us k:=by simp [cntU,sumF]
  have ha:=h a (List.mem_cons_self ..)
  have:eqI a (k:Int)=false:=by simp; omega
  rw [e1,this,ih fun b hb=>h b (List.mem_cons_of_mem _ hb)]
  rfl
theorem Qyx (hx:QbQ x) (hg:GoodP x rs) (hl:rs.length≤1000):post (loopF (fun s=>QcX x rs s.1 s.2) ([],0)) fun e=>(∃ us,e=.inl us∧UnI x rs x.orders.length us)∨∃ q c,e=.inr (q,c)∧c≠0:=by
 have h10:=hx.orders
 refine QcM (fun s:List Int×Int=>∃ (k:Nat) (us:List Int),s=(us,(k:Int))∧k≤x.orders.length∧UnI x rs k us) (fun s=>x.orders.length-s.2.toNat) ⟨0,[],rfl,Nat.zero_le _,⟨by simp,fun a ha=>by simp at ha,fun i o hi=>by omega⟩⟩ (by simp; omega) ?_
 rintro _ ⟨k,us,rfl,hk,hu⟩
 show post (QcX x rs us (k:Int)) _
 unfold QcX
 rcases Nat.lt_or_ge k x.orders.length with h|h
 ·have e:x.orders[k]?=some x.orders[k]:=List.getElem?_eq_getElem h
  generalize x.orders[k]=od at e
  have hout:=QzZ hu.inn
  have up:∀ a∈us,0≤a∧a<((k+1:Nat):Int):=fun a ha=>by have:=hu.inn a ha; omega
  rw [Qb1 e,incL e (by omega)]
  have same:((od.off=true)∨1≤cntO rs k)→UnI x rs (k+1) us:=fun hc=>⟨by have:=hu.len; omega,up,fun i o hi ei=>by
   rcases Nat.lt_or_eq_of_le (Nat.le_of_lt_succ hi) with hlt|rfl
   ·exact hu.at_ i o hlt ei
   ·rw [e] at ei; cases ei
    refine ⟨fun _=>hout,fun hf=>⟨fun _=>hout,fun h0=>?_⟩⟩
    rcases hc with hc|hc
    ·rw [hc] at hf; cases hf
    ·omega⟩
  refine QaI (fun hoff=>QdI ⟨⟨k+1,us,rfl,h,same (.inl hoff)⟩,by simp; omega⟩) (fun hoff=>?_)
  rw [QvB (p:=Qam.mk rs us) hl (fun r hr=>by have:=(hg.each r hr).2.1; omega),Qah]
  refine QaI (fun hs=>QdI ⟨⟨k+1,us,rfl,h,same (.inr (Qx1.1 hs))⟩,by simp; omega⟩) (fun hs=>?_)
  have hc0:=Qx1.2 hs
  refine QaI (fun _=>Qb2 (.inr ⟨_,_,rfl,by decide⟩)) (fun hp=>?_)
  rw [eqI_f] at hp
  have hlen:=hu.len
  refine QbB (Qfw (by simp; omega)) (QdI ⟨⟨k+1,us++[(k:Int)],rfl,h,by simp; omega,fun a ha=>?_,fun i o hi ei=>?_⟩,by simp; omega⟩)
  ·rcases List.mem_append.1 ha with ha|ha
   ·exact up a ha
   ·rw [List.mem_singleton.1 ha]; omega
  ·have e2:cntU (us++[(k:Int)]) i=cntU us i+bit1 (eqI (k:Int) (i:Int)):=by unfold cntU; rw [Qot,Qou]
   rw [e2]
   rcases Nat.lt_or_eq_of_le (Nat.le_of_lt_succ hi) with hlt|rfl
   ·have:eqI (k:Int) (i:Int)=false:=by simp; omega
    rw [this,show bit1 false=0 from rfl,Int.add_zero]
    exact hu.at_ i o hlt ei
   ·rw [e] at ei; cases ei
    refine ⟨(fun hf=>by rw [hoff] at hf; cases hf),fun _=>⟨fun h1=>by omega,fun _=>⟨?_,hp⟩⟩⟩
    have:bit1 (eqI (i:Int) (i:Int))=1:=by simp [bit1]
    omega
 ·obtain rfl:k=x.orders.length:=by omega
  rw [Qbu]
  exact Qb2 (.inl ⟨us,rfl,hu⟩)
theorem Qyy (hx:QbQ x) (h4:x.orders.length≤4) (hl:l.length≤1048576):post (QhD x l) fun e=>e.2=0→QsC x e.1∧PlanI e.1∧∀ r∈e.1.routes,Qka r:=by
 have h10:=hx.orders
 unfold QhD
 refine QaR (Qyv (x:=x) hl) fun e he=>?_
 rcases he with ⟨u,rfl,hL⟩|⟨c,rfl,hc⟩
 ·rw [QfQ]
  refine QaR (Qyw hx h4 hL) fun e he=>?_
  obtain ⟨rs,rfl,hi⟩:=he
  have hlen:=hL.len
  have hrl:=hi.len
  refine QaR (Qyx (rs:=rs) hx hi.good (by omega)) fun e he=>?_
  rcases he with ⟨us,rfl,hu⟩|⟨q,c,rfl,hc⟩
  ·rw [QfQ]
   refine Qat.2 fun _=>?_
   have hG:=goodI hi.good (by omega) (us:=us) (by have:=hu.len; omega)
   refine ⟨QsC.of_good (rs:=rs) (us:=us) hx hi.good hu.inn (fun i hil=>?_) (fun i o ei ho=>?_) (fun i o ei ho=>?_),hG.1,hG.2⟩
   ·obtain ⟨u1,u2⟩:=hu.at_ i _ hil (List.getElem?_eq_getElem hil)
    have h1:=hi.good.once i hil
    have h0:=QqG (l:=rs) (o:=i)
    cases hf:x.orders[i].off with
    | true=>have:=u1 hf; omega
    | false =>
     obtain ⟨u3,u4⟩:=u2 hf
     rcases Int.lt_or_le (cntO rs i) 1 with h|h
     ·have:=(u4 (by omega)).1; omega
     ·have:=u3 h; omega
   ·have:=(hu.at_ i o (List.getElem?_eq_some_iff.1 ei).1 ei).1 ho; omega
   ·obtain ⟨u3,u4⟩:=(hu.at_ i o (List.getElem?_eq_some_iff.1 ei).1 ei).2 ho
    have h0:=QqG (l:=rs) (o:=i)
    rcases Int.lt_or_le (cntO rs i) 1 with h|h
    ·obtain ⟨a1,a2⟩:=u4 (by omega)
     exact ⟨by omega,fun h=>a2 h.2⟩
    ·have:=u3 h
     exact ⟨by omega,fun h=>by omega⟩
  ·rw [Qg6]; exact Qat.2 fun h=>absurd h hc
 ·rw [Qg6]; exact Qat.2 fun h=>absurd h hc
theorem QqO (x:Qac) (hI:InstI x) (p:Qam) (hP:PlanI p) (o:Int) (l:List Int) (hl:l.length≤1048576):Qfa x p o l=some true:=by
 apply post.eq
 unfold Qfa
 rw [Qtp]
 refine QaR (QBF hI) fun b hb=>QaI (fun _=>Qat.2 rfl) (fun h1=>?_)
 simp only [orF,Bool.not_eq_false',gtI_f,lenI] at h1
 have hx:=hb h1.1
 have h4:x.orders.length≤4:=by omega
 refine QaR (few41 hP.routes) fun b2 hb2=>QaI (fun h2=>?_) (fun _=>Qat.2 rfl)
 obtain ⟨hf,hs⟩:=hb2 h2
 have h9:∀ r∈p.routes,Qka r:=fun r hr=>by have:=hs r hr; unfold Qka; omega
 have rest:post (bnd (QgP x p) fun r5=>br (neI r5 0) (bnd (some true) fun r6=>some r6) (bnd (Qdx p.unserved o) fun r7=>br r7 (bnd (QiJ x p o) fun r8=>br (neI r8.2 0) (br (eqI r8.2 24) (bnd (some true) fun r9=>some r9) (some false)) (bnd (QgP x r8.1) fun r10=>br (eqI r10 0) (bnd (Qdx r8.1.unserved o) fun r11=>br (((!r11)&&(eqI (lenI r8.1.unserved) (subK .i64 (lenI p.unserved) 1)))&&(geI (lenI r8.1.routes) (lenI p.routes))) (bnd (some true) fun r12=>some r12) (some false)) (some false))) (bnd (some true) fun r13=>some r13))) fun b=>b=true:=by
  refine QaR (QsH hx hP h9) fun c hc=>QaI (fun _=>Qat.2 rfl) (fun h3=>?_)
  rw [neI_f] at h3
  have hok:=hc.1 h3
  rw [Qw8 hP.unserved,Qah]
  refine QaI (fun hm=>?_) (fun _=>Qat.2 rfl)
  obtain ⟨a,ha,hao⟩:=List.any_eq_true.1 hm
  rw [eqI_t] at hao
  subst hao
  have har:=hok.inn a ha
  obtain ⟨k,rfl⟩:∃ k:Nat,a=k:=⟨a.toNat,by omega⟩
  have hg:=Qzv hx h4 hP hs hok
  rw [QAd hx (hg.insP hx h4 har (by omega)) hP.unserved,Qah]
  rcases QBz hx h4 hP hf hs hok ha with ⟨c,e,q1,q2,q3,q4,q5,q6,q7⟩|e
  ·rw [e,QaY (by rfl)]
   refine QaR (QsH hx q2 q3) fun c2 hc2=>?_
   rw [Qbc (by simpa using hc2.2 q1),Qw8 q7,Qah,q4]
   have hu0:p.unserved.length≠0:=fun h0=>by rw [List.eq_nil_of_length_eq_zero h0] at ha; cases ha
   have hpu:=hP.unserved
   rw [subI (by simp [lenI]; omega) (by simp [lenI]; omega),Qbc (by simp [lenI]; omega)]
   exact Qat.2 rfl
  ·rw [e,Qbc (by rfl),Qbc (by rfl)]
   exact Qat.2 rfl
 refine QaR (Qyy hx h4 hl) fun e he=>QaI (fun h0=>?_) (fun _=>rest)
 obtain ⟨g1,g2,g3⟩:=he (by simpa using h0)
 refine QaR (QsH hx g2 g3) fun c hc=>?_
 rw [QaY (by simpa using hc.2 g1)]
 exact rest
end
end Go.Proofs.YtpkkaboonnedfaaGreatDoor
namespace Go.Proofs.YtpkkaboonnedfaaGreatDoor
set_option linter.unusedSimpArgs false
set_option linter.unusedVariables false
set_option linter.unusedSectionVars false
noncomputable def lossX (x:Qac) (i:Nat):Int:=match x.orders[i]? with
 | some q=>((QeS (QaG.mk q.penalty (if q.now=-1 then 0 else 1) 0 0)).getD (0,0)).1
 | none=>0
def penX (x:Qac) (i:Nat):Int:=match x.orders[i]? with
 | some q=>q.penalty
 | none=>0
noncomputable def wrtB (x:Qac) (i:Nat) (inc:Int):Bool:=decide (penX x i=-1)||ltI inc (lossX x i)
noncomputable def stepG (x:Qac) (rs:List Qad) (a:Int):List Qad :=
 if offN x a.toNat=true then rs else match candF x (Qam.mk rs []) a with
  | none=>rs
  | some c=>if wrtB x a.toNat c.2.2=true then (withS (Qam.mk rs []) a c).routes else rs
noncomputable def grS (x:Qac) (l:List Int):Nat→List Qad
 | 0=>[]
 | k+1=>match l[k]? with
  | some a=>stepG x (grS x l k) a
  | none=>grS x l k
section
variable {x : Qac} {r : Qad} {l : List Int} {v : Qab} {o : Int} {s : Option Cnd} {p : Qam} {n : Nat} {c : Cnd} {rs : List Qad}
theorem GrI.step (hx:QbQ x) (h4:x.orders.length≤4) (hl:Qt6 x l) {k:Nat} {a:Int} (e:l[k]?=some a) (hi:GrI x l k rs):GrI x l (k+1) (stepG x rs a):=by
 have hm:=hl.1 _ (List.mem_of_getElem? e)
 have hlen:=hl.len
 have hkl:=(List.getElem?_eq_some_iff.1 e).1
 obtain ⟨i,rfl⟩:∃ i:Nat,a=i:=⟨a.toNat,by omega⟩
 have hil:i<x.orders.length:=by omega
 have hsub:∀ j:Nat,(j:Int) ∉ l.take (k+1)→(j:Int) ∉ l.take k:=fun j hj hjk=>hj (by rw [take_one e]; exact List.mem_append_left _ hjk)
 have stay:GrI x l (k+1) rs:=⟨hi.good,by have:=hi.len; omega,fun j hj hjn=>hi.new j hj (hsub j hjn)⟩
 unfold stepG
 split
 ·exact stay
 ·unfold candF
  cases hc:candT x (Qam.mk rs []) (i:Int) x.types.length with
  | none=>exact stay
  | some c =>
   simp only
   split
   ·have hnot:(i:Int) ∉ l.take k:=fun hmem=>by
     have hn:=hl.2
     rw [← List.take_append_drop (k+1) l,take_one e,List.append_assoc,List.nodup_append] at hn
     exact hn.2.2 _ hmem _ (by simp) rfl
    obtain ⟨g1,g2,g3,g4⟩:=GoodP.with (p:=Qam.mk rs []) hx h4 hi.good hil (hi.new i hil hnot) (Qpj _ hc)
    refine ⟨g1,?_,fun j hj hjn=>?_⟩
    ·have:=hi.len
     have g4':(withS (Qam.mk rs []) (i:Int) c).routes.length≤rs.length+1:=g4
     omega
    ·rw [g2]
     have hji:(j:Int)≠(i:Int):=fun hji=>hjn (by rw [take_one e,hji]; simp)
     have:eqI (i:Int) (j:Int)=false:=by simp; omega
     rw [this]
     have hz:bit1 false=0:=rfl
     have:=hi.new j hj (hsub j hjn)
     show cntO rs j+bit1 false≤0
     omega
   ·exact stay
theorem GrI.all (hx:QbQ x) (h4:x.orders.length≤4) (hl:Qt6 x l):∀ k,k≤l.length→GrI x l k (grS x l k)
 | 0,_=>⟨⟨fun r hr=>by simp [grS] at hr,fun i hi=>by simp [cntO,sumF,grS],fun t ty e=>by
  have hO:=hx.typ _ (List.mem_of_getElem? e)
  have:=hO.count
  simp [cntT,sumF,grS]; omega⟩,by simp [grS],fun i hi _=>by simp [cntO,sumF,grS]⟩
 | k+1,h=>by
  have e:l[k]?=some l[k]:=List.getElem?_eq_getElem (by omega)
  rw [grS,e]
  exact (GrI.all hx h4 hl k (by omega)).step hx h4 hl e
end
end Go.Proofs.YtpkkaboonnedfaaGreatDoor
