/- Part MX of the proof: texts Yua Yub Yuc Yud Yue Yva Yvb Yvc Yvd Yve. -/
import Derived.Test.YtpkkaboonnedfaaGreatDoorMR
namespace Go.Proofs.YtpkkaboonnedfaaGreatDoor
set_option linter.unusedSimpArgs false
set_option linter.unusedVariables false
set_option linter.unusedSectionVars false
def ltV (a b:Qaa):Bool:=ltI a.order b.order||(eqI a.order b.order&&(!a.drop&&b.drop))
theorem ltV_t {a b:Qaa}:ltV a b=true↔a.order<b.order∨(a.order=b.order∧a.drop=false∧b.drop=true):=by
 unfold ltV
 simp
theorem QA6 {a:Qaa}:ltV a a=false:=by
 rw [Bool.eq_false_iff]
 intro h
 rw [ltV_t] at h
 rcases h with h|⟨_,h1,h2⟩
 ·omega
 ·rw [h1] at h2; cases h2
theorem QAo {a b c:Qaa} (h1:ltV a b=true) (h2:ltV b c=true):ltV a c=true:=by
 rw [ltV_t] at *
 rcases h1 with h1|⟨h1,h3,h4⟩ <;> rcases h2 with h2|⟨h2,h5,h6⟩
 ·exact .inl (by omega)
 ·exact .inl (by omega)
 ·exact .inl (by omega)
 ·rw [h4] at h5; cases h5
theorem QCG (a b:Qaa):a=b∨ltV a b=true∨ltV b a=true:=by
 rcases Int.lt_trichotomy a.order b.order with h|h|h
 ·exact .inr (.inl (ltV_t.2 (.inl h)))
 ·cases ha:a.drop <;> cases hb:b.drop
  ·exact .inl (by cases a; cases b; simp_all)
  ·exact .inr (.inl (ltV_t.2 (.inr ⟨h,ha,hb⟩)))
  ·exact .inr (.inr (ltV_t.2 (.inr ⟨h.symm,hb,ha⟩)))
  ·exact .inl (by cases a; cases b; simp_all)
 ·exact .inr (.inr (ltV_t.2 (.inl h)))
def lessV:List Qaa→List Qaa→Bool
 | [],[]=>false
 | [],_ :: _=>true
 | _ :: _,[]=>false
 | a :: l,b :: m=>ltV a b||(decide (a=b)&&lessV l m)
theorem Qw4:∀ {l:List Qaa},lessV l l=false
 | []=>rfl
 | a :: l=>by unfold lessV; rw [QA6,Qw4]; simp
theorem Quv:∀ {a b c:List Qaa},lessV a b=true→lessV b c=true→lessV a c=true
 | [],[],_,h,_=>by cases h
 | _ :: _,[],_,h,_=>by cases h
 | [],_ :: _,[],_,h=>by cases h
 | [],_ :: _,_ :: _,_,_=>rfl
 | _ :: _,_ :: _,[],_,h=>by cases h
 | x :: a,y :: b,z :: c,h1,h2=>by
  unfold lessV at *
  simp only [Bool.or_eq_true,Bool.and_eq_true,decide_eq_true_iff] at *
  rcases h1 with h1|⟨rfl,h1⟩
  ·rcases h2 with h2|⟨rfl,h2⟩
   ·exact .inl (QAo h1 h2)
   ·exact .inl h1
  ·rcases h2 with h2|⟨rfl,h2⟩
   ·exact .inl h2
   ·exact .inr ⟨rfl,Quv h1 h2⟩
theorem Qw5:∀ (a b:List Qaa),a=b∨lessV a b=true∨lessV b a=true
 | [],[]=>.inl rfl
 | [],_ :: _=>.inr (.inl rfl)
 | _ :: _,[]=>.inr (.inr rfl)
 | x :: a,y :: b=>by
  unfold lessV
  simp only [Bool.or_eq_true,Bool.and_eq_true,decide_eq_true_iff]
  rcases QCG x y with rfl|h|h
  ·rcases Qw5 a b with rfl|h|h
   ·exact .inl rfl
   ·exact .inr (.inl (.inr ⟨rfl,h⟩))
   ·exact .inr (.inr (.inr ⟨rfl,h⟩))
  ·exact .inr (.inl (.inl h))
  ·exact .inr (.inr (.inl h))
abbrev Ky:=Int×List Qaa
def kLt (k q:Ky):Prop:=k.1<q.1∨(k.1=q.1∧lessV k.2 q.2=true)
theorem QyX {k:Ky}:¬ kLt k k:=by
 rintro (h|⟨_,h⟩)
 ·omega
 ·rw [Qw4] at h; cases h
theorem QAk {a b c:Ky} (h1:kLt a b) (h2:kLt b c):kLt a c:=by
 rcases h1 with h1|⟨h1,h3⟩ <;> rcases h2 with h2|⟨h2,h4⟩
 ·exact .inl (by omega)
 ·exact .inl (by omega)
 ·exact .inl (by omega)
 ·exact .inr ⟨by omega,Quv h3 h4⟩
theorem QCE (a b:Ky):a=b∨kLt a b∨kLt b a:=by
 rcases Int.lt_trichotomy a.1 b.1 with h|h|h
 ·exact .inr (.inl (.inl h))
 ·rcases Qw5 a.2 b.2 with h'|h'|h'
  ·exact .inl (Prod.ext h h')
  ·exact .inr (.inl (.inr ⟨h,h'⟩))
  ·exact .inr (.inr (.inr ⟨h.symm,h'⟩))
 ·exact .inr (.inr (.inl h))
theorem QAj {a b c:Ky} (h1:¬ kLt a b) (h2:¬ kLt b c):¬ kLt a c:=fun h=>by
 rcases QCE b c with rfl|h3|h3
 ·exact h1 h
 ·exact h2 h3
 ·exact h1 (QAk h h3)
def Bst (S:Ky→Prop) (s t:Option Ky):Prop:=(∀ k,t=some k→s=some k∨S k)∧(∀ k,(s=some k∨S k)→∃ k',t=some k'∧¬ kLt k k')
theorem Bst.none {S:Ky→Prop} {s:Option Ky} (h:∀ k,¬ S k):Bst S s s :=
 ⟨fun k e=>.inl e,fun k e=>e.elim (fun e=>⟨k,e,QyX⟩) fun e=>absurd e (h k)⟩
theorem Bst.comp {S T:Ky→Prop} {s t u:Option Ky} (h1:Bst S s t) (h2:Bst T t u):Bst (fun k=>S k∨T k) s u:=by
 refine ⟨fun k e=>?_,fun k e=>?_⟩
 ·rcases h2.1 k e with e|e
  ·rcases h1.1 k e with e|e
   ·exact .inl e
   ·exact .inr (.inl e)
  ·exact .inr (.inr e)
 ·have go:(s=some k∨S k)→∃ k',u=some k'∧¬ kLt k k':=fun e=>by
   obtain ⟨a,ha,hl⟩:=h1.2 k e
   obtain ⟨b,hb,hm⟩:=h2.2 a (.inl ha)
   exact ⟨b,hb,QAj hl hm⟩
  rcases e with e|e|e
  ·exact go (.inl e)
  ·exact go (.inr e)
  ·exact h2.2 k (.inr e)
theorem Bst.congr {S T:Ky→Prop} {s t:Option Ky} (h:Bst S s t) (he:∀ k,S k↔T k):Bst T s t :=
 ⟨fun k e=>(h.1 k e).imp id (he k).1,fun k e=>h.2 k (e.imp id (he k).2)⟩
theorem Bst.one {S:Ky→Prop} {k:Ky} (hS:∀ q,S q↔q=k) {s t:Option Ky} (h:(t=some k∧∀ q,s=some q→¬ kLt q k)∨(t=s∧∃ q,s=some q∧¬ kLt k q)):Bst S s t:=by
 rcases h with ⟨rfl,h⟩|⟨rfl,q,rfl,h⟩
 ·refine ⟨fun q e=>.inr ((hS q).2 (Option.some.inj e).symm),fun q e=>⟨k,rfl,?_⟩⟩
  rcases e with e|e
  ·exact h q e
  ·rw [(hS q).1 e]; exact QyX
 ·refine ⟨fun q e=>.inl e,fun q' e=>?_⟩
  rcases e with e|e
  ·exact ⟨q',e,QyX⟩
  ·rw [(hS q').1 e]; exact ⟨q,rfl,h⟩
theorem Bst.nil {S:Ky→Prop} {s:Option Ky} (h:∀ k,¬ S k):Bst S s s:=Bst.none h
theorem Bst.more {α:Type} {T:α→Ky→Prop} {l:List α} {i:Nat} {a:α} {s t u:Option Ky} (h:Bst (fun k=>∃ b∈l.take i,T b k) s t) (ha:l[i]?=some a) (h2:Bst (T a) t u):Bst (fun k=>∃ b∈l.take (i+1),T b k) s u:=by
 refine (h.comp h2).congr fun k=>?_
 rw [Qqp ha]
 constructor
 ·rintro (⟨b,hb,h⟩|h)
  ·exact ⟨b,List.mem_append_left _ hb,h⟩
  ·exact ⟨a,by simp,h⟩
 ·rintro ⟨b,hb,h⟩
  rcases List.mem_append.1 hb with hb|hb
  ·exact .inl ⟨b,hb,h⟩
  ·rw [List.mem_singleton.1 hb] at h; exact .inr h
end Go.Proofs.YtpkkaboonnedfaaGreatDoor
namespace Go.Proofs.YtpkkaboonnedfaaGreatDoor
set_option linter.unusedSimpArgs false
set_option linter.unusedVariables false
set_option linter.unusedSectionVars false
def headV (v:Qaa):List Qaa→List Qaa
 | []=>[]
 | w :: r=>if w=v then [] else w :: headV v r
def QCQ (x:Qac) (l:List Qaa) (o:Int):Bool:=x.before.all fun p=>!eqI p.x1 o||(visO x p.x0).all fun w=>l.any (isV w)
def QCR (x:Qac) (l:List Qaa) (v:Qaa):Bool:=!l.any (isV v)&&((headV v (visO x v.order)).all (fun w=>l.any (isV w))&&QCQ x l v.order)
def offN (x:Qac) (i:Nat):Bool:=match x.orders[i]? with
 | some o=>o.off
 | none=>true
structure GoodL (x:Qac) (l:List Qaa):Prop where
 nodup:l.Nodup
 inn:∀ v∈l,0≤v.order∧v.order<x.orders.length
section
variable {x : Qac} {l t : List Qaa} {m : Nat} {v w : Qaa}
theorem QvW {o:Int} (h:v∈visO x o):v.order=o:=by
 unfold visO at h
 split at h
 ·rcases List.mem_append.1 h with h|h <;> (split at h <;> simp at h; rw [h])
 ·cases h
theorem GoodL.add (h:GoodL x l) (hv:v ∉ l) (h0:0≤v.order∧v.order<x.orders.length):GoodL x (l++[v]):=by
 refine ⟨List.nodup_append.2 ⟨h.nodup,by simp,fun a ha b hb=>?_⟩,fun w hw=>?_⟩
 ·rw [List.mem_singleton.1 hb]; exact fun e=>hv (e ▸ ha)
 ·rcases List.mem_append.1 hw with hw|hw
  ·exact h.inn w hw
  ·rw [List.mem_singleton.1 hw]; exact h0
theorem GoodL.len (h:GoodL x l):l.length≤2*x.orders.length:=by
 have hm:(l.map fun v:Qaa=>2*v.order.toNat+(if v.drop=true then 1 else 0)).Nodup:=by
  unfold List.Nodup
  rw [List.pairwise_map]
  refine h.nodup.imp_of_mem fun {a b} ha hb hne he=>hne ?_
  have h1:=h.inn a ha
  have h2:=h.inn b hb
  cases a with
  | mk ao ad =>
   cases b with
   | mk bo bd =>
    simp only at h1 h2 he
    have hd:ad=bd∧ao=bo:=by
     cases ad <;> cases bd <;> simp at he ⊢ <;> omega
    rw [hd.1,hd.2]
 have:=QuX (2*x.orders.length) _ hm fun a ha=>by
  obtain ⟨v,hv,rfl⟩:=List.mem_map.1 ha
  have h1:=h.inn v hv
  split <;> omega
 simpa using this
theorem SeqOK.good (h:SeqOK x l):GoodL x l:=⟨h.nodup,fun v hv=>Qo8 h.inn hv⟩
theorem SeqOK.all (h:SeqOK x l) {o:Int} (ho:hasO l o=true) (hw:w∈visO x o):w∈l:=by
 obtain ⟨v,hv,rfl⟩:=Quc.1 ho
 have hp:=h.pair v hv
 unfold pairV at hp
 rw [Bool.and_eq_true] at hp
 have hr:=hp.2
 cases hvis:visO x v.order with
 | nil=>rw [hvis] at hw; cases hw
 | cons a r =>
  rw [hvis] at hr hw
  cases r with
  | nil =>
   simp only [rowB,geI_t] at hr
   rw [List.mem_singleton.1 hw]
   exact QyW.1 hr
  | cons b r =>
   obtain ⟨rfl,_⟩:=QwE hvis
   simp only [rowB,geI_t,Bool.and_eq_true,ltI_t] at hr
   rcases List.mem_cons.1 hw with rfl|hw
   ·exact QyW.1 hr.1
   ·rw [List.mem_singleton.1 hw]
    exact QyW.1 (by omega)
theorem SeqOK.own (h:SeqOK x l) (hv:v∈l):v∈visO x v.order:=by
 have hp:=h.pair v hv
 unfold pairV at hp
 rw [Bool.and_eq_true] at hp
 exact any_V.1 hp.1
theorem QC8 (h:(l++v :: t).Nodup):ixI (isV v) (l++v :: t)=(l.length:Int):=by
 have h0:=QyW.2 (show v∈l++v :: t by simp)
 obtain ⟨k,hk⟩:∃ k:Nat,ixI (isV v) (l++v :: t)=k:=⟨(ixI (isV v) (l++v :: t)).toNat,by omega⟩
 obtain ⟨h1,h2⟩:=Qvv hk
 rw [hk]
 rcases Nat.lt_trichotomy k l.length with h3|h3|h3
 ·rw [List.getElem?_append_left h3] at h1
  exact absurd rfl ((List.nodup_append.1 h).2.2 v (List.mem_of_getElem? h1) v (by simp))
 ·rw [h3]
 ·exact absurd (by rw [List.getElem?_append_right (Nat.le_refl _)]; simp) (h2 l.length h3)
theorem ix_lt (h:ixI (isV w) (l++t)<(l.length:Int)) (h0:0≤ixI (isV w) (l++t)):w∈l:=by
 obtain ⟨k,hk⟩:∃ k:Nat,ixI (isV w) (l++t)=k:=⟨(ixI (isV w) (l++t)).toNat,by omega⟩
 obtain ⟨h1,_⟩:=Qvv hk
 rw [List.getElem?_append_left (by omega)] at h1
 exact List.mem_of_getElem? h1
theorem SeqOK.head (h:SeqOK x (l++v :: t)) (hw:w∈headV v (visO x v.order)):w∈l:=by
 have hp:=h.pair v (by simp)
 unfold pairV at hp
 rw [Bool.and_eq_true] at hp
 obtain ⟨h1,hr⟩:=hp
 have hv:=any_V.1 h1
 have hix:=QC8 h.nodup
 cases hvis:visO x v.order with
 | nil=>rw [hvis] at hw; cases hw
 | cons a r =>
  rw [hvis] at hr hw hv
  cases r with
  | nil =>
   rw [headV,if_pos (List.mem_singleton.1 hv).symm] at hw
   cases hw
  | cons b r =>
   obtain ⟨rfl,hne⟩:=QwE hvis
   by_cases ha:a=v
   ·rw [headV,if_pos ha] at hw; cases hw
   ·have hb:b=v:=by
     rcases List.mem_cons.1 hv with h|h
     ·exact absurd h.symm ha
     ·exact (List.mem_singleton.1 h).symm
    rw [headV,if_neg ha,headV,if_pos hb] at hw
    rw [List.mem_singleton.1 hw]
    simp only [rowB,geI_t,Bool.and_eq_true,ltI_t] at hr
    rw [hb,hix] at hr
    exact ix_lt hr.2 hr.1
theorem Qz1 (h:SeqOK x (l++v :: t)) {p:QaO} (hp:p∈x.before) (ho:p.x1=v.order) (hw:w∈visO x p.x0):w∈l:=by
 have hb:hasO (l++v :: t) p.x1=true:=Quc.2 ⟨v,by simp,ho.symm⟩
 have h1:badB (l++v :: t) p=false:=by simpa using List.any_eq_false.1 h.before p hp
 unfold badB at h1
 rw [hb,Bool.true_and] at h1
 simp only [Bool.or_eq_false_iff,Bool.not_eq_false'] at h1
 obtain ⟨h2,h3⟩:=h1
 have hm:=h.all h2 hw
 rcases List.mem_append.1 hm with hm|hm
 ·exact hm
 ·exfalso
  unfold lateB at h3
  cases e:ixP (isO p.x1) (l++v :: t) with
  | none =>
   have:=QuR e v (by simp)
   rw [isO_t.2 ho.symm] at this
   cases this
  | some k =>
   rw [e] at h3
   simp only at h3
   have hk:k≤l.length:=Nat.le_of_not_lt fun hlt=>by
    have:=(QpI e).2.2 l.length hlt
    rw [List.getElem_append_right (Nat.le_refl _)] at this
    simp only [Nat.sub_self,List.getElem_cons_zero] at this
    rw [isO_t.2 ho.symm] at this
    cases this
   have:hasO ((l++v :: t).drop k) p.x0=true:=Quc.2 ⟨w,by rw [List.drop_append_of_le_length hk]; exact List.mem_append_right _ hm,QvW hw⟩
   rw [this] at h3
   cases h3
theorem SeqOK.ready (h:SeqOK x (l++v :: t)):QCR x l v=true:=by
 unfold QCR
 have hn:v ∉ l:=fun hv=>(List.nodup_append.1 h.nodup).2.2 v hv v (by simp) rfl
 have e1:l.any (isV v)=false:=by rw [Bool.eq_false_iff,Ne,any_V]; exact hn
 rw [e1,Bool.not_false,Bool.true_and,Bool.and_eq_true,List.all_eq_true]
 refine ⟨fun w hw=>any_V.2 (h.head hw),?_⟩
 unfold QCQ
 rw [List.all_eq_true]
 intro p hp
 by_cases ho:p.x1=v.order
 ·rw [Bool.or_eq_true]
  exact .inr (List.all_eq_true.2 fun w hw=>any_V.2 (Qz1 h hp ho hw))
 ·rw [Bool.or_eq_true]
  exact .inl (by simpa using ho)
end
end Go.Proofs.YtpkkaboonnedfaaGreatDoor
namespace Go.Proofs.YtpkkaboonnedfaaGreatDoor
set_option linter.unusedSimpArgs false
set_option linter.unusedVariables false
set_option linter.unusedSectionVars false
section
variable {x : Qac} {l : List Qaa} {m : Nat} {v : Qaa}
theorem QCD {a:Qaa}:(eqI a.order v.order&&(eqB a.drop v.drop&&true))=isV v a:=by
 rw [Bool.eq_iff_iff,isV_t]; cases v; cases a; simp
end
end Go.Proofs.YtpkkaboonnedfaaGreatDoor
namespace Go.Proofs.YtpkkaboonnedfaaGreatDoor
set_option linter.unusedSimpArgs false
set_option linter.unusedVariables false
set_option linter.unusedSectionVars false
def cmpI (a b:Int):Int:=if a<b then -1 else if b<a then 1 else 0
def cmpV (a b:Qaa):Int:=if cmpI a.order b.order≠0 then cmpI a.order b.order else cmpI (if a.drop=true then 1 else 0) (if b.drop=true then 1 else 0)
theorem QAS (a b:Int):QfM a b=some (cmpI a b):=by
 unfold QfM QiE cmpI
 rw [Qaj,Qaj,show neI a a=false by simp,show neI b b=false by simp,QiD,QiD,brs,brs]
 simp only [ltI_t,gtI_t]
theorem Qyr {a b:Int}:cmpI a b=0↔a=b:=by unfold cmpI; split <;> (try split) <;> omega
theorem QAT {a b:Int}:cmpI a b<0↔a<b:=by unfold cmpI; split <;> (try split) <;> omega
theorem QBq (a b:Int):QnB [a,b]=some (if a≠0 then a else b):=by
 unfold QnB
 have g0:QdN [a,b] 0=some (if a≠0 then .inr (.inr a) else .inl 1):=by
  unfold QdN
  rw [show br (ltI 0 (lenI [a,b])) (bnd (getI [a,b] 0) fun x0=>br (neI x0 0) (some (.inr (.inr x0))) (some (.inl (addK .i64 0 1)))) (some (.inr (.inl ())))=br (neI a 0) (some (.inr (.inr a):Int⊕(Unit⊕Int))) (some (.inl 1)) from rfl,brs]
  simp only [neI_t]
 have g1:QdN [a,b] 1=some (if b≠0 then .inr (.inr b) else .inl 2):=by
  unfold QdN
  rw [show br (ltI 1 (lenI [a,b])) (bnd (getI [a,b] 1) fun x0=>br (neI x0 0) (some (.inr (.inr x0))) (some (.inl (addK .i64 1 1)))) (some (.inr (.inl ())))=br (neI b 0) (some (.inr (.inr b):Int⊕(Unit⊕Int))) (some (.inl 2)) from rfl,brs]
  simp only [neI_t]
 have g2:QdN [a,b] 2=some (.inr (.inl ())):=rfl
 have key:loopF (fun s=>QdN [a,b] s) 0=some (if a≠0 then .inr a else if b≠0 then .inr b else .inl ()):=by
  refine QtH 3 (by decide) ?_
  simp only [iterF]
  rw [g0]
  by_cases ha:a≠0
  ·rw [if_pos ha,if_pos ha]
  ·rw [if_neg ha,if_neg ha]
   simp only
   rw [g1]
   by_cases hb:b≠0
   ·rw [if_pos hb,if_pos hb]
   ·rw [if_neg hb,if_neg hb]
    simp only
    rw [g2]
 rw [QdA key]
 by_cases ha:a≠0
 ·rw [if_pos ha,if_pos ha,QmD]
 ·rw [if_neg ha,if_neg ha]
  by_cases hb:b≠0
  ·rw [if_pos hb,QmD]
  ·rw [if_neg hb,Qhm]
   congr 1; omega
theorem QCn (a b:Qaa):Qhn a b=some (cmpV a b):=by
 have h1:∀ v:Qaa,QeO v=some (if v.drop=true then 1 else 0):=fun v=>by unfold QeO; rw [brs]
 unfold Qhn cmpV
 rw [QAS,Qaj,h1,Qaj,h1,Qaj,QAS,Qaj,QBq,Qaj]
theorem QCm {a b:Qaa}:cmpV a b=0↔a=b:=by
 unfold cmpV
 cases a; cases b
 simp only [ne_eq,Qyr,Qaa.mk.injEq]
 split
 ·rename_i h
  rw [Qyr]
  exact ⟨fun h'=>absurd h' h,fun h'=>absurd h'.1 h⟩
 ·rename_i h
  rw [Qyr]
  rename_i d _ e
  cases d <;> cases e <;> simp_all
theorem QCo {a b:Qaa}:ltI (cmpV a b) 0=ltV a b:=by
 rw [Bool.eq_iff_iff,ltI_t,ltV_t]
 unfold cmpV
 split
 ·rename_i h
  rw [QAT]
  rw [Ne,Qyr] at h
  exact ⟨fun h'=>.inl h',fun h'=>h'.elim id fun h'=>absurd h'.1 h⟩
 ·rename_i h
  simp only [ne_eq,Qyr,Classical.not_not] at h
  rw [QAT]
  cases a.drop <;> cases b.drop <;> simp <;> omega
theorem QpJ:∀ {k:Nat} {a b:List Qaa},(∀ j,j<k→∃ u,a[j]?=some u∧b[j]?=some u)→lessV a b=lessV (a.drop k) (b.drop k)
 | 0,_,_,_=>rfl
 | k+1,a,b,h=>by
  obtain ⟨u,h1,h2⟩:=h 0 (by omega)
  cases a with
  | nil=>simp at h1
  | cons x a =>
   cases b with
   | nil=>simp at h2
   | cons y b =>
    simp at h1 h2
    subst h1
    subst h2
    rw [lessV,QA6,List.drop_succ_cons,List.drop_succ_cons,← QpJ (k:=k) (a:=a) (b:=b) fun j hj=>by simpa using h (j+1) (by omega)]
    simp
def difN (a b:List Qaa) (k:Nat):Bool:=match a[k]?,b[k]? with
 | some u,some w=>!decide (u=w)
 | some _,none=>true
 | _,_=>false
theorem QwT {a b:List Qaa} {k:Nat} (h:k<a.length) (hd:difN a b k=false):∃ u,a[k]?=some u∧b[k]?=some u:=by
 unfold difN at hd
 rw [List.getElem?_eq_getElem h] at hd ⊢
 cases hb:b[k]? with
 | none=>rw [hb] at hd; cases hd
 | some w =>
  rw [hb] at hd
  simp only [Bool.not_eq_false',decide_eq_true_iff] at hd
  exact ⟨_,rfl,by rw [hd]⟩
theorem QCg {a b:List Qaa} (ha:a.length≤1048576) (hb:b.length≤1048576):QkQ a b=some (lessV a b):=by
 unfold QkQ QaP
 rcases QAF (B:=fun s=>Qar a b s) (n:=a.length) ha (difN a b) (fun k=>(.inr (match a[k]?,b[k]? with|some u,some w=>cmpV u w|_,_=>1):Unit⊕Int)) (N:=.inl ()) (fun i hi=>by
  have e:a[i]?=some a[i]:=List.getElem?_eq_getElem hi
  show Qar a b i=_
  unfold Qar difN
  rw [QdI e,incL e ha,e]
  generalize a[i]=u at e
  cases hb2:b[i]? with
  | none =>
   rw [Qa4 (by simp only [geI_t,lenI]; have:=List.getElem?_eq_none_iff.1 hb2; omega)]
   rfl
  | some w =>
   rw [QaV (by have:=(List.getElem?_eq_some_iff.1 hb2).1; simp [lenI]; omega),QaW hb2,Qaj,QCn,Qaj,brs]
   by_cases hq:u=w
   ·rw [if_neg (by simp only [neI_t,Classical.not_not,ne_eq]; exact QCm.2 hq),if_neg (by simp [hq])]
   ·rw [if_pos (by simp only [neI_t,ne_eq]; exact fun h=>hq (QCm.1 h)),if_pos (by simp [hq])]) (by
  show Qar a b a.length=_
  unfold Qar
  rw [QcJ]) with ⟨k,h1,h2,h3,h4⟩|⟨h1,h4⟩
 ·rw [QdA h4,QmD,Qaj]
  rw [QpJ (k:=k) fun j hj=>QwT (by omega) (h3 j hj)]
  unfold difN at h2
  rw [List.drop_eq_getElem_cons h1]
  rw [List.getElem?_eq_getElem h1] at h2 ⊢
  cases hb2:b[k]? with
  | none =>
   rw [List.drop_eq_nil_of_le (List.getElem?_eq_none_iff.1 hb2)]
   rfl
  | some w =>
   obtain ⟨g1,g2⟩:=List.getElem?_eq_some_iff.1 hb2
   rw [hb2] at h2
   simp only [Bool.not_eq_true',decide_eq_false_iff_not] at h2
   rw [List.drop_eq_getElem_cons g1,lessV,g2]
   simp only
   rw [QCo,decide_eq_false h2,Bool.false_and,Bool.or_false]
 ·rw [QdA h4,Qhm]
  rw [QpJ (k:=a.length) fun j hj=>QwT hj (h1 j hj),List.drop_length,brs,Qaj]
  by_cases hl:a.length<b.length
  ·rw [if_pos (by simp [lenI]; omega),List.drop_eq_getElem_cons hl]; rfl
  ·rw [if_neg (by simp [lenI]; omega),List.drop_eq_nil_of_le (by omega)]; rfl
theorem QzT {a b:List Qaa} (ha:a.length≤1048576) (hb:b.length≤1048576):QhS a b=some (lessV a b):=by
 unfold QhS
 have hmin:min a.length b.length≤1048576:=by omega
 rcases QAF (B:=fun s=>QcN a b s) (n:=min a.length b.length) hmin (difN a b) (fun k=>(.inr (match a[k]?,b[k]? with|some u,some w=>ltV u w|_,_=>false):Unit⊕Bool)) (N:=.inl ()) (fun i hi=>by
  have e:a[i]?=some (a[i]'(by omega)):=List.getElem?_eq_getElem _
  have e2:b[i]?=some (b[i]'(by omega)):=List.getElem?_eq_getElem _
  show QcN a b i=_
  unfold QcN difN QiX
  rw [Qa4 (by simp [lenI]; omega),QaW e,Qaj,QaW e2,Qaj,incL e ha,e,e2,Qaj]
  generalize a[i]'(by omega)=u
  generalize b[i]'(by omega)=w
  rw [QCD]
  by_cases hq:u=w
  ·rw [Qa4 (isV_t.2 hq),if_neg (by simp [hq])]
  ·rw [QaV (Bool.eq_false_iff.2 fun h=>hq (isV_t.1 h)),if_pos (by simp [hq])]
   simp only [ltV,Bool.and_assoc]) (by
  show QcN a b ((min a.length b.length:Nat):Int)=_
  unfold QcN
  rw [QaV (by simp [lenI]; omega)]) with ⟨k,h1,h2,h3,h4⟩|⟨h1,h4⟩
 ·rw [QdA h4,QmD]
  rw [QpJ (k:=k) fun j hj=>QwT (by omega) (h3 j hj)]
  have g1:k<a.length:=by omega
  have g2:k<b.length:=by omega
  unfold difN at h2
  rw [List.drop_eq_getElem_cons g1,List.drop_eq_getElem_cons g2,lessV]
  rw [List.getElem?_eq_getElem g1,List.getElem?_eq_getElem g2] at h2 ⊢
  simp only [Bool.not_eq_true',decide_eq_false_iff_not] at h2
  simp only
  rw [decide_eq_false h2,Bool.false_and,Bool.or_false]
 ·rw [QdA h4,Qhm]
  rw [QpJ (k:=min a.length b.length) fun j hj=>QwT (by omega) (h1 j hj)]
  by_cases hl:a.length<b.length
  ·rw [Nat.min_eq_left (by omega),List.drop_length,List.drop_eq_getElem_cons hl,show ltI (lenI a) (lenI b)=true by simp [lenI]; omega]; rfl
  ·rw [Nat.min_eq_right (by omega),show ltI (lenI a) (lenI b)=false by simp [lenI]; omega,List.drop_length]
   cases a.drop b.length <;> rfl
section
variable {x : Qac} {l : List Qaa} {m : Nat} {v : Qaa}
theorem QxC {o:Int} (h0:0≤o) (h1:o<x.orders.length) (h10:x.orders.length≤10):Qgu x.orders o=some (visO x o):=by
 have e:x.orders[o.toNat]?=some (x.orders[o.toNat]'(by omega)):=List.getElem?_eq_getElem _
 generalize x.orders[o.toNat]'(by omega)=q at e
 have hg:getI x.orders o=some q:=by unfold getI; rw [if_pos h0,e]
 unfold Qgu QbH
 have hs:subK .i64 (lenI x.orders) 1=(x.orders.length:Int)-1:=by unfold lenI; exact subI (by omega) (by omega)
 rw [hs,Qaj,Qa4 (by simp; omega),hg,Qaj]
 unfold visO
 rw [e]
 have hJ:∀ l1:List Qaa,l1.length≤1→QdD x.orders o l1=some (l1++if 0≤q.drop.place then [Qaa.mk o true] else []):=fun l1 hl=>by
  unfold QdD
  rw [hg,Qaj,QfJ (by unfold okN; simp; omega),br_if]
  simp only [geI_t]
  split <;> simp
 rw [hJ _ (by simp),hJ _ (by simp),QfJ (by unfold okN; simp),brs]
 simp only [geI_t]
 split <;> rfl
end
end Go.Proofs.YtpkkaboonnedfaaGreatDoor
namespace Go.Proofs.YtpkkaboonnedfaaGreatDoor
set_option linter.unusedSimpArgs false
set_option linter.unusedVariables false
set_option linter.unusedSectionVars false
def rW (b:Qad) (l:List Qaa):Qad:=Qad.mk b.type_ b.start b.rests l
noncomputable def prX (x:Qac) (r:Qad):Int×Int:=(Qfc x r).getD (0,1)
noncomputable def kyX (x:Qac) (b:Qad) (l:List Qaa):Ky:=((prX x (rW b l)).1,l)
def Qun:Qad:=Qad.mk 0 0 [] []
instance (k q:Ky):Decidable (kLt k q):=inferInstanceAs (Decidable (_∨_))
section
variable {x : Qac} {b r : Qad} {l t : List Qaa} {m n : Nat} {v : Qaa} {s : Option Ky}
theorem QuA (hx:Qdh x) (hR:QlQ r) (h9:Qu8 r):Qfc x r=some (prX x r)∧Qf3 x r=some (prX x r):=by
 obtain ⟨w,h1,h2⟩:=Qx8 hx hR h9
 have:prX x r=w:=by unfold prX; rw [h1]; rfl
 rw [this]
 exact ⟨h1,h2⟩
theorem pr_ev (hx:Qdh x) (hR:QlQ r) (h9:Qu8 r) (h:(prX x r).2=0):(evX x r).2.2=0:=by
 obtain ⟨e1,_⟩:=QwW hx hR h9
 obtain ⟨p1,_⟩:=QuA hx hR h9
 unfold Qfc at p1
 rw [e1,Qaj] at p1
 by_cases h0:(evX x r).2.2=0
 ·exact h0
 ·rw [Qa4 (by simpa using h0)] at p1
  have:=Option.some.inj p1
  rw [← this] at h
  exact h
theorem QDg (hx:Qdh x) (hR:QlQ r) (h9:Qu8 r) (h:(prX x r).2=0):SeqOK x r.visits:=by
 obtain ⟨_,_,_,_,e5⟩:=QwW hx hR h9
 obtain ⟨_,q,hE⟩:=e5 (pr_ev hx hR h9 h)
 exact Qxo hE.seq
theorem rW_I (hR:QlQ b) (hl:l.length≤8):QlQ (rW b l)∧Qu8 (rW b l):=by
 refine ⟨⟨hR.type_,hR.start,hR.rests,?_⟩,?_⟩
 ·show l.length≤_
  omega
 ·unfold Qu8
  show ¬ (9<l.length∧l.length≤20)
  omega
end
end Go.Proofs.YtpkkaboonnedfaaGreatDoor
namespace Go.Proofs.YtpkkaboonnedfaaGreatDoor
set_option linter.unusedSimpArgs false
set_option linter.unusedVariables false
set_option linter.unusedSectionVars false
def insAt {α:Type} (l:List α) (k:Nat) (v:α):List α:=l.take k++[v]++l.drop k
def plcS:List Qaa→List Qaa→Nat→List (List Qaa)
 | [],l,_=>[l]
 | v :: r,l,f=>(List.range' f (l.length+1-f)).flatMap fun k=>plcS r (insAt l k v) (k+1)
section
variable {α : Type} {x : Qac} {r : Qad} {l more : List Qaa} {v : Qaa} {o : Int}
theorem QlR {l:List α} {k:Nat} {v:α}:(insAt l k v).length=l.length+1:=by
 unfold insAt; simp; omega
theorem Qwm:∀ {more l:List Qaa} {f:Nat},∀ s∈plcS more l f,s.length=l.length+more.length
 | [],l,f,s,hs=>by
  rw [plcS,List.mem_singleton] at hs; rw [hs]; rfl
 | v :: r,l,f,s,hs=>by
  rw [plcS,List.mem_flatMap] at hs
  obtain ⟨k,_,hk⟩:=hs
  rw [Qwm s hk,QlR,List.length_cons]; omega
theorem QyC {α β:Type} {g:α→List β} {B:Nat}:∀ {L:List α},(∀ a∈L,(g a).length≤B)→(L.flatMap g).length≤L.length*B
 | [],_=>by simp
 | a :: L,h=>by
  rw [List.flatMap_cons,List.length_append,List.length_cons,Nat.add_mul,Nat.one_mul]
  have h1:=h a (List.mem_cons_self ..)
  have h2:=QyC (g:=g) (B:=B) (L:=L) fun b hb=>h b (List.mem_cons_of_mem _ hb)
  omega
theorem Qzp {f:Nat} (hm:more.length≤2):(plcS more l f).length≤(l.length+1)*(l.length+2):=by
 have one:∀ (l:List Qaa) (v:Qaa) (f:Nat),(plcS [v] l f).length≤l.length+1:=fun l v f=>by
  rw [plcS]
  refine Nat.le_trans (QyC (B:=1) fun k _=>by rw [plcS]; simp) ?_
  rw [List.length_range']; omega
 match more,hm with
 | [],_ =>
  rw [plcS,List.length_singleton]
  exact Nat.le_trans (show 1≤1*1 by omega) (Nat.mul_le_mul (by omega) (by omega))
 | [v],_=>exact Nat.le_trans (one l v f) (Nat.le_trans (by omega) (Nat.mul_le_mul (Nat.le_refl _) (show 1≤l.length+2 by omega)))
 | [v,w],_ =>
  rw [plcS]
  refine Nat.le_trans (QyC (B:=l.length+2) fun k _=>Nat.le_trans (one _ w _) (by rw [QlR]; exact Nat.le_refl _)) ?_
  exact Nat.mul_le_mul_right _ (by rw [List.length_range']; omega)
 | a :: b :: c :: r,h=>simp at h
theorem QCI (h:l.length≤1048580):(l.length+1)*(l.length+2)≤1099532500000:=by
 have:=Nat.mul_le_mul (show l.length+1≤1048581 by omega) (show l.length+2≤1048582 by omega)
 omega
theorem Qyq (hl:l.length≤4194304):Qbo l=some l:=by
 unfold Qbo
 rw [QfJ (QfE (by omega))]
 cases l with
 | nil=>exact Qyc
 | cons a r=>rfl
theorem QCz {k:Nat} (hk:k≤l.length) (hl:l.length≤4194304):insL 16 l (k:Int) [v]=some (insAt l k v):=by
 unfold insL insAt
 rw [if_pos ⟨by omega,by omega,by simp,by simp; omega,by simp; omega⟩]
 rw [Int.toNat_natCast]
theorem QDj {α:Type} {a:α} {r:List α}:slcI (a :: r) 1 (lenI (a :: r))=some r:=by
 unfold slcI lenI
 rw [if_pos ⟨by omega,by simp; omega,by simp⟩]
 simp
theorem Qzn:∀ (more:List Qaa) (n:Nat) (l:List Qaa) (f:Nat),more.length<n→more.length≤2→l.length+more.length≤1048580→f≤1048580→Qez n l more (f:Int)=some (plcS more l f)
 | [],n+1,l,f,_,_,_,_=>by
  show Qfy (Qez n) l [] (f:Int)=_
  unfold Qfy
  rw [Qa4 (by simp)]
  rfl
 | v :: r,n+1,l,f,h1,h2,h3,h4=>by
  show Qfy (Qez n) l (v :: r) (f:Int)=_
  simp only [List.length_cons] at h1 h2 h3
  unfold Qfy
  rw [QaV (by simp [lenI]; omega)]
  have hloop:=QdW (B:=fun s=>QdV (Qez n) l (v :: r) s.1 s.2) (e:=plcS (v :: r) l f) (l.length+1-f) (fun i=>(((List.range' f i).flatMap fun k=>plcS r (insAt l k v) (k+1)),((f+i:Nat):Int))) (by omega) (fun i hi=>by
   simp only
   unfold QdV
   rw [Qa4 (by simp [lenI]; omega),Qyq (by omega),Qaj,show getI (v :: r) 0=some v from rfl,Qaj,QCz (by omega) (by omega),Qaj,QDj,Qaj,addI (by omega) (by omega),
    show ((f+i:Nat):Int)+1=((f+i+1:Nat):Int) by omega,Qzn r n (insAt l (f+i) v) (f+i+1) (by omega) (by omega) (by rw [QlR]; omega) (by omega),Qaj]
   have hcat:((List.range' f i).flatMap fun k=>plcS r (insAt l k v) (k+1))++plcS r (insAt l (f+i) v) (f+i+1)=(List.range' f (i+1)).flatMap fun k=>plcS r (insAt l k v) (k+1):=by
    rw [List.range'_concat,List.flatMap_append]; simp
   rw [hcat]
   have hb:((List.range' f (i+1)).flatMap fun k=>plcS r (insAt l k v) (k+1)).length≤1099532500000:=by
    have hn:=Qzp (more:=v :: r) (l:=l) (f:=f) (by simp; omega)
    rw [plcS] at hn
    refine Nat.le_trans ?_ (Nat.le_trans hn (QCI (by omega)))
    have hsplit:List.range' f (l.length+1-f)=List.range' f (i+1)++List.range' (f+(i+1)) (l.length+1-f-(i+1)):=by
     rw [show f+(i+1)=f+1*(i+1) by omega,List.range'_append]
     congr 1; omega
    rw [hsplit,List.flatMap_append,List.length_append]
    omega
   rw [QfJ (QfE (by omega))]
   congr 3) (by
   simp only
   unfold QdV
   rw [QaV (by simp [lenI]; omega)]
   rw [plcS])
  have h0:(fun i:Nat=>(((List.range' f i).flatMap fun k=>plcS r (insAt l k v) (k+1)),((f+i:Nat):Int))) 0=([],(f:Int)):=by simp
  have h9:loopF (fun s=>QdV (Qez n) l (v :: r) s.1 s.2) ([],(f:Int))=some (plcS (v :: r) l f):=by rw [← h0]; exact hloop
  rw [QdA h9]
theorem QAy {f:Nat} (hm:more.length≤2) (hl:l.length+more.length≤1048580) (hf:f≤1048580):Qm1 l more (f:Int)=some (plcS more l f):=by
 unfold Qm1
 exact Qzn more QvA l f (Nat.lt_of_le_of_lt hm (by decide)) hm hl hf
theorem QuP {k:Nat} (hk:k≤l.length) (hl:l.length≤4194304):Qc7 l (k:Int) v=some (insAt l k v):=by
 unfold Qc7 insAt
 have h1:slcI l 0 (k:Int)=some (l.take k):=by
  unfold slcI
  rw [if_pos ⟨by omega,by omega,by omega⟩]
  simp
 have h2:slcI l (k:Int) (lenI l)=some (l.drop k):=by
  unfold slcI lenI
  rw [if_pos (by omega)]
  simp only [Int.toNat_natCast]
  rw [List.take_of_length_le (by rw [List.length_drop]; omega)]
 rw [h1,Qaj,QfJ (QfE (by simp; omega)),QfJ (QfE (by simp; omega)),h2,Qaj,QfJ (QfE (by simp; omega))]
end
end Go.Proofs.YtpkkaboonnedfaaGreatDoor
namespace Go.Proofs.YtpkkaboonnedfaaGreatDoor
set_option linter.unusedSimpArgs false
set_option linter.unusedVariables false
set_option linter.unusedSectionVars false
noncomputable def betX (x:Qac) (r:Qad) (s:Option Ky) (l:List Qaa):Option Ky:=if (prX x (rW r l)).2=0 then (match s with
 | none=>some (kyX x r l)
 | some k=>if kLt (kyX x r l) k then some (kyX x r l) else some k) else s
noncomputable def bestI (x:Qac) (r:Qad) (o:Int):Option Ky:=(plcS (visO x o) r.visits r.rests.length).foldl (betX x r) none
noncomputable def insX (x:Qac) (r:Qad) (o:Int):Qad×Int×Int :=
 if 0≤r.type_∧r.type_<x.types.length then
  if 0≤o∧o<x.orders.length then
   if offN x o.toNat=true then (Qun,0,9) else if hasO r.visits o=true then (Qun,0,6) else match bestI x r o with
    | none=>(Qun,0,24)
    | some k=>(rW r k.2,k.1,0)
  else (Qun,0,2)
 else (Qun,0,2)
def stP (r:Qad) (s:Option Ky) (i:Nat):Qad×Int×Int×List Bool×List Qaa×Int×Int:=match s with
 | none=>(r,0,0,[],[],-1,(i:Int))
 | some k=>(r,r.type_,r.start,r.rests,k.2,k.1,(i:Int))
def repF (r:Qad) (s:Option Ky):QaJ:=match s with
 | none=>QaJ.mk false Qun 0
 | some k=>QaJ.mk true (rW r k.2) k.1
def JK (s:Option Ky):Prop:=∀ k,s=some k→(0≤k.1∧k.1≤36028797018963968)∧k.2.length≤1048576
def OkL (r:Qad) (l:List Qaa):Prop:=l.length≤1048576∧Qu8 (rW r l)
section
variable {x : Qac} {r : Qad} {l more : List Qaa} {v : Qaa} {o : Int} {s : Option Ky}
theorem pr_bd (hx:Qdh x) (hR:QlQ r) (h9:Qu8 r) (h:(prX x r).2=0):0≤(prX x r).1∧(prX x r).1≤36028797018963968:=by
 have h:=pr_ev hx hR h9 h
 obtain ⟨e1,_,_,_,e5⟩:=QwW hx hR h9
 obtain ⟨es,q,hE⟩:=e5 h
 obtain ⟨p1,_⟩:=QuA hx hR h9
 obtain ⟨c,m,o,w,hs,g1,g2,g3,g4,g5,g6,g7,g8,g9,g10⟩:=hE.score hx
 unfold Qfc at p1
 rw [e1,Qaj,QaV (by simpa using h),es,hs,QzX ⟨g2,g3⟩ ⟨g4,by omega⟩ ⟨g6,by omega⟩ ⟨g8,g9⟩] at p1
 rw [← Option.some.inj p1]
 simp only
 omega
theorem okL_R (hR:QlQ r) (hl:OkL r l):QlQ (rW r l):=⟨hR.type_,hR.start,hR.rests,hl.1⟩
theorem JK.bet (hx:Qdh x) (hR:QlQ r) (hl:OkL r l) (h:JK s):JK (betX x r s l):=by
 unfold betX
 split
 ·rename_i hp
  have hk:JK (some (kyX x r l)):=fun k e=>by
   cases e
   exact ⟨pr_bd hx (okL_R hR hl) hl.2 hp,hl.1⟩
  cases s with
  | none=>exact hk
  | some k =>
   simp only
   split
   ·exact hk
   ·exact h
 ·exact h
theorem JK.none:JK none:=fun k e=>by cases e
theorem JK.fold (hx:Qdh x) (hR:QlQ r):∀ {L:List (List Qaa)} {s:Option Ky},(∀ l∈L,OkL r l)→JK s→JK (L.foldl (betX x r) s)
 | [],s,_,h=>h
 | l :: L,s,hL,h=>JK.fold (L:=L) (s:=betX x r s l) hx hR (fun l' h'=>hL l' (List.mem_cons_of_mem _ h')) (h.bet hx hR (hL l (List.mem_cons_self ..)))
theorem stP_i {i:Nat}:(stP r s i).2.2.2.2.2.2=(i:Int):=by unfold stP; split <;> rfl
theorem Qx2 (hx:Qdh x) (hR:QlQ r) {L:List (List Qaa)} {i:Nat} (hi:L[i]?=some l) (hn:i<1099532500000) (hl:OkL r l) (hs:JK s) (B:_) (hB:B=stP r s i) :
  Qen x L B.1 B.2.1 B.2.2.1 B.2.2.2.1 B.2.2.2.2.1 B.2.2.2.2.2.1 B.2.2.2.2.2.2=some (.inl (stP r (betX x r s l) (i+1))):=by
 have hlt:=(List.getElem?_eq_some_iff.1 hi).1
 have hp:=(QuA hx (okL_R hR hl) hl.2).1
 subst hB
 have hinc:addK .i64 (i:Int) 1=((i+1:Nat):Int):=by rw [addI (by omega) (by omega)]; omega
 unfold Qen
 rw [stP_i,Qa4 (by simp [lenI]; omega),QaW hi,Qaj,hinc]
 have hr:Qad.mk (stP r s i).1.type_ (stP r s i).1.start (stP r s i).1.rests l=rW r l:=by unfold stP; split <;> rfl
 rw [hr,hp,Qaj]
 unfold betX
 by_cases h0:(prX x (rW r l)).2=0
 ·rw [Qa4 (by simpa using h0),if_pos h0]
  cases s with
  | none =>
   rw [Qa4 (by simp [stP])]
   rfl
  | some k =>
   obtain ⟨⟨k0,k1⟩,k2⟩:=hs k rfl
   simp only [stP]
   rw [QCg hl.1 k2,Qaj,brs]
   by_cases h1:(prX x (rW r l)).1<k.1
   ·rw [Qa4 (by simp; omega),if_pos (show kLt (kyX x r l) k from .inl h1)]
    rfl
   ·rw [QaV (by simp; omega)]
    by_cases h2:(prX x (rW r l)).1=k.1
    ·rw [Qa4 (by simpa using h2)]
     by_cases h3:lessV l k.2=true
     ·rw [if_pos h3,if_pos (show kLt (kyX x r l) k from .inr ⟨h2,h3⟩)]
      rfl
     ·rw [if_neg h3,if_neg (show ¬ kLt (kyX x r l) k from fun h=>h.elim (fun h=>h1 h) fun h=>h3 h.2)]
    ·rw [QaV (by simpa using h2),if_neg (show ¬ kLt (kyX x r l) k from fun h=>h.elim (fun h=>h1 h) fun h=>h2 h.1)]
 ·rw [QaV (by simpa using h0),if_neg h0]
  cases s <;> rfl
theorem QyI {α S:Type} {f:S→α→S} {L:List α} {s:S} {i:Nat} {a:α} (h:L[i]?=some a):(L.take (i+1)).foldl f s=f ((L.take i).foldl f s) a:=by
 rw [List.take_add_one,h,List.foldl_append]; rfl
theorem QAM (hl:r.visits.length≤1048576):Qil r o=some (hasO r.visits o):=by
 unfold Qil Qba Qbi
 rw [QsU (l:=r.visits) hl (isO o) (fun k=>.inr (k:Int)) (N:=.inl ()) (fun i a ha=>by
  have hlt:=(List.getElem?_eq_some_iff.1 ha).1
  unfold QaQ QjP
  rw [Qa4 (by simp [lenI]; omega),QaW ha,Qaj,Qaj,inc hlt hl,brs]
  rfl) (by unfold QaQ; rw [QaV (by simp [lenI])])]
 have hg:geI (ixI (isO o) r.visits) 0=r.visits.any (isO o):=Qq6
 unfold ixI at hg
 cases h:ixP (isO o) r.visits with
 | none=>rw [h] at hg; exact congrArg some hg
 | some k=>rw [h] at hg; exact congrArg some hg
theorem QzY {o:Int}:QjR x o=some (if 0≤o∧o<x.orders.length then (if offN x o.toNat=true then 9 else 0) else 2):=by
 unfold QjR
 by_cases h:0≤o∧o<x.orders.length
 ·rw [QaV (by simp [lenI]; omega),if_pos h,Qtz h.1 h.2,Qaj,brs]
  congr 1
  unfold offN
  rw [List.getElem?_eq_getElem (show o.toNat<x.orders.length by omega)]
 ·rw [Qa4 (by simp [lenI]; omega),if_neg h]
structure InsI (r:Qad) (o:Int):Prop where
 R:QlQ r
 len:r.visits.length≤1048574
 short:hasO r.visits o=false→r.visits.length≤7∨20<r.visits.length
theorem InsI.okL (h:InsI r o) (hn:hasO r.visits o=false):∀ l∈plcS (visO x o) r.visits r.rests.length,OkL r l:=fun l hl=>by
 have h1:=Qwm l hl
 have h2:=Qqr (x:=x) (o:=o)
 have h3:=h.len
 have h4:=h.short hn
 refine ⟨by omega,?_⟩
 unfold Qu8
 show ¬ (9<l.length∧l.length≤20)
 omega
theorem InsI.num (h:InsI r o):(plcS (visO x o) r.visits r.rests.length).length≤1099532500000 :=
 Nat.le_trans (Qzp Qqr) (QCI (by have:=h.len; omega))
theorem QyR (hx:Qdh x) (h:InsI r o):QgA x r o=some (insX x r o):=by
 have hlen:=h.len
 have hrl:=h.R.rests
 unfold QgA insX
 by_cases ht:0≤r.type_∧r.type_<x.types.length
 ·rw [QaV (by simp [lenI]; omega),if_pos ht,QzY,Qaj]
  by_cases ho:0≤o∧o<x.orders.length
  ·rw [if_pos ho,if_pos ho]
   by_cases hf:offN x o.toNat=true
   ·rw [if_pos hf,if_pos hf]; rfl
   ·rw [if_neg hf,if_neg hf,QaV (by decide),QAM (by omega),Qaj]
    by_cases hh:hasO r.visits o=true
    ·rw [Qa4 hh,if_pos hh]; rfl
    ·rw [QaV (by simpa using hh),if_neg hh,QuE hx ho.1 ho.2,Qaj,lenI,QAy Qqr (by have:=Qqr (x:=x) (o:=o); omega) (by omega),Qaj]
     have hok:=h.okL (x:=x) (by simpa using hh)
     have hnum:=h.num (x:=x)
     have hb:bestI x r o=(plcS (visO x o) r.visits r.rests.length).foldl (betX x r) none:=rfl
     have hJ:=JK.fold (x:=x) hx h.R hok JK.none
     rw [← hb] at hJ
     revert hb hok hnum
     generalize plcS (visO x o) r.visits r.rests.length=L
     intro hok hnum hb
     have hloop:=QdW (B:=fun s=>Qen x L s.1 s.2.1 s.2.2.1 s.2.2.2.1 s.2.2.2.2.1 s.2.2.2.2.2.1 s.2.2.2.2.2.2) (e:=(match bestI x r o with|none=>(Qun,(-1:Int))|some k=>(rW r k.2,k.1))) L.length (fun i=>stP r ((L.take i).foldl (betX x r) none) i) (by omega) (fun i hi=>by
      have hg:=List.getElem?_eq_getElem hi
      rw [QyI hg]
      exact Qx2 hx h.R hg (by omega) (hok _ (List.getElem_mem hi)) (JK.fold hx h.R (fun l hl=>hok l (List.mem_of_mem_take hl)) JK.none) _ rfl) (by
      unfold Qen
      rw [stP_i,QaV (by simp [lenI]),List.take_length,← hb]
      cases bestI x r o <;> rfl)
     have h0:(fun i:Nat=>stP r ((L.take i).foldl (betX x r) none) i) 0=(r,0,0,[],[],-1,0):=rfl
     have h9:loopF (fun s=>Qen x L s.1 s.2.1 s.2.2.1 s.2.2.2.1 s.2.2.2.2.1 s.2.2.2.2.2.1 s.2.2.2.2.2.2) (r,0,0,[],[],-1,0)=_:=hloop
     rw [QdA h9]
     cases hbs:bestI x r o with
     | none=>rfl
     | some k =>
      have:=(hJ k hbs).1
      simp only
      rw [QaV (by simp; omega)]
  ·rw [if_neg ho,if_neg ho]; rfl
 ·rw [Qa4 (by simp [lenI]; omega),if_neg ht]; rfl
end
end Go.Proofs.YtpkkaboonnedfaaGreatDoor
namespace Go.Proofs.YtpkkaboonnedfaaGreatDoor
set_option linter.unusedSimpArgs false
set_option linter.unusedVariables false
set_option linter.unusedSectionVars false
section
variable {x : Qac} {r : Qad} {l more : List Qaa} {v : Qaa} {o : Int} {s : Option Ky}
def stF (r:Qad) (s:Option Ky) (i:Nat):Qad×Bool×Int×Int×List Bool×List Qaa×Int×Int:=(r,(repF r s).ok,(repF r s).route.type_,(repF r s).route.start,(repF r s).route.rests,(repF r s).route.visits,(repF r s).price,(i:Int))
def stF2 (r:Qad) (s:Option Ky) (i:Nat):Bool×Int×Int×List Bool×List Qaa×Int×Int:=((repF r s).ok,(repF r s).route.type_,(repF r s).route.start,(repF r s).route.rests,(repF r s).route.visits,(repF r s).price,(i:Int))
theorem QwM (hx:Qdh x) (hR:QlQ r) (hl:OkL r l) (hs:JK s):Qfb x (repF r s) r l=some (repF r (betX x r s l)):=by
 have hp:=(QuA hx (okL_R hR hl) hl.2).2
 unfold Qfb
 rw [show Qad.mk r.type_ r.start r.rests l=rW r l from rfl,hp,Qaj]
 unfold betX
 by_cases h0:(prX x (rW r l)).2=0
 ·rw [QaV (by simpa using h0),if_pos h0]
  cases s with
  | none =>
   rw [Qa4 (by simp [repF])]
   rfl
  | some k =>
   obtain ⟨⟨k0,k1⟩,k2⟩:=hs k rfl
   simp only [repF]
   rw [QzT hl.1 (show (rW r k.2).visits.length≤1048576 from k2),Qaj,brs]
   by_cases h1:(prX x (rW r l)).1<k.1
   ·rw [Qa4 (by simp; omega),if_pos (show kLt (kyX x r l) k from .inl h1)]
    rfl
   ·rw [QaV (by simp; omega)]
    by_cases h2:(prX x (rW r l)).1=k.1
    ·rw [Qa4 (by simpa using h2)]
     by_cases h3:lessV l k.2=true
     ·rw [if_pos (show lessV l (rW r k.2).visits=true from h3),if_pos (show kLt (kyX x r l) k from .inr ⟨h2,h3⟩)]
      rfl
     ·rw [if_neg (show ¬ lessV l (rW r k.2).visits=true from h3),if_neg (show ¬ kLt (kyX x r l) k from fun h=>h.elim (fun h=>h1 h) fun h=>h3 h.2)]
    ·rw [QaV (by simpa using h2),if_neg (show ¬ kLt (kyX x r l) k from fun h=>h.elim (fun h=>h1 h) fun h=>h2 h.1)]
 ·rw [Qa4 (by simpa using h0),if_neg h0]
theorem QAL (hx:Qdh x) {i:Nat} (hi:i<x.orders.length):∃ v,v∈visO x (i:Int):=by
 have e:x.orders[i]?=some x.orders[i]:=List.getElem?_eq_getElem hi
 have hO:=hx.ord _ (List.getElem_mem hi)
 unfold visO
 rw [Int.toNat_natCast,e]
 simp only
 have h1:=hO.pick
 have h2:=hO.drop
 have h3:=hO.one
 unfold Qya at h1 h2
 by_cases hp:0≤x.orders[i].pick.place
 ·rw [if_pos hp]; exact ⟨_,List.mem_append_left _ (List.mem_cons_self ..)⟩
 ·rw [if_pos (show 0≤x.orders[i].drop.place by omega)]
  exact ⟨_,List.mem_append_right _ (List.mem_cons_self ..)⟩
theorem on_eq (hl:r.visits.length≤1048576):QkK r o=some (hasO r.visits o):=by
 unfold QkK
 rw [Qi3 (l:=r.visits) hl (isO o) (y:=.inr true) (N:=.inl ()) (fun i a ha=>by
  have hlt:=(List.getElem?_eq_some_iff.1 ha).1
  unfold Qf4
  rw [Qa4 (by simp [lenI]; omega),QaW ha,Qaj,inc hlt hl,brs]
  rfl) (by unfold Qf4; rw [QaV (by simp [lenI])]),Qaj]
 show _=some (r.visits.any (isO o))
 cases r.visits.any (isO o) <;> rfl
theorem L2_eq (hx:Qdh x) (hR:QlQ r) {a w:Qaa} {i:Nat} {first:List Qaa} (hok:∀ k,i≤k→k≤first.length→OkL r (insAt first k w)) (hfl:first.length≤1048577) (hi:i≤first.length) (hs:JK s) (e1 e2:Int) (e4:List Bool) (e5:List Qaa) (e6:Int) (e0:Bool) (j:Int) :
  loopF (fun s=>Qdg x [a,w] r e0 e1 e2 e4 e5 e6 j first s.1 s.2.1 s.2.2.1 s.2.2.2.1 s.2.2.2.2.1 s.2.2.2.2.2.1 s.2.2.2.2.2.2) (stF2 r s i)=some (repF r ((plcS [w] first i).foldl (betX x r) s)):=by
 have hcat:∀ n,(List.range' i (n+1)).flatMap (fun k=>plcS [] (insAt first k w) (k+1))=(List.range' i n).flatMap (fun k=>plcS [] (insAt first k w) (k+1))++[insAt first (i+n) w]:=fun n=>by
  rw [List.range'_concat,List.flatMap_append]; simp [plcS]
 have hJ:∀ n,i+n≤first.length+1→JK (((List.range' i n).flatMap fun k=>plcS [] (insAt first k w) (k+1)).foldl (betX x r) s):=fun n hn=>by
  refine JK.fold hx hR (fun l hl=>?_) hs
  obtain ⟨k,hk,hl⟩:=List.mem_flatMap.1 hl
  rw [plcS,List.mem_singleton] at hl
  rw [hl]
  rw [List.mem_range'_1] at hk
  exact hok k (by omega) (by omega)
 have hloop:=QdW (B:=fun s=>Qdg x [a,w] r e0 e1 e2 e4 e5 e6 j first s.1 s.2.1 s.2.2.1 s.2.2.2.1 s.2.2.2.2.1 s.2.2.2.2.2.1 s.2.2.2.2.2.2) (e:=repF r ((plcS [w] first i).foldl (betX x r) s)) (first.length+1-i)
  (fun n=>stF2 r (((List.range' i n).flatMap fun k=>plcS [] (insAt first k w) (k+1)).foldl (betX x r) s) (i+n)) (by omega) (fun n hn=>by
   have hb:=QwM hx hR (hok (i+n) (by omega) (by omega)) (hJ n (by omega))
   unfold Qdg
   rw [hcat,List.foldl_append]
   show br (leI ((i+n:Nat):Int) (lenI first)) _ _=_
   rw [Qa4 (by simp [lenI]; omega),show getI [a,w] 1=some w from rfl,Qaj]
   show bnd (Qc7 first ((i+n:Nat):Int) w) _=_
   rw [QuP (by omega) (by omega),Qaj]
   refine (QdA hb).trans ?_
   show some (Sum.inl (_,_,_,_,_,_,addK .i64 ((i+n:Nat):Int) 1))=_
   rw [addI (by omega) (by omega),show ((i+n:Nat):Int)+1=((i+(n+1):Nat):Int) by omega]
   rfl) (by
   unfold Qdg
   show br (leI ((i+(first.length+1-i):Nat):Int) (lenI first)) _ _=_
   rw [QaV (by simp [lenI]; omega),plcS]
   rfl)
 exact hloop
theorem QBZ (hx:Qdh x) (h:InsI r o):QhV x r o=some (insX x r o):=by
 have hlen:=h.len
 have hrl:=h.R.rests
 unfold QhV insX
 by_cases ht:0≤r.type_∧r.type_<x.types.length
 ·rw [QaV (by simp [lenI]; omega),if_pos ht]
  unfold Qh7
  rw [Qaj]
  by_cases ho:0≤o∧o<x.orders.length
  ·rw [Qa4 (by simp [lenI]; omega),if_pos ho,Qtz ho.1 ho.2,Qaj]
   have hoff:offN x o.toNat=(x.orders[o.toNat]'(by omega)).off:=by
    unfold offN
    rw [List.getElem?_eq_getElem (show o.toNat<x.orders.length by omega)]
   rw [← hoff]
   by_cases hf:offN x o.toNat=true
   ·rw [Qa4 hf,if_pos hf]; rfl
   ·rw [QaV (by simpa using hf),if_neg hf,on_eq (by omega),Qaj]
    by_cases hh:hasO r.visits o=true
    ·rw [Qa4 hh,if_pos hh]; rfl
    ·rw [QaV (by simpa using hh),if_neg hh,QxC ho.1 ho.2 hx.orders,Qaj]
     have hok:=h.okL (x:=x) (by simpa using hh)
     have hb:bestI x r o=(plcS (visO x o) r.visits r.rests.length).foldl (betX x r) none:=rfl
     have hvl:=Qqr (x:=x) (o:=o)
     have hne:visO x o≠[]:=fun e=>by
      obtain ⟨v,hv⟩:=QAL hx (i:=o.toNat) (by omega)
      rw [show ((o.toNat:Nat):Int)=o by omega,e] at hv
      cases hv
     revert hb hok hvl hne
     generalize visO x o=V
     intro hok hb hvl hne
     have key:loopF (fun s=>QbU x V s.1 s.2.1 s.2.2.1 s.2.2.2.1 s.2.2.2.2.1 s.2.2.2.2.2.1 s.2.2.2.2.2.2.1 s.2.2.2.2.2.2.2) (stF r none r.rests.length)=some (repF r (bestI x r o)):=by
      match V,hok,hvl,hne,hb with
      | [a],hok,_,_,hb =>
       have hokk:∀ k,r.rests.length≤k→k≤r.visits.length→OkL r (insAt r.visits k a):=fun k h1 h2=>hok _ (by
        rw [plcS,List.mem_flatMap]
        exact ⟨k,by rw [List.mem_range'_1]; omega,by rw [plcS]; exact List.mem_singleton.2 rfl⟩)
       have hcat:∀ n,(List.range' r.rests.length (n+1)).flatMap (fun k=>plcS [] (insAt r.visits k a) (k+1))=(List.range' r.rests.length n).flatMap (fun k=>plcS [] (insAt r.visits k a) (k+1))++[insAt r.visits (r.rests.length+n) a]:=fun n=>by
        rw [List.range'_concat,List.flatMap_append]; simp [plcS]
       have hJ:∀ n,r.rests.length+n≤r.visits.length+1→JK (((List.range' r.rests.length n).flatMap fun k=>plcS [] (insAt r.visits k a) (k+1)).foldl (betX x r) none):=fun n hn=>by
        refine JK.fold hx h.R (fun l hl=>?_) JK.none
        obtain ⟨k,hk,hl⟩:=List.mem_flatMap.1 hl
        rw [plcS,List.mem_singleton] at hl
        rw [hl]
        rw [List.mem_range'_1] at hk
        exact hokk k (by omega) (by omega)
       have hloop:=QdW (B:=fun s=>QbU x [a] s.1 s.2.1 s.2.2.1 s.2.2.2.1 s.2.2.2.2.1 s.2.2.2.2.2.1 s.2.2.2.2.2.2.1 s.2.2.2.2.2.2.2) (e:=repF r (bestI x r o)) (r.visits.length+1-r.rests.length)
        (fun n=>stF r (((List.range' r.rests.length n).flatMap fun k=>plcS [] (insAt r.visits k a) (k+1)).foldl (betX x r) none) (r.rests.length+n)) (by omega) (fun n hn=>by
         have hbt:=QwM hx h.R (hokk (r.rests.length+n) (by omega) (by omega)) (hJ n (by omega))
         unfold QbU
         rw [hcat,List.foldl_append]
         show br (leI ((r.rests.length+n:Nat):Int) (lenI r.visits)) _ _=_
         rw [Qa4 (by simp [lenI]; omega),show getI [a] 0=some a from rfl,Qaj]
         show bnd (Qc7 r.visits ((r.rests.length+n:Nat):Int) a) _=_
         rw [QuP (by omega) (by omega),Qaj,Qa4 (by rfl)]
         refine (QdA hbt).trans ?_
         show some (Sum.inl (_,_,_,_,_,_,_,addK .i64 ((r.rests.length+n:Nat):Int) 1))=_
         rw [addI (by omega) (by omega),show ((r.rests.length+n:Nat):Int)+1=((r.rests.length+(n+1):Nat):Int) by omega]
         rfl) (by
         unfold QbU
         show br (leI ((r.rests.length+(r.visits.length+1-r.rests.length):Nat):Int) (lenI r.visits)) _ _=_
         rw [QaV (by simp [lenI]; omega),hb,plcS]
         rfl)
       exact hloop
      | [a,w],hok,_,_,hb =>
       have hokk:∀ k j,r.rests.length≤k→k≤r.visits.length→k+1≤j→j≤r.visits.length+1→OkL r (insAt (insAt r.visits k a) j w):=fun k j h1 h2 h3 h4=>hok _ (by
        rw [plcS,List.mem_flatMap]
        refine ⟨k,by rw [List.mem_range'_1]; omega,?_⟩
        rw [plcS,List.mem_flatMap]
        exact ⟨j,by rw [List.mem_range'_1,QlR]; omega,by rw [plcS]; exact List.mem_singleton.2 rfl⟩)
       have hcat:∀ n,(List.range' r.rests.length (n+1)).flatMap (fun k=>plcS [w] (insAt r.visits k a) (k+1))=(List.range' r.rests.length n).flatMap (fun k=>plcS [w] (insAt r.visits k a) (k+1))++plcS [w] (insAt r.visits (r.rests.length+n) a) (r.rests.length+n+1):=fun n=>by
        rw [List.range'_concat,List.flatMap_append]; simp
       have hJ:∀ n,r.rests.length+n≤r.visits.length+1→JK (((List.range' r.rests.length n).flatMap fun k=>plcS [w] (insAt r.visits k a) (k+1)).foldl (betX x r) none):=fun n hn=>by
        refine JK.fold hx h.R (fun l hl=>?_) JK.none
        obtain ⟨k,hk,hl⟩:=List.mem_flatMap.1 hl
        rw [plcS,List.mem_flatMap] at hl
        obtain ⟨j,hj,hl⟩:=hl
        rw [plcS,List.mem_singleton] at hl
        rw [hl]
        rw [List.mem_range'_1] at hk hj
        rw [QlR] at hj
        exact hokk k j (by omega) (by omega) (by omega) (by omega)
       have hloop:=QdW (B:=fun s=>QbU x [a,w] s.1 s.2.1 s.2.2.1 s.2.2.2.1 s.2.2.2.2.1 s.2.2.2.2.2.1 s.2.2.2.2.2.2.1 s.2.2.2.2.2.2.2) (e:=repF r (bestI x r o)) (r.visits.length+1-r.rests.length)
        (fun n=>stF r (((List.range' r.rests.length n).flatMap fun k=>plcS [w] (insAt r.visits k a) (k+1)).foldl (betX x r) none) (r.rests.length+n)) (by omega) (fun n hn=>by
         have hin:=L2_eq (a:=a) (w:=w) (i:=r.rests.length+n+1) (first:=insAt r.visits (r.rests.length+n) a) hx h.R (s:=((List.range' r.rests.length n).flatMap fun k=>plcS [w] (insAt r.visits k a) (k+1)).foldl (betX x r) none) (fun k hk1 hk=>by
          rw [QlR] at hk
          exact hokk (r.rests.length+n) k (by omega) (by omega) hk1 (by omega)) (by rw [QlR]; omega) (by rw [QlR]; omega) (hJ n (by omega))
         unfold QbU
         rw [hcat,List.foldl_append]
         show br (leI ((r.rests.length+n:Nat):Int) (lenI r.visits)) _ _=_
         rw [Qa4 (by simp [lenI]; omega),show getI [a,w] 0=some a from rfl,Qaj]
         show bnd (Qc7 r.visits ((r.rests.length+n:Nat):Int) a) _=_
         rw [QuP (by omega) (by omega),Qaj,QaV (by rfl)]
         show bnd (loopF _ (_,_,_,_,_,_,addK .i64 ((r.rests.length+n:Nat):Int) 1)) _=_
         rw [addI (by omega) (by omega)]
         refine (QdA (hin _ _ _ _ _ _ _)).trans ?_
         show some (Sum.inl (_,_,_,_,_,_,_,addK .i64 ((r.rests.length+n:Nat):Int) 1))=_
         rw [addI (by omega) (by omega),show ((r.rests.length+n:Nat):Int)+1=((r.rests.length+(n+1):Nat):Int) by omega]
         rfl) (by
         unfold QbU
         show br (leI ((r.rests.length+(r.visits.length+1-r.rests.length):Nat):Int) (lenI r.visits)) _ _=_
         rw [QaV (by simp [lenI]; omega),hb,plcS]
         rfl)
       exact hloop
      | [],_,_,hne,_=>exact absurd rfl hne
      | a :: b :: c :: t,_,hvl,_,_=>simp at hvl
     refine (QdA key).trans ?_
     cases bestI x r o with
     | none=>rfl
     | some k=>rfl
  ·rw [QaV (by simp [lenI]; omega),if_neg ho]; rfl
 ·rw [Qa4 (by simp [lenI]; omega),if_neg ht]; rfl
end
end Go.Proofs.YtpkkaboonnedfaaGreatDoor
namespace Go.Proofs.YtpkkaboonnedfaaGreatDoor
set_option linter.unusedSimpArgs false
set_option linter.unusedVariables false
set_option linter.unusedSectionVars false
theorem QsO:QbV=some true:=by kernel_rfl
section
variable {x : Qac} {r : Qad} {l more : List Qaa} {v : Qaa} {o : Int} {s : Option Ky} {p : Qas}
theorem QBe (hI:InstI x):post (QfQ x) fun b=>b=true→Qdh x:=by
 unfold QfQ
 refine Qa6 (Qv6 hI) fun l hl=>QaA.2 fun h=>hl ?_
 rw [eqI_t,lenI] at h
 exact List.eq_nil_of_length_eq_zero (by omega)
structure SzR (r:Qad):Prop where
 rests:r.rests.length≤1048576
 visits:r.visits.length≤1048576
theorem QzC (h:SzR r):QeY r r=some true:=by
 unfold QeY
 rw [QaV (by simp)]
 have h1:loopF (fun s=>QbN r r s) 0=some (.inl ()) :=
  QdW (B:=fun s=>QbN r r s) r.rests.length (fun i=>(i:Int)) (by have:=h.rests; omega) (fun i hi=>by
   unfold QbN
   rw [Qa4 (by simp [lenI]; omega),Qwe hi,Qaj,Qaj,Qa4 (by simp),inc hi h.rests]
   rfl) (by unfold QbN; rw [QaV (by simp [lenI])])
 have h2:loopF (fun s=>Qbw r r s) 0=some (.inl ()) :=
  QdW (B:=fun s=>Qbw r r s) r.visits.length (fun i=>(i:Int)) (by have:=h.visits; omega) (fun i hi=>by
   unfold Qbw
   rw [Qa4 (by simp [lenI]; omega),Qwe hi,Qaj,Qaj,Qa4 (by simp),inc hi h.visits]
   rfl) (by unfold Qbw; rw [QaV (by simp [lenI])])
 rw [QdA h1,Qhm,QdA h2,Qhm]
theorem QAE (h1:p.routes.length≤1048576) (h2:p.unserved.length≤1048576) (h:∀ r∈p.routes,SzR r):QhW p p=some true:=by
 unfold QhW QjQ
 rw [QaV (by simp)]
 have h3:loopF (fun s=>Qdf p p s) 0=some (.inl ()) :=
  QdW (B:=fun s=>Qdf p p s) p.routes.length (fun i=>(i:Int)) (by omega) (fun i hi=>by
   unfold Qdf
   rw [Qa4 (by simp [lenI]; omega),Qwe hi,Qaj,Qaj,QzC (h _ (List.getElem_mem hi)),Qaj,Qa4 rfl,inc hi h1]
   rfl) (by unfold Qdf; rw [QaV (by simp [lenI])])
 have h4:loopF (fun s=>QcP p p s) 0=some (.inl ()) :=
  QdW (B:=fun s=>QcP p p s) p.unserved.length (fun i=>(i:Int)) (by omega) (fun i hi=>by
   unfold QcP
   rw [Qa4 (by simp [lenI]; omega),Qwe hi,Qaj,Qaj,QaV (by simp),inc hi h2]
   rfl) (by unfold QcP; rw [QaV (by simp [lenI])])
 rw [QdA h3,Qhm,QdA h4,Qhm]
 rfl
theorem QCA (hx:Qdh x) (h:InsI r o):SzR (insX x r o).1∧(0≤(insX x r o).2.1∧(insX x r o).2.1≤36028797018963968):=by
 have hz:SzR Qun:=⟨by simp [Qun],by simp [Qun]⟩
 unfold insX
 split
 ·split
  ·split
   ·exact ⟨hz,by simp⟩
   ·split
    ·exact ⟨hz,by simp⟩
    ·rename_i hh
     have hJ:JK (bestI x r o):=JK.fold hx h.R (h.okL (by simpa using hh)) JK.none
     cases hb:bestI x r o with
     | none=>exact ⟨hz,by simp⟩
     | some k =>
      obtain ⟨h1,h2⟩:=hJ k hb
      exact ⟨⟨h.R.rests,h2⟩,h1⟩
  ·exact ⟨hz,by simp⟩
 ·exact ⟨hz,by simp⟩
theorem QsW (x:Qac) (hI:InstI x) (r:Qad) (hR:QlQ r) (hl:r.visits.length≤1048574) (o:Int):Qfg x r o=some true:=by
 apply post.eq
 unfold Qfg
 rw [QsO]
 refine Qa6 (QBe hI) fun b hb=>QaS (fun h1=>?_) (fun _=>QaA.2 rfl)
 have hx:=hb h1
 unfold QiK
 rw [Qaj]
 refine QaS (fun h2=>?_) (fun _=>QaA.2 rfl)
 have hs:r.visits.length≤6∨20<r.visits.length:=by
  rcases orT.1 h2 with h|h
  ·rw [leI_t,lenI] at h; omega
  ·rw [gtI_t,lenI] at h; omega
 have hi:InsI r o:=⟨hR,hl,fun _=>by omega⟩
 obtain ⟨hz,_⟩:=QCA hx hi
 rw [QyR hx hi,Qaj,QBZ hx hi,Qaj,Qa4 (by simp),QAE (by simp) (by simp) (fun q hq=>by rw [List.mem_singleton.1 hq]; exact hz),Qaj,Qa4 rfl]
 exact QaA.2 rfl
end
end Go.Proofs.YtpkkaboonnedfaaGreatDoor
namespace Go.Proofs.YtpkkaboonnedfaaGreatDoor
set_option linter.unusedSimpArgs false
set_option linter.unusedVariables false
set_option linter.unusedSectionVars false
section
variable {x : Qac} {r : Qad} {l more : List Qaa} {v : Qaa} {o : Int} {s : Option Ky} {p : Qas}
theorem Qyi:∀ (L:List (List Qaa)) (s:Option Ky) (P:Ky→Prop),(∀ k,s=some k→P k)→(∀ l∈L,(prX x (rW r l)).2=0→P (kyX x r l)) →
  (∀ k,L.foldl (betX x r) s=some k→P k)∧(∀ k,s=some k→∃ q,L.foldl (betX x r) s=some q∧q.1≤k.1)∧∀ l∈L,(prX x (rW r l)).2=0→∃ q,L.foldl (betX x r) s=some q∧q.1≤(prX x (rW r l)).1
 | [],s,P,h1,h2=>⟨h1,fun k hk=>⟨k,hk,Int.le_refl _⟩,fun l hl=>by cases hl⟩
 | l :: L,s,P,h1,h2=>by
  have hb:(∀ k,betX x r s l=some k→P k):=fun k hk=>by
   unfold betX at hk
   split at hk
   ·rename_i hp
    have:=h2 l (List.mem_cons_self ..) hp
    cases s with
    | none=>simp only at hk; cases hk; exact this
    | some q =>
     simp only at hk
     split at hk
     ·cases hk; exact this
     ·exact h1 k hk
   ·exact h1 k hk
  have hs:∀ k,s=some k→∃ q,betX x r s l=some q∧q.1≤k.1:=fun k hk=>by
   subst hk
   unfold betX
   split
   ·simp only
    split
    ·rename_i hlt
     refine ⟨_,rfl,?_⟩
     rcases hlt with h|h
     ·omega
     ·omega
    ·exact ⟨k,rfl,Int.le_refl _⟩
   ·exact ⟨k,rfl,Int.le_refl _⟩
  have hl:(prX x (rW r l)).2=0→∃ q,betX x r s l=some q∧q.1≤(prX x (rW r l)).1:=fun hp=>by
   unfold betX
   rw [if_pos hp]
   cases s with
   | none=>exact ⟨_,rfl,Int.le_refl _⟩
   | some k =>
    simp only
    split
    ·exact ⟨_,rfl,Int.le_refl _⟩
    ·rename_i hn
     refine ⟨k,rfl,Int.not_lt.1 fun h=>hn (.inl h)⟩
  obtain ⟨i1,i2,i3⟩:=Qyi L (betX x r s l) P hb fun l' hl'=>h2 l' (List.mem_cons_of_mem _ hl')
  have up:∀ n:Int,(∃ q,betX x r s l=some q∧q.1≤n)→∃ q,(l :: L).foldl (betX x r) s=some q∧q.1≤n:=fun n ⟨q,hq,hn⟩=>by
   obtain ⟨q',h1',h2'⟩:=i2 q hq
   exact ⟨q',h1',by omega⟩
  refine ⟨i1,fun k hk=>up _ (hs k hk),fun l' hl' hp=>?_⟩
  rcases List.mem_cons.1 hl' with rfl|hl'
  ·exact up _ (hl hp)
  ·exact i3 l' hl' hp
theorem QAc (hx:Qdh x) (hl:l∈plcS (visO x o) r.visits r.rests.length) (ht:0≤r.type_∧r.type_<x.types.length) (ho:0≤o∧o<x.orders.length) (hf:offN x o.toNat=false) (hh:hasO r.visits o=false) (hp:(prX x (rW r l)).2=0) :
  ∃ q,(prX x (rW r q)).2=0∧insX x r o=(rW r q,(prX x (rW r q)).1,0)∧(prX x (rW r q)).1≤(prX x (rW r l)).1∧q∈plcS (visO x o) r.visits r.rests.length:=by
 obtain ⟨b1,_,b3⟩:=Qyi (x:=x) (r:=r) (plcS (visO x o) r.visits r.rests.length) none (fun k=>∃ q,q∈plcS (visO x o) r.visits r.rests.length∧(prX x (rW r q)).2=0∧k=kyX x r q) (fun k hk=>by cases hk) (fun q hq hp=>⟨q,hq,hp,rfl⟩)
 obtain ⟨k,hk,hle⟩:=b3 l hl hp
 obtain ⟨q,hq,hq0,rfl⟩:=b1 k hk
 refine ⟨q,hq0,?_,hle,hq⟩
 unfold insX bestI
 rw [if_pos ht,if_pos ho,if_neg (by simp [hf]),if_neg (by simp [hh]),hk]
 rfl
theorem QC1 (ho:¬ (0≤o∧o<x.orders.length)):Qgl x.orders o=some []:=by
 unfold Qgl QjL
 rw [Qaj,QaV]
 rw [Bool.and_eq_false_iff]
 by_cases h:0≤o
 ·exact .inr (by simp [lenI]; omega)
 ·exact .inl (by simp; omega)
theorem QsX (x:Qac) (hI:InstI x) (r:Qad) (hR:QlQ r) (o place:Int):Qfh x r o place=some true:=by
 apply post.eq
 unfold Qfh
 rw [QsO]
 refine Qa6 (QBe hI) fun b hb=>QaS (fun _=>QaA.2 rfl) (fun h=>?_)
 simp only [orF,Bool.not_eq_false',gtI_f,ltI_f,lenI] at h
 obtain ⟨⟨⟨h1,h2⟩,h3⟩,h4⟩:=h
 have hx:=hb h1
 obtain ⟨k,rfl⟩:∃ k:Nat,place=k:=⟨place.toNat,by omega⟩
 by_cases ho:0≤o∧o<x.orders.length
 case neg=>rw [QC1 ho,Qaj,Qa4 (by rfl)]; exact QaA.2 rfl
 rw [QuE hx ho.1 ho.2,Qaj]
 refine QaS (fun _=>QaA.2 rfl) (fun h5=>?_)
 rw [neI_f,lenI] at h5
 obtain ⟨v,hv⟩:∃ v,visO x o=[v]:=List.length_eq_one_iff.1 (by omega)
 have hi:InsI r o:=⟨hR,by omega,fun _=>by omega⟩
 rw [hv,QB3 (by omega),Qaj,QfJ (QfE (by simp; omega)),show getI [v] 0=some v from rfl,Qaj,QfJ (QfE (by simp; omega))]
 have hd:slcI r.visits (k:Int) (lenI r.visits)=some (r.visits.drop k):=by
  unfold slcI lenI
  rw [if_pos (by omega)]
  simp only [Int.toNat_natCast]
  rw [List.take_of_length_le (by rw [List.length_drop]; omega)]
 have hlen:(insAt r.visits k v).length=r.visits.length+1:=QlR
 rw [hd,Qaj,QfJ (QfE (by simp; omega)),show Qad.mk r.type_ r.start r.rests (r.visits.take k++[v]++r.visits.drop k)=rW r (insAt r.visits k v) from rfl]
 obtain ⟨hRW,h9⟩:=rW_I (l:=insAt r.visits k v) hR (by omega)
 rw [(QuA hx hRW h9).1,Qaj,QyR hx hi,Qaj]
 refine QaS (fun _=>QaA.2 rfl) (fun h6=>?_)
 rw [neI_f] at h6
 have hq:=QDg hx hRW h9 h6
 have ht:0≤r.type_∧r.type_<x.types.length:=by
  obtain ⟨_,_,_,_,e5⟩:=QwW hx hRW h9
  obtain ⟨_,q,hE⟩:=e5 (pr_ev hx hRW h9 h6)
  exact hE.type_
 have hvo:v∈visO x o:=by rw [hv]; simp
 have hvm:v∈insAt r.visits k v:=by unfold insAt; simp
 have hf:offN x o.toNat=false:=by
  have:=List.any_eq_false.1 hq.off v hvm
  unfold offV at this
  rw [QvW hvo,List.getElem?_eq_getElem (show o.toNat<x.orders.length by omega)] at this
  unfold offN
  rw [List.getElem?_eq_getElem (show o.toNat<x.orders.length by omega)]
  simpa using this
 have hh:hasO r.visits o=false:=by
  rw [Bool.eq_false_iff]
  intro hc
  obtain ⟨w,hw,hwo⟩:=Quc.1 hc
  have hwm:w∈insAt r.visits k v:=by
   unfold insAt
   rw [← List.take_append_drop k r.visits] at hw
   rcases List.mem_append.1 hw with hw|hw
   ·exact List.mem_append_left _ (List.mem_append_left _ hw)
   ·exact List.mem_append_right _ hw
  have h7:=hq.own hwm
  rw [hwo,hv,List.mem_singleton] at h7
  subst h7
  have hn:=hq.nodup
  unfold insAt at hn
  rw [← List.take_append_drop k r.visits] at hw
  rw [List.append_assoc] at hn
  obtain ⟨_,n2,n3⟩:=List.nodup_append.1 hn
  rcases List.mem_append.1 hw with hw|hw
  ·exact n3 w hw w (by simp) rfl
  ·exact (List.nodup_cons.1 n2).1 hw
 obtain ⟨q,q1,q2,q3,q4⟩:=QAc (l:=insAt r.visits k v) hx (by
  rw [hv,plcS,List.mem_flatMap]
  exact ⟨k,by rw [List.mem_range'_1]; omega,by rw [plcS]; exact List.mem_singleton.2 rfl⟩) ht ho hf hh h6
 have hql:=Qwm q q4
 rw [hv,List.length_singleton] at hql
 obtain ⟨hRq,h9q⟩:=rW_I (l:=q) hR (by omega)
 rw [q2,(QuA hx hRq h9q).1,Qaj,Qa4 (by simp [q1]; exact q3)]
 exact QaA.2 rfl
end
end Go.Proofs.YtpkkaboonnedfaaGreatDoor
