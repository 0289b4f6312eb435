/- Part MX of the proof: texts Kua Kub Kuc Kud Kue Kuf Kug Kuh Kui Kuj Kuk Kum Kyu. -/
import Derived.Test.YtbilkblifgaflaaGreatDoorMR
namespace Go.Proofs.YtbilkblifgaflaaGreatDoor
set_option linter.unusedSimpArgs false
set_option linter.unusedVariables false
set_option linter.unusedSectionVars false
def ltV (a b:Qad):Bool:=ltI a.order b.order||(eqI a.order b.order&&(!a.drop&&b.drop))
theorem QGe {a b:Qad}:ltV a b=true↔a.order<b.order∨(a.order=b.order∧a.drop=false∧b.drop=true):=by
 unfold ltV
 simp
theorem QAz {a:Qad}:ltV a a=false:=by
 rw [Bool.eq_false_iff]
 intro h
 rw [QGe] at h
 rcases h with h|⟨_,h1,h2⟩
 ·omega
 ·rw [h1] at h2; cases h2
theorem QAA {a b c:Qad} (h1:ltV a b=true) (h2:ltV b c=true):ltV a c=true:=by
 rw [QGe] at *
 rcases h1 with h1|⟨h1,h3,h4⟩ <;> rcases h2 with h2|⟨h2,h5,h6⟩
 ·exact .inl (by omega)
 ·exact .inl (by omega)
 ·exact .inl (by omega)
 ·rw [h4] at h5; cases h5
theorem QGR (a b:Qad):a=b∨ltV a b=true∨ltV b a=true:=by
 rcases Int.lt_trichotomy a.order b.order with h|h|h
 ·exact .inr (.inl (QGe.2 (.inl h)))
 ·cases ha:a.drop <;> cases hb:b.drop
  ·exact .inl (by cases a; cases b; simp_all)
  ·exact .inr (.inl (QGe.2 (.inr ⟨h,ha,hb⟩)))
  ·exact .inr (.inr (QGe.2 (.inr ⟨h.symm,hb,ha⟩)))
  ·exact .inl (by cases a; cases b; simp_all)
 ·exact .inr (.inr (QGe.2 (.inl h)))
def Qza:List Qad→List Qad→Bool
 | [],[]=>false
 | [],_ :: _=>true
 | _ :: _,[]=>false
 | a :: l,b :: m=>ltV a b||(decide (a=b)&&Qza l m)
theorem QAs:∀ {l:List Qad},Qza l l=false
 | []=>rfl
 | a :: l=>by unfold Qza; rw [QAz,QAs]; simp
theorem QxV:∀ {a b c:List Qad},Qza a b=true→Qza b c=true→Qza a c=true
 | [],[],_,h,_=>by cases h
 | _ :: _,[],_,h,_=>by cases h
 | [],_ :: _,[],_,h=>by cases h
 | [],_ :: _,_ :: _,_,_=>rfl
 | _ :: _,_ :: _,[],_,h=>by cases h
 | x :: a,y :: b,z :: c,h1,h2=>by
  unfold Qza at *
  simp only [Bool.or_eq_true,Bool.and_eq_true,decide_eq_true_iff] at *
  rcases h1 with h1|⟨rfl,h1⟩
  ·rcases h2 with h2|⟨rfl,h2⟩
   ·exact .inl (QAA h1 h2)
   ·exact .inl h1
  ·rcases h2 with h2|⟨rfl,h2⟩
   ·exact .inl h2
   ·exact .inr ⟨rfl,QxV h1 h2⟩
theorem QAu:∀ (a b:List Qad),a=b∨Qza a b=true∨Qza b a=true
 | [],[]=>.inl rfl
 | [],_ :: _=>.inr (.inl rfl)
 | _ :: _,[]=>.inr (.inr rfl)
 | x :: a,y :: b=>by
  unfold Qza
  simp only [Bool.or_eq_true,Bool.and_eq_true,decide_eq_true_iff]
  rcases QGR x y with rfl|h|h
  ·rcases QAu a b with rfl|h|h
   ·exact .inl rfl
   ·exact .inr (.inl (.inr ⟨rfl,h⟩))
   ·exact .inr (.inr (.inr ⟨rfl,h⟩))
  ·exact .inr (.inl (.inl h))
  ·exact .inr (.inr (.inl h))
theorem QAt:∀ {l a b:List Qad},Qza (l++a) (l++b)=Qza a b
 | [],_,_=>rfl
 | x :: l,a,b=>by
  rw [List.cons_append,List.cons_append,Qza,QAz,QAt]
  simp
abbrev Ky:=Int×List Qad
def kLt (k q:Ky):Prop:=k.1<q.1∨(k.1=q.1∧Qza k.2 q.2=true)
theorem QCn {k:Ky}:¬ kLt k k:=by
 rintro (h|⟨_,h⟩)
 ·omega
 ·rw [QAs] at h; cases h
theorem QDZ {a b c:Ky} (h1:kLt a b) (h2:kLt b c):kLt a c:=by
 rcases h1 with h1|⟨h1,h3⟩ <;> rcases h2 with h2|⟨h2,h4⟩
 ·exact .inl (by omega)
 ·exact .inl (by omega)
 ·exact .inl (by omega)
 ·exact .inr ⟨by omega,QxV h3 h4⟩
theorem QGP (a b:Ky):a=b∨kLt a b∨kLt b a:=by
 rcases Int.lt_trichotomy a.1 b.1 with h|h|h
 ·exact .inr (.inl (.inl h))
 ·rcases QAu a.2 b.2 with h'|h'|h'
  ·exact .inl (Prod.ext h h')
  ·exact .inr (.inl (.inr ⟨h,h'⟩))
  ·exact .inr (.inr (.inr ⟨h.symm,h'⟩))
 ·exact .inr (.inr (.inl h))
theorem QDY {a b c:Ky} (h1:¬ kLt a b) (h2:¬ kLt b c):¬ kLt a c:=fun h=>by
 rcases QGP b c with rfl|h3|h3
 ·exact h1 h
 ·exact h2 h3
 ·exact h1 (QDZ h h3)
def Bst (S:Ky→Prop) (s t:Option Ky):Prop:=(∀ k,t=some k→s=some k∨S k)∧(∀ k,(s=some k∨S k)→∃ k',t=some k'∧¬ kLt k k')
theorem Bst.none {S:Ky→Prop} {s:Option Ky} (h:∀ k,¬ S k):Bst S s s :=
 ⟨fun k e=>.inl e,fun k e=>e.elim (fun e=>⟨k,e,QCn⟩) fun e=>absurd e (h k)⟩
theorem Bst.comp {S T:Ky→Prop} {s t u:Option Ky} (h1:Bst S s t) (h2:Bst T t u):Bst (fun k=>S k∨T k) s u:=by
 refine ⟨fun k e=>?_,fun k e=>?_⟩
 ·rcases h2.1 k e with e|e
  ·rcases h1.1 k e with e|e
   ·exact .inl e
   ·exact .inr (.inl e)
  ·exact .inr (.inr e)
 ·have go:(s=some k∨S k)→∃ k',u=some k'∧¬ kLt k k':=fun e=>by
   obtain ⟨a,ha,hl⟩:=h1.2 k e
   obtain ⟨b,hb,hm⟩:=h2.2 a (.inl ha)
   exact ⟨b,hb,QDY hl hm⟩
  rcases e with e|e|e
  ·exact go (.inl e)
  ·exact go (.inr e)
  ·exact h2.2 k (.inr e)
theorem Bst.congr {S T:Ky→Prop} {s t:Option Ky} (h:Bst S s t) (he:∀ k,S k↔T k):Bst T s t :=
 ⟨fun k e=>(h.1 k e).imp id (he k).1,fun k e=>h.2 k (e.imp id (he k).2)⟩
theorem Bst.one {S:Ky→Prop} {k:Ky} (hS:∀ q,S q↔q=k) {s t:Option Ky} (h:(t=some k∧∀ q,s=some q→¬ kLt q k)∨(t=s∧∃ q,s=some q∧¬ kLt k q)):Bst S s t:=by
 rcases h with ⟨rfl,h⟩|⟨rfl,q,rfl,h⟩
 ·refine ⟨fun q e=>.inr ((hS q).2 (Option.some.inj e).symm),fun q e=>⟨k,rfl,?_⟩⟩
  rcases e with e|e
  ·exact h q e
  ·rw [(hS q).1 e]; exact QCn
 ·refine ⟨fun q e=>.inl e,fun q' e=>?_⟩
  rcases e with e|e
  ·exact ⟨q',e,QCn⟩
  ·rw [(hS q').1 e]; exact ⟨q,rfl,h⟩
theorem Bst.nil {S:Ky→Prop} {s:Option Ky} (h:∀ k,¬ S k):Bst S s s:=Bst.none h
theorem Bst.more {α:Type} {T:α→Ky→Prop} {l:List α} {i:Nat} {a:α} {s t u:Option Ky} (h:Bst (fun k=>∃ b∈l.take i,T b k) s t) (ha:l[i]?=some a) (h2:Bst (T a) t u):Bst (fun k=>∃ b∈l.take (i+1),T b k) s u:=by
 refine (h.comp h2).congr fun k=>?_
 rw [take_one ha]
 constructor
 ·rintro (⟨b,hb,h⟩|h)
  ·exact ⟨b,List.mem_append_left _ hb,h⟩
  ·exact ⟨a,by simp,h⟩
 ·rintro ⟨b,hb,h⟩
  rcases List.mem_append.1 hb with hb|hb
  ·exact .inl ⟨b,hb,h⟩
  ·rw [List.mem_singleton.1 hb] at h; exact .inr h
end Go.Proofs.YtbilkblifgaflaaGreatDoor
namespace Go.Proofs.YtbilkblifgaflaaGreatDoor
set_option linter.unusedSimpArgs false
set_option linter.unusedVariables false
set_option linter.unusedSectionVars false
def QFx (v:Qad):List Qad→List Qad
 | []=>[]
 | w :: r=>if w=v then [] else w :: QFx v r
def QG1 (x:Qab) (l:List Qad) (o:Int):Bool:=x.before.all fun p=>!eqI p.x1 o||(visO x p.x0).all fun w=>l.any (isV w)
def QG2 (x:Qab) (l:List Qad) (v:Qad):Bool:=!l.any (isV v)&&((QFx v (visO x v.order)).all (fun w=>l.any (isV w))&&QG1 x l v.order)
structure QF8 (x:Qab) (l:List Qad):Prop where
 nodup:l.Nodup
 inn:∀ v∈l,0≤v.order∧v.order<x.orders.length
section
variable {x : Qab} {l t : List Qad} {m : Nat} {v w : Qad}
theorem QDi {o:Int} (h:v∈visO x o):v.order=o:=by
 unfold visO at h
 split at h
 ·rcases List.mem_append.1 h with h|h <;> (split at h <;> simp at h; rw [h])
 ·cases h
theorem QF8.add (h:QF8 x l) (hv:v ∉ l) (h0:0≤v.order∧v.order<x.orders.length):QF8 x (l++[v]):=by
 refine ⟨List.nodup_append.2 ⟨h.nodup,by simp,fun a ha b hb=>?_⟩,fun w hw=>?_⟩
 ·rw [List.mem_singleton.1 hb]; exact fun e=>hv (e ▸ ha)
 ·rcases List.mem_append.1 hw with hw|hw
  ·exact h.inn w hw
  ·rw [List.mem_singleton.1 hw]; exact h0
theorem QF8.len (h:QF8 x l):l.length≤2*x.orders.length:=by
 have hm:(l.map fun v:Qad=>2*v.order.toNat+(if v.drop=true then 1 else 0)).Nodup:=by
  unfold List.Nodup
  rw [List.pairwise_map]
  refine h.nodup.imp_of_mem fun {a b} ha hb hne he=>hne ?_
  have h1:=h.inn a ha
  have h2:=h.inn b hb
  cases a with
  | mk ao ad =>
   cases b with
   | mk bo bd =>
    simp only at h1 h2 he
    have hd:ad=bd∧ao=bo:=by
     cases ad <;> cases bd <;> simp at he ⊢ <;> omega
    rw [hd.1,hd.2]
 have:=QzM (2*x.orders.length) _ hm fun a ha=>by
  obtain ⟨v,hv,rfl⟩:=List.mem_map.1 ha
  have h1:=h.inn v hv
  split <;> omega
 simpa using this
theorem QBI.good (h:QBI x l):QF8 x l:=⟨h.nodup,fun v hv=>QHM h.inn hv⟩
theorem QBI.all (h:QBI x l) {o:Int} (ho:hasO l o=true) (hw:w∈visO x o):w∈l:=by
 obtain ⟨v,hv,rfl⟩:=QFw.1 ho
 have hp:=h.pair v hv
 unfold QHq at hp
 rw [Bool.and_eq_true] at hp
 have hr:=hp.2
 cases hvis:visO x v.order with
 | nil=>rw [hvis] at hw; cases hw
 | cons a r =>
  rw [hvis] at hr hw
  cases r with
  | nil =>
   simp only [rowB,Qxr] at hr
   rw [List.mem_singleton.1 hw]
   exact QDW.1 hr
  | cons b r =>
   obtain ⟨rfl,_⟩:=QDj hvis
   simp only [rowB,Qxr,Bool.and_eq_true,Qou] at hr
   rcases List.mem_cons.1 hw with rfl|hw
   ·exact QDW.1 hr.1
   ·rw [List.mem_singleton.1 hw]
    exact QDW.1 (by omega)
theorem QBI.own (h:QBI x l) (hv:v∈l):v∈visO x v.order:=by
 have hp:=h.pair v hv
 unfold QHq at hp
 rw [Bool.and_eq_true] at hp
 exact QGb.1 hp.1
theorem QHO (h:(l++v :: t).Nodup):ixI (isV v) (l++v :: t)=(l.length:Int):=by
 have h0:=QDW.2 (show v∈l++v :: t by simp)
 obtain ⟨k,hk⟩:∃ k:Nat,ixI (isV v) (l++v :: t)=k:=⟨(ixI (isV v) (l++v :: t)).toNat,by omega⟩
 obtain ⟨h1,h2⟩:=QGO hk
 rw [hk]
 rcases Nat.lt_trichotomy k l.length with h3|h3|h3
 ·rw [List.getElem?_append_left h3] at h1
  exact absurd rfl ((List.nodup_append.1 h).2.2 v (List.mem_of_getElem? h1) v (by simp))
 ·rw [h3]
 ·exact absurd (by rw [List.getElem?_append_right (Nat.le_refl _)]; simp) (h2 l.length h3)
theorem QIr (h:ixI (isV w) (l++t)<(l.length:Int)) (h0:0≤ixI (isV w) (l++t)):w∈l:=by
 obtain ⟨k,hk⟩:∃ k:Nat,ixI (isV w) (l++t)=k:=⟨(ixI (isV w) (l++t)).toNat,by omega⟩
 obtain ⟨h1,_⟩:=QGO hk
 rw [List.getElem?_append_left (by omega)] at h1
 exact List.mem_of_getElem? h1
theorem QBI.head (h:QBI x (l++v :: t)) (hw:w∈QFx v (visO x v.order)):w∈l:=by
 have hp:=h.pair v (by simp)
 unfold QHq at hp
 rw [Bool.and_eq_true] at hp
 obtain ⟨h1,hr⟩:=hp
 have hv:=QGb.1 h1
 have hix:=QHO h.nodup
 cases hvis:visO x v.order with
 | nil=>rw [hvis] at hw; cases hw
 | cons a r =>
  rw [hvis] at hr hw hv
  cases r with
  | nil =>
   rw [QFx,if_pos (List.mem_singleton.1 hv).symm] at hw
   cases hw
  | cons b r =>
   obtain ⟨rfl,hne⟩:=QDj hvis
   by_cases ha:a=v
   ·rw [QFx,if_pos ha] at hw; cases hw
   ·have hb:b=v:=by
     rcases List.mem_cons.1 hv with h|h
     ·exact absurd h.symm ha
     ·exact (List.mem_singleton.1 h).symm
    rw [QFx,if_neg ha,QFx,if_pos hb] at hw
    rw [List.mem_singleton.1 hw]
    simp only [rowB,Qxr,Bool.and_eq_true,Qou] at hr
    rw [hb,hix] at hr
    exact QIr hr.2 hr.1
theorem QDC (h:QBI x (l++v :: t)) {p:Qav} (hp:p∈x.before) (ho:p.x1=v.order) (hw:w∈visO x p.x0):w∈l:=by
 have hb:hasO (l++v :: t) p.x1=true:=QFw.2 ⟨v,by simp,ho.symm⟩
 have h1:badB (l++v :: t) p=false:=by simpa using List.any_eq_false.1 h.before p hp
 unfold badB at h1
 rw [hb,Bool.true_and] at h1
 simp only [Bool.or_eq_false_iff,Bool.not_eq_false'] at h1
 obtain ⟨h2,h3⟩:=h1
 have hm:=h.all h2 hw
 rcases List.mem_append.1 hm with hm|hm
 ·exact hm
 ·exfalso
  unfold QId at h3
  cases e:ixP (isO p.x1) (l++v :: t) with
  | none =>
   have:=QzG e v (by simp)
   rw [QIb.2 ho.symm] at this
   cases this
  | some k =>
   rw [e] at h3
   simp only at h3
   have hk:k≤l.length:=Nat.le_of_not_lt fun hlt=>by
    have:=(QwT e).2.2 l.length hlt
    rw [List.getElem_append_right (Nat.le_refl _)] at this
    simp only [Nat.sub_self,List.getElem_cons_zero] at this
    rw [QIb.2 ho.symm] at this
    cases this
   have:hasO ((l++v :: t).drop k) p.x0=true:=QFw.2 ⟨w,by rw [List.drop_append_of_le_length hk]; exact List.mem_append_right _ hm,QDi hw⟩
   rw [this] at h3
   cases h3
theorem QBI.ready (h:QBI x (l++v :: t)):QG2 x l v=true:=by
 unfold QG2
 have hn:v ∉ l:=fun hv=>(List.nodup_append.1 h.nodup).2.2 v hv v (by simp) rfl
 have e1:l.any (isV v)=false:=by rw [Bool.eq_false_iff,Ne,QGb]; exact hn
 rw [e1,Bool.not_false,Bool.true_and,Bool.and_eq_true,List.all_eq_true]
 refine ⟨fun w hw=>QGb.2 (h.head hw),?_⟩
 unfold QG1
 rw [List.all_eq_true]
 intro p hp
 by_cases ho:p.x1=v.order
 ·rw [Bool.or_eq_true]
  exact .inr (List.all_eq_true.2 fun w hw=>QGb.2 (QDC h hp ho hw))
 ·rw [Bool.or_eq_true]
  exact .inl (by simpa using ho)
end
end Go.Proofs.YtbilkblifgaflaaGreatDoor
namespace Go.Proofs.YtbilkblifgaflaaGreatDoor
set_option linter.unusedSimpArgs false
set_option linter.unusedVariables false
set_option linter.unusedSectionVars false
theorem Qvh {α E:Type} {l:List α} (hl:l.length≤1048576) (p:α→Bool) (N:List α→E) {B:List α×Int→Option ((List α×Int)⊕E)} (s0:List α)
  (hin:∀ (s:List α) (i:Nat) (a:α),l[i]?=some a→s.length≤s0.length+i→B (s,(i:Int))=some (.inl (if p a=true then s++[a] else s,(i:Int)+1)))
  (hend:∀ s,B (s,(l.length:Int))=some (.inr (N s))):QaX B (s0,0)=some (N (s0++l.filter p)):=by
 rw [QCA (B:=B) hl (fun s a=>.inl (if p a=true then s++[a] else s)) N (fun i s=>s.length≤s0.length+i) (fun s i a h hi=>⟨hin s i a h hi,fun s' h'=>by
  cases h'
  split
  ·simp; omega
  ·omega⟩) (fun s _=>hend s) (Nat.le_refl _)]
 congr 1
 have key:∀ (l s:List α),QDN (fun s a=>(.inl (if p a=true then s++[a] else s):List α⊕E)) N s l=N (s++l.filter p):=by
  intro l
  induction l with
  | nil=>intro s; simp [QDN]
  | cons a r ih =>
   intro s
   rw [QDO rfl,ih,List.filter_cons]
   split <;> simp
 exact key l s0
end Go.Proofs.YtbilkblifgaflaaGreatDoor
namespace Go.Proofs.YtbilkblifgaflaaGreatDoor
set_option linter.unusedSimpArgs false
set_option linter.unusedVariables false
set_option linter.unusedSectionVars false
def rW (b:Qax) (l:List Qad):Qax:=Qax.mk b.type_ b.start b.rests l
noncomputable def prX (x:Qab) (r:Qax):Int×Int:=(Qtf x r).getD (0,1)
def ordS (l:List Qad) (m:Nat):Prop:=∀ i:Nat,m.testBit i=hasO l (i:Int)
def ValR (x:Qab) (b:Qax) (m:Nat) (l:List Qad):Prop:=l.length≤1048576∧(prX x (rW b l)).2=0∧ordS l m
noncomputable def kyX (x:Qab) (b:Qax) (l:List Qad):Ky:=((prX x (rW b l)).1,l)
def QIn (x:Qab) (b:Qax) (m:Nat) (l:List Qad) (k:Ky):Prop:=∃ t,ValR x b m (l++t)∧k=kyX x b (l++t)
instance (k q:Ky):Decidable (kLt k q):=inferInstanceAs (Decidable (_∨_))
end Go.Proofs.YtbilkblifgaflaaGreatDoor
namespace Go.Proofs.YtbilkblifgaflaaGreatDoor
set_option linter.unusedSimpArgs false
set_option linter.unusedVariables false
set_option linter.unusedSectionVars false
section
variable {x : Qab} {b r : Qax} {l t : List Qad} {m n : Nat} {v : Qad} {s : Option Ky}
def PreS (s:Option Ky) (l:List Qad):Prop:=∀ k,s=some k→∀ t,Qza (l++t) k.2=false
theorem QEq {vs:List Qad} {i:Nat} {v:Qad} (hi:i<vs.length):v∈vs.take i↔∃ j,j<i∧vs[j]?=some v:=QFZ (by omega)
theorem PreS.step {vs:List Qad} (hs:vs.Pairwise fun a b=>ltV a b=true) {i:Nat} {s':Option Ky} (hp:PreS s l) (hb:Bst (fun k=>∃ v∈vs.take i,QIn x b m (l++[v]) k) s s') {w:Qad} (hw:vs[i]?=some w):PreS s' (l++[w]):=by
 intro k e t
 rcases hb.1 k e with e|⟨v,hv,t',_,rfl⟩
 ·rw [List.append_assoc]
  exact hp k e _
 ·show Qza (l++[w]++t) (l++[v]++t')=false
  rw [List.append_assoc,List.append_assoc,QAt,List.singleton_append,List.singleton_append,Qza]
  obtain ⟨j,hj,hjv⟩:=(QEq (List.getElem?_eq_some_iff.1 hw).1).1 hv
  have hlt:ltV v w=true:=by
   rw [List.pairwise_iff_getElem] at hs
   obtain ⟨a1,a2⟩:=List.getElem?_eq_some_iff.1 hw
   obtain ⟨b1,b2⟩:=List.getElem?_eq_some_iff.1 hjv
   have:=hs j i b1 a1 hj
   rw [a2,b2] at this
   exact this
  have h1:ltV w v=false:=Bool.eq_false_iff.2 fun h=>by
   have:=QAA h hlt
   rw [QAz] at this
   cases this
  have h2:¬ w=v:=fun h=>by rw [h,QAz] at hlt; cases hlt
  rw [h1,decide_eq_false h2]
  rfl
end
end Go.Proofs.YtbilkblifgaflaaGreatDoor
namespace Go.Proofs.YtbilkblifgaflaaGreatDoor
set_option linter.unusedSimpArgs false
set_option linter.unusedVariables false
set_option linter.unusedSectionVars false
section
variable {x : Qab} {b r : Qax} {l t : List Qad} {m n : Nat} {v : Qad} {s : Option Ky} {kind : Int}
def isS (v a:Qaq):Bool:=eqI v.ready a.ready&&(eqI v.driven a.driven&&true)
end
end Go.Proofs.YtbilkblifgaflaaGreatDoor
