/- Part MX. -/
import Derived.Test.YtkcilfpbgjjjbaaGreatDoorMR
set_option linter.unusedSimpArgs false
set_option linter.unusedVariables false
set_option linter.unusedSectionVars false
namespace Go.Proofs.YtkcilfpbgjjjbaaGreatDoor
noncomputable section
def ltV(a b:ae):Bool:=bh a.aJ b.aJ||(cM a.aJ b.aJ&&(!a.drop&&b.drop))
theorem Ns{a b:ae}:ltV a b=true↔a.aJ<b.aJ∨(a.aJ=b.aJ∧a.drop=false∧b.drop=true):=by
 unfold ltV;simp
theorem TM{a:ae}:ltV a a=false:=by
 rw[Bool.eq_false_iff];intro h;rw[Ns]at h;rcases h with h|⟨_,h1,h2⟩
 ·omega
 ·rw[h1]at h2;cases h2
theorem QaM{a b c:ae}(h1:ltV a b=true)(h2:ltV b c=true):ltV a c=true:=by
 rw[Ns]at *;rcases h1 with h1|⟨h1,h3,h4⟩ <;> rcases h2 with h2|⟨h2,h5,h6⟩
 ·exact .inl (by omega)
 ·exact .inl (by omega)
 ·exact .inl (by omega)
 ·rw[h4]at h5;cases h5
theorem Qe8(a b:ae):a=b∨ltV a b=true∨ltV b a=true:=by
 rcases Int.lt_trichotomy a.aJ b.aJ with h|h|h
 ·exact .inr (.inl (Ns.2 (.inl h)))
 ·cases ha:a.drop <;> cases hb:b.drop
  ·exact .inl (by cases a;cases b;simp_all)
  ·exact .inr (.inl (Ns.2 (.inr ⟨h,ha,hb⟩)))
  ·exact .inr (.inr (Ns.2 (.inr ⟨h.symm,hb,ha⟩)))
  ·exact .inl (by cases a;cases b;simp_all)
 ·exact .inr (.inr (Ns.2 (.inl h)))
def yT:List ae→List ae→Bool
 | [],[]=>false
 | [],_ ::_=>true
 |_ ::_,[]=>false
 |a ::l,b ::m=>ltV a b||(decide (a=b)&&yT l m)
theorem R5:∀{l:List ae},yT l l=false
 | []=>rfl
 |a ::l=>by unfold yT;rw[TM,R5];simp
theorem Np:∀{a b c:List ae},yT a b=true→yT b c=true→yT a c=true
 | [],[],_,h,_=>by cases h
 |_ ::_,[],_,h,_=>by cases h
 | [],_ ::_,[],_,h=>by cases h
 | [],_ ::_,_ ::_,_,_=>rfl
 |_ ::_,_ ::_,[],_,h=>by cases h
 |x ::a,y ::b,z ::c,h1,h2=>by
  unfold yT at *;simp only[Bool.or_eq_true,Bool.and_eq_true,decide_eq_true_iff]at *;rcases h1 with h1|⟨rfl,h1⟩
  ·rcases h2 with h2|⟨rfl,h2⟩
   ·exact .inl (QaM h1 h2)
   ·exact .inl h1
  ·rcases h2 with h2|⟨rfl,h2⟩
   ·exact .inl h2
   ·exact .inr ⟨rfl,Np h1 h2⟩
theorem R6:∀(a b:List ae),a=b∨yT a b=true∨yT b a=true
 | [],[]=>.inl rfl
 | [],_ ::_=>.inr (.inl rfl)
 |_ ::_,[]=>.inr (.inr rfl)
 |x ::a,y ::b=>by
  unfold yT;simp only[Bool.or_eq_true,Bool.and_eq_true,decide_eq_true_iff];rcases Qe8 x y with rfl|h|h
  ·rcases R6 a b with rfl|h|h
   ·exact .inl rfl
   ·exact .inr (.inl (.inr ⟨rfl,h⟩))
   ·exact .inr (.inr (.inr ⟨rfl,h⟩))
  ·exact .inr (.inl (.inl h))
  ·exact .inr (.inr (.inl h))
abbrev Ky:=Int×List ae
def QE(k q:Ky):Prop:=k.1<q.1∨(k.1=q.1∧yT k.2 q.2=true)
theorem Ov{k:Ky}:¬QE k k:=by
 rintro(h|⟨_,h⟩)
 ·omega
 ·rw[R5]at h;cases h
theorem R4{a b c:Ky}(h1:QE a b)(h2:QE b c):QE a c:=by
 rcases h1 with h1|⟨h1,h3⟩ <;> rcases h2 with h2|⟨h2,h4⟩
 ·exact .inl (by omega)
 ·exact .inl (by omega)
 ·exact .inl (by omega)
 ·exact .inr ⟨by omega,Np h3 h4⟩
theorem Zs(a b:Ky):a=b∨QE a b∨QE b a:=by
 rcases Int.lt_trichotomy a.1 b.1 with h|h|h
 ·exact .inr (.inl (.inl h))
 ·rcases R6 a.2 b.2 with h'|h'|h'
  ·exact .inl (Prod.ext h h')
  ·exact .inr (.inl (.inr ⟨h,h'⟩))
  ·exact .inr (.inr (.inr ⟨h.symm,h'⟩))
 ·exact .inr (.inr (.inl h))
theorem QaF{a b c:Ky}(h1:¬QE a b)(h2:¬QE b c):¬QE a c:=fun h=>by
 rcases Zs b c with rfl|h3|h3
 ·exact h1 h
 ·exact h2 h3
 ·exact h1 (R4 h h3)
def HP(S:Ky→Prop)(s t:Option Ky):Prop:=(∀k,t=some k→s=some k∨S k)∧(∀k,(s=some k∨S k)→∃k',t=some k'∧¬QE k k')
theorem HP.none{S:Ky→Prop}{s:Option Ky}(h:∀k,¬S k):HP S s s:=
 ⟨fun k e=>.inl e,fun k e=>e.elim (fun e=>⟨k,e,Ov⟩) fun e=>absurd e (h k)⟩
theorem HP.comp{S T:Ky→Prop}{s t u:Option Ky}(h1:HP S s t)(h2:HP T t u):HP (fun k=>S k∨T k) s u:=by
 refine⟨fun k e=>?_,fun k e=>?_⟩
 ·rcases h2.1 k e with e|e
  ·rcases h1.1 k e with e|e
   ·exact .inl e
   ·exact .inr (.inl e)
  ·exact .inr (.inr e)
 ·have go:(s=some k∨S k)→∃k',u=some k'∧¬QE k k':=fun e=>by
   obtain⟨a,ha,hl⟩:=h1.2 k e;obtain⟨b,hb,hm⟩:=h2.2 a (.inl ha);exact⟨b,hb,QaF hl hm⟩
  rcases e with e|e|e
  ·exact go (.inl e)
  ·exact go (.inr e)
  ·exact h2.2 k (.inr e)
theorem HP.congr{S T:Ky→Prop}{s t:Option Ky}(h:HP S s t)(he:∀k,S k↔T k):HP T s t:=
 ⟨fun k e=>(h.1 k e).imp id (he k).1,fun k e=>h.2 k (e.imp id (he k).2)⟩
theorem HP.uniq{S:Ky→Prop}{s t u:Option Ky}(h1:HP S s t)(h2:HP S s u):t=u:=by
 cases t with
 |none =>
  cases u with
  |none=>rfl
  |some k=>obtain⟨k',e,_⟩:=h1.2 k (h2.1 k rfl);cases e
 |some k =>
  obtain⟨k',e,h3⟩:=h2.2 k (h1.1 k rfl);obtain⟨k'',e',h4⟩:=h1.2 k' (h2.1 k' e);cases e';rcases Zs k k' with rfl|h|h
  ·exact e.symm
  ·exact absurd h h3
  ·exact absurd h h4
theorem HP.one{S:Ky→Prop}{k:Ky}(hS:∀q,S q↔q=k){s t:Option Ky}(h:(t=some k∧∀q,s=some q→¬QE q k)∨(t=s∧∃q,s=some q∧¬QE k q)):HP S s t:=by
 rcases h with⟨rfl,h⟩|⟨rfl,q,rfl,h⟩
 ·refine⟨fun q e=>.inr ((hS q).2 (Option.some.inj e).symm),fun q e=>⟨k,rfl,?_⟩⟩
  rcases e with e|e
  ·exact h q e
  ·rw[(hS q).1 e];exact Ov
 ·refine⟨fun q e=>.inl e,fun q' e=>?_⟩
  rcases e with e|e
  ·exact⟨q',e,Ov⟩
  ·rw[(hS q').1 e];exact⟨q,rfl,h⟩
theorem HP.more{α:Type}{T:α→Ky→Prop}{l:List α}{i:Nat}{a:α}{s t u:Option Ky}(h:HP (fun k=>∃b∈l.take i,T b k) s t)(ha:l[i]?=some a)(h2:HP (T a) t u):HP (fun k=>∃b∈l.take (i+1),T b k) s u:=by
 refine(h.comp h2).congr fun k=>?_
 rw[take_one ha];constructor
 ·rintro(⟨b,hb,h⟩|h)
  ·exact⟨b,List.mem_append_left _ hb,h⟩
  ·exact⟨a,by simp,h⟩
 ·rintro⟨b,hb,h⟩;rcases List.mem_append.1 hb with hb|hb
  ·exact .inl ⟨b,hb,h⟩
  ·rw[List.mem_singleton.1 hb]at h;exact .inr h
def FC(v:ae):List ae→List ae
 | []=>[]
 |w ::r=>if w=v then []else w ::FC v r
def Yn(x:ab)(l:List ae)(o:Int):Bool:=x.before.all fun p=>!cM p.x1 o||(gO x p.x0).all fun w=>l.any (nS w)
def BQ(x:ab)(l:List ae)(v:ae):Bool:=!l.any (nS v)&&((FC v (gO x v.aJ)).all (fun w=>l.any (nS w))&&Yn x l v.aJ)
def VV(x:ab)(i:Nat):Bool:=match x.ah[i]? with
 |some o=>o.off
 |none=>true
def qv(x:ab)(m:Nat)(l:List ae):Nat→List ae
 |0=>[]
 |n+1=>qv x m l n++if(m.testBit n&&!VV x n)=true then(gO x (n:Int)).filter (BQ x l)else []
def H_(x:ab)(m:Nat)(l:List ae):Nat→List ae
 |0=>[]
 |n+1=>H_ x m l n++if m.testBit n=true then(gO x (n:Int)).filter (fun v=>!l.any (nS v))else []
structure B4 (x:ab) (l:List ae):Prop where
 nodup:l.Nodup
 Q0:∀v∈l,0≤v.aJ∧v.aJ<x.ah.length
section
variable {x : ab} {l t : List ae} {m : Nat} {v w : ae}
theorem sB{o:Int}(h:v∈gO x o):v.aJ=o:=by
 unfold gO at h;split at h
 ·rcases List.mem_append.1 h with h|h <;>(split at h <;> simp at h;rw[h])
 ·cases h
theorem YK{o:Int}:(gO x o).Pairwise fun a b=>ltV a b=true:=by
 unfold gO;split
 ·split <;> split <;> simp [ltV]
 ·exact List.Pairwise.nil
theorem Mj{n:Nat}:v∈qv x m l n↔∃i,i<n∧m.testBit i=true∧VV x i=false∧v∈gO x (i:Int)∧BQ x l v=true:=by
 induction n with
 |zero=>simp [qv]
 |succ n ih =>
  unfold qv;rw[List.mem_append,ih];constructor
  ·rintro(⟨i,h1,h2⟩|h)
   ·exact⟨i,by omega,h2⟩
   ·split at h
    ·rename_i hb;simp only[Bool.and_eq_true,Bool.not_eq_true']at hb;obtain⟨h1,h2⟩:=List.mem_filter.1 h;exact⟨n,by omega,hb.1,hb.2,h1,h2⟩
    ·cases h
  ·rintro⟨i,h1,h2,h3,h4,h5⟩;rcases Nat.lt_or_eq_of_le (Nat.le_of_lt_succ h1)with h|rfl
   ·exact .inl ⟨i,h,h2,h3,h4,h5⟩
   ·refine .inr ?_
    rw[if_pos (by rw[h2,h3];rfl)]
    exact List.mem_filter.2 ⟨h4,h5⟩
theorem Qc5:(!l.any (nS v))=true↔v ∉ l:=by rw[Bool.not_eq_true',Bool.eq_false_iff,Ne,E7]
theorem Sd{n:Nat}:v∈H_ x m l n↔∃i,i<n∧m.testBit i=true∧v∈gO x (i:Int)∧(v∈l→False):=by
 induction n with
 |zero=>simp [H_]
 |succ n ih =>
  unfold H_;rw[List.mem_append,ih];constructor
  ·rintro(⟨i,h1,h2⟩|h)
   ·exact⟨i,by omega,h2⟩
   ·split at h
    ·rename_i hb;obtain⟨h1,h2⟩:=List.mem_filter.1 h;exact⟨n,by omega,hb,h1,Qc5.1 h2⟩
    ·cases h
  ·rintro⟨i,h1,h2,h3,h4⟩;rcases Nat.lt_or_eq_of_le (Nat.le_of_lt_succ h1)with h|rfl
   ·exact .inl ⟨i,h,h2,h3,h4⟩
   ·refine .inr ?_
    rw[if_pos h2];exact List.mem_filter.2 ⟨h3,Qc5.2 h4⟩
theorem KP:∀n,(H_ x m l n).Pairwise fun a b=>ltV a b=true
 |0=>List.Pairwise.nil
 |n+1=>by
  unfold H_;rw[List.pairwise_append];refine⟨KP n,?_,fun a ha b hb=>?_⟩
  ·split
   ·exact YK.sublist List.filter_sublist
   ·exact List.Pairwise.nil
  ·obtain⟨i,h1,_,h2,_⟩:=Sd.1 ha;split at hb
   ·have h3:=sB h2;have h4:=sB (List.mem_filter.1 hb).1;exact Ns.2 (.inl (by omega))
   ·cases hb
theorem Yo(h:BQ x l v=true):v ∉ l:=by
 unfold BQ at h;simp only[Bool.and_eq_true,Bool.not_eq_true']at h;intro hv;rw[E7.2 hv]at h;cases h.1
theorem B4.add(h:B4 x l)(hv:v ∉ l)(h0:0≤v.aJ∧v.aJ<x.ah.length):B4 x (l++[v]):=by
 refine⟨List.nodup_append.2 ⟨h.nodup,by simp,fun a ha b hb=>?_⟩,fun w hw=>?_⟩
 ·rw[List.mem_singleton.1 hb];exact fun e=>hv (e▸ha)
 ·rcases List.mem_append.1 hw with hw|hw
  ·exact h.Q0 w hw
  ·rw[List.mem_singleton.1 hw];exact h0
theorem QaP(h:B4 x l)(hv:v∈qv x m l x.ah.length):B4 x (l++[v]):=by
 obtain⟨i,h1,_,_,h2,h3⟩:=Mj.1 hv;have:=sB h2;exact h.add (Yo h3) (by omega)
theorem B4.len(h:B4 x l):l.length≤2*x.ah.length:=by
 have hm:(l.map fun v:ae=>2*v.aJ.toNat+(if v.drop=true then 1 else 0)).Nodup:=by
  unfold List.Nodup;rw[List.pairwise_map];refine h.nodup.imp_of_mem fun{a b} ha hb rR he=>rR ?_
  have h1:=h.Q0 a ha;have h2:=h.Q0 b hb;cases a with
  |mk ao ad =>
   cases b with
   |mk bo bd =>
    simp only at h1 h2 he;have hd:ad=bd∧ao=bo:=by
     cases ad <;> cases bd <;> simp at he ⊢ <;> omega
    rw[hd.1,hd.2]
 have:=KE (2*x.ah.length) _ hm fun a ha=>by
  obtain⟨v,hv,rfl⟩:=List.mem_map.1 ha;have h1:=h.Q0 v hv;split <;> omega
 simpa using this
theorem nV.Ez(h:nV x l):B4 x l:=⟨h.nodup,fun v hv=>qy h.Q0 hv⟩
theorem nV.all(h:nV x l){o:Int}(ho:dz l o=true)(hw:w∈gO x o):w∈l:=by
 obtain⟨v,hv,rfl⟩:=tY.1 ho;have hp:=h.pair v hv;unfold wu at hp;rw[Bool.and_eq_true]at hp;have hr:=hp.2;cases NM:gO x v.aJ with
 |nil=>rw[NM]at hw;cases hw
 |cons a r =>
  rw[NM]at hr hw;cases r with
  |nil =>
   simp only[IV,nk]at hr;rw[List.mem_singleton.1 hw];exact PE.1 hr
  |cons b r =>
   obtain⟨rfl,_⟩:=Qw NM;simp only[IV,nk,Bool.and_eq_true,js]at hr;rcases List.mem_cons.1 hw with rfl|hw
   ·exact PE.1 hr.1
   ·rw[List.mem_singleton.1 hw];exact PE.1 (by omega)
theorem nV.own(h:nV x l)(hv:v∈l):v∈gO x v.aJ:=by
 have hp:=h.pair v hv;unfold wu at hp;rw[Bool.and_eq_true]at hp;exact E7.1 hp.1
theorem QhW(h:(l++v ::t).Nodup):qz (nS v) (l++v ::t)=(l.length:Int):=by
 have h0:=PE.2 (show v∈l++v ::t by simp)
 obtain⟨k,hk⟩:∃k:Nat,qz (nS v) (l++v ::t)=k:=⟨(qz (nS v) (l++v ::t)).toNat,by omega⟩
 obtain⟨h1,h2⟩:=FH hk;rw[hk];rcases Nat.lt_trichotomy k l.length with h3|h3|h3
 ·rw[List.getElem?_append_left h3]at h1;exact absurd rfl ((List.nodup_append.1 h).2.2 v (List.mem_of_getElem? h1) v (by simp))
 ·rw[h3]
 ·exact absurd (by rw[List.getElem?_append_right (Nat.le_refl _)];simp) (h2 l.length h3)
theorem Qkd(h:qz (nS w) (l++t)<(l.length:Int))(h0:0≤qz (nS w) (l++t)):w∈l:=by
 obtain⟨k,hk⟩:∃k:Nat,qz (nS w) (l++t)=k:=⟨(qz (nS w) (l++t)).toNat,by omega⟩
 obtain⟨h1,_⟩:=FH hk;rw[List.getElem?_append_left (by omega)]at h1
 exact List.mem_of_getElem? h1
theorem nV.head(h:nV x (l++v ::t))(hw:w∈FC v (gO x v.aJ)):w∈l:=by
 have hp:=h.pair v (by simp)
 unfold wu at hp;rw[Bool.and_eq_true]at hp;obtain⟨h1,hr⟩:=hp;have hv:=E7.1 h1;have hix:=QhW h.nodup;cases NM:gO x v.aJ with
 |nil=>rw[NM]at hw;cases hw
 |cons a r =>
  rw[NM]at hr hw hv;cases r with
  |nil =>
   rw[FC,if_pos (List.mem_singleton.1 hv).symm]at hw;cases hw
  |cons b r =>
   obtain⟨rfl,rR⟩:=Qw NM;by_cases ha:a=v
   ·rw[FC,if_pos ha]at hw;cases hw
   ·have hb:b=v:=by
     rcases List.mem_cons.1 hv with h|h
     ·exact absurd h.symm ha
     ·exact(List.mem_singleton.1 h).symm
    rw[FC,if_neg ha,FC,if_pos hb]at hw;rw[List.mem_singleton.1 hw];simp only[IV,nk,Bool.and_eq_true,js]at hr;rw[hb,hix]at hr;exact Qkd hr.2 hr.1
theorem Z_(h:nV x (l++v ::t)){p:aA}(hp:p∈x.before)(ho:p.x1=v.aJ)(hw:w∈gO x p.x0):w∈l:=by
 have hb:dz (l++v ::t) p.x1=true:=tY.2 ⟨v,by simp,ho.symm⟩
 have h1:E_ (l++v ::t) p=false:=by simpa using List.any_eq_false.1 h.before p hp
 unfold E_ at h1;rw[hb,Bool.true_and]at h1;simp only[Bool.or_eq_false_iff,Bool.not_eq_false']at h1;obtain⟨h2,h3⟩:=h1;have hm:=h.all h2 hw;rcases List.mem_append.1 hm with hm|hm
 ·exact hm
 ·exfalso;unfold H3 at h3;cases e:JA (Nk p.x1) (l++v ::t)with
  |none =>
   have:=Kk e v (by simp)
   rw[Cp.2 ho.symm]at this;cases this
  |some k =>
   rw[e]at h3;simp only at h3;have hk:k≤l.length:=Nat.le_of_not_lt fun jU=>by
    have:=(u3 e).2.2 l.length jU;rw[List.getElem_append_right (Nat.le_refl _)]at this;simp only[Nat.sub_self,List.getElem_cons_zero]at this;rw[Cp.2 ho.symm]at this;cases this
   have:dz ((l++v ::t).drop k) p.x0=true:=tY.2 ⟨w,by rw[List.drop_append_of_le_length hk];exact List.mem_append_right _ hm,sB hw⟩
   rw[this]at h3;cases h3
theorem nV.ready(h:nV x (l++v ::t)):BQ x l v=true:=by
 unfold BQ;have hn:v ∉ l:=fun hv=>(List.nodup_append.1 h.nodup).2.2 v hv v (by simp) rfl
 have e1:l.any (nS v)=false:=by rw[Bool.eq_false_iff,Ne,E7];exact hn
 rw[e1,Bool.not_false,Bool.true_and,Bool.and_eq_true,List.all_eq_true];refine⟨fun w hw=>E7.2 (h.head hw),?_⟩
 unfold Yn;rw[List.all_eq_true];intro p hp;by_cases ho:p.x1=v.aJ
 ·rw[Bool.or_eq_true];exact .inr (List.all_eq_true.2 fun w hw=>E7.2 (Z_ h hp ho hw))
 ·rw[Bool.or_eq_true];exact .inl (by simpa using ho)
theorem Qe_(h:nV x (l++v ::t))(hm:∀i:Nat,m.testBit i=dz (l++v ::t) (i:Int)):v∈qv x m l x.ah.length:=by
 have hv:v∈l++v ::t:=by simp
 have pq:=qy h.Q0 hv;obtain⟨n,hn⟩:∃n:Nat,v.aJ=n:=⟨v.aJ.toNat,by omega⟩
 have u1:=List.any_eq_false.1 h.off v hv;refine Mj.2 ⟨n,by omega,?_,?_,?_,h.ready⟩
 ·rw[hm,←hn];exact tY.2 ⟨v,hv,rfl⟩
 ·unfold Mu at u1;unfold VV;rw[hn,Int.toNat_natCast]at u1;rw[List.getElem?_eq_getElem (show n<x.ah.length by omega)]at u1 ⊢
  simpa using u1
 ·rw[←hn];exact h.own hv
end
theorem VL{α E:Type}{l:List α}(hl:l.length≤1048576)(p:α→Bool)(N:List α→E){B:List α×Int→Option ((List α×Int)⊕E)}(s0:List α)
  (pq:∀(s:List α) (i:Nat) (a:α),l[i]?=some a→s.length≤s0.length+i→B (s,(i:Int))=some (.inl (if p a=true then s++[a]else s,(i:Int)+1)))
  (Dh:∀s,B (s,(l.length:Int))=some (.inr (N s))):aL B (s0,0)=some (N (s0++l.filter p)):=by
 rw[PN (B:=B) hl (fun s a=>.inl (if p a=true then s++[a]else s)) N (fun i s=>s.length≤s0.length+i) (fun s i a h hi=>⟨pq s i a h hi,fun s' h'=>by
  cases h';split
  ·simp;omega
  ·omega⟩) (fun s _=>Dh s) (Nat.le_refl _)]
 congr 1;have key:∀(l s:List α),Fx (fun s a=>(.inl (if p a=true then s++[a]else s):List α⊕E)) N s l=N (s++l.filter p):=by
  intro l;induction l with
  |nil=>intro s;simp [Fx]
  |cons a r ih =>
   intro s;rw[RS rfl,ih,List.filter_cons];split <;> simp
 exact key l s0
section
variable {x : ab} {l : List ae} {m : Nat} {v : ae}
theorem QeY{a:ae}:(cM a.aJ v.aJ&&(Im a.drop v.drop&&true))=nS v a:=by
 rw[Bool.eq_iff_iff,Nl];cases v;cases a;simp
theorem Qeb{r:List ae}:(!r.any (fun a=>bh (qz (nS a) l) 0))=r.all (fun w=>l.any (nS w)):=by
 rw[List.all_eq_not_any_not];congr 1;congr 1
 funext a
 rw[Ox,po]
theorem Ze:∀{r:List ae},(match JA (fun a=>nS v a||!l.any (nS a)) r with
  |some k=>(match r[k]? with|some a=>if nS v a=true then(.inl ():Unit⊕Bool)else .inr false|none=>.inl ())
  |none=>.inl ())=if(FC v r).all (fun w=>l.any (nS w))=true then .inl ()else .inr false
 | []=>rfl
 |a ::r=>by
  unfold JA FC;by_cases ha:nS v a=true
  ·rw[if_pos (by rw[ha];rfl),if_pos (Nl.1 ha)]
   simp only[List.getElem?_cons_zero];rw[if_pos ha];rfl
  ·rw[if_neg (show ¬a=v from fun h=>ha (Nl.2 h))]
   by_cases hl:l.any (nS a)=true
   ·rw[if_neg (by rw[hl];simpa using ha),List.all_cons,hl,Bool.true_and,←Ze (r:=r)]
    cases JA (fun a=>nS v a||!l.any (nS a)) r <;> rfl
   ·rw[if_pos (by simp [hl])]
    simp only[List.getElem?_cons_zero];rw[if_neg ha,List.all_cons,if_neg (by simp [hl])]
theorem Qdf(hx:da x)(hl:l.length≤1048576)(h0:0≤v.aJ)(h1:v.aJ<x.ah.length):ss x l v=some (BQ x l v):=by
 unfold ss BQ;rw[zo hl,ak,po];cases hv:l.any (nS v)with
 |true=>rfl
 |false =>
  rw[jg,B5 hx h0 h1,ak,Bool.not_false,Bool.true_and];have h2:=wO (x:=x) (o:=v.aJ);have l1:=wF (B:=fun s=>f_ x l v (gO x v.aJ) s) (l:=gO x v.aJ) (by omega) (fun a=>nS v a||!l.any (nS a)) (fun k=>(match(gO x v.aJ)[k]? with|some a=>if nS v a=true then(.inl ():Unit⊕Bool)else .inr false|none=>.inl ())) (N:=.inl ()) (fun i a h=>by
   show f_ x l v (gO x v.aJ) i=_;unfold f_;rw[bL h,QeY,zo hl,ak,Ox,po,jc h (by omega),h]
   cases hv:nS v a with
   |true=>rw[if_pos (by rfl)];simp only[hv];rfl
   |false =>
    cases hq:l.any (nS a)with
    |true=>rfl
    |false=>rw[if_pos (by rfl)];simp only[hv];rfl) (by
   show f_ x l v (gO x v.aJ) (gO x v.aJ).length=_;unfold f_;rw[bA])
  have l1':aL (fun s=>f_ x l v (gO x v.aJ) s) 0=some (if(FC v (gO x v.aJ)).all (fun w=>l.any (nS w))=true then .inl ()else .inr false):=l1.trans (congrArg some Ze)
  rw[l1',ak];by_cases hh:(FC v (gO x v.aJ)).all (fun w=>l.any (nS w))=true
  ·rw[if_pos hh,dw,hh,Bool.true_and];have hb:=hx.before;have l2:=eX (B:=fun s=>hY x l v s) (l:=x.before) (by omega) (fun p=>!(!cM p.x1 v.aJ||(gO x p.x0).all fun w=>l.any (nS w))) (y:=(.inr false:Unit⊕Bool)) (N:=.inl ()) (fun i p h=>by
    obtain⟨p0,p1,p2,p3,p4⟩:=hx.JF p (List.mem_of_getElem? h);show hY x l v i=_;unfold hY;rw[bL h,jc h (by omega)]
    have rR:cr p.x1 v.aJ=!cM p.x1 v.aJ:=rfl;rw[rR];cases cM p.x1 v.aJ with
    |false=>rfl
    |true =>
     rw[Bool.not_true,jg,B5 hx p0 p1,ak,Bool.false_or];have h3:=wO (x:=x) (o:=p.x0);have l3:=eX (B:=fun s=>hZ x l v i (gO x p.x0) s) (l:=gO x p.x0) (by omega) (fun w=>bh (qz (nS w) l) 0) (y:=(.inr false:Unit⊕Bool)) (N:=.inl ()) (fun j w hw=>by
      show hZ x l v i (gO x p.x0) j=_;unfold hZ;rw[bL hw,zo hl,ak,jc hw (by omega),zz]) (by
      show hZ x l v i (gO x p.x0) (gO x p.x0).length=_;unfold hZ;rw[bA])
     rw[ct l3,←Qeb];cases(gO x p.x0).any (fun w=>bh (qz (nS w) l) 0) <;> rfl) (by
    show hY x l v x.before.length=_;unfold hY;rw[bA])
   rw[ct l2];unfold Yn;rw[List.all_eq_not_any_not];cases x.before.any (fun p=>!(!cM p.x1 v.aJ||(gO x p.x0).all fun w=>l.any (nS w))) <;> rfl
  ·rw[if_neg hh,nQ];rw[Bool.eq_false_iff.2 hh,Bool.false_and]
theorem Ms:∀n,(qv x m l n).length≤2*n
 |0=>Nat.le_refl _
 |n+1=>by
  have h1:=Ms n;unfold qv;rw[List.length_append];split
  ·have h2:=List.length_filter_le (BQ x l) (gO x (n:Int));have h3:=wO (x:=x) (o:=(n:Int));omega
  ·simp;omega
theorem Qeh{i:Nat}(hm:m<1024)(hi:i≤62):cM (JD .i64 (zd .i64 (m:Int) (i:Int)) 1) 0=!m.testBit i:=by
 rw[Qa8 (by omega),show(1:Int)=((1:Nat):Int)from rfl]
 have hd:=Nat.div_le_self m (2 ^ i);rw[QbO (by omega) (by omega),Nat.and_one_is_mod,Nat.testBit_eq_decide_div_mod_eq]
 generalize m / 2 ^ i=q;rw[Bool.eq_iff_iff,kJ,Bool.not_eq_true',decide_eq_false_iff_not];omega
theorem Qd8(hx:da x)(hl:l.length≤1048576)(hm:m<1024):tL x (m:Int) l=some (qv x m l x.ah.length):=by
 have dm:=hx.ah;unfold tL;have this:aL (fun q:List ae×Int=>gN x (m:Int) l q.1 q.2) ([],0)=some (qv x m l x.ah.length):=il x.ah.length (fun k=>(qv x m l k,(k:Int))) (B:=fun q:List ae×Int=>gN x (m:Int) l q.1 q.2) (e:=qv x m l x.ah.length) (by omega) (fun k hk=>by
  obtain⟨o,ho⟩:∃o,x.ah[k]?=some o:=⟨_,List.getElem?_eq_getElem hk⟩;show gN x (m:Int) l (qv x m l k) (k:Int)=_;have hlen:=Ms (x:=x) (m:=m) (l:=l) k;unfold gN;rw[bL ho,bq (by simp;omega),fg (by omega),Qeh hm (by omega),jc ho (by omega)]
  have u1:VV x k=o.off:=by unfold VV;rw[ho]
  show _=some (Sum.inl (qv x m l k++(if(m.testBit k&&!VV x k)=true then _ else _),((k+1:Nat):Int)))
  rw[u1];cases hb:m.testBit k with
  |false=>simp
  |true =>
   cases hf:o.off with
   |true=>simp
   |false =>
    rw[Bool.not_true,Bool.false_or,jg,B5 hx (by omega) (by omega),ak]
    have h2:=wO (x:=x) (o:=(k:Int));rw[ct (VL (B:=fun q:List ae×Int=>iT x (m:Int) l (k:Int) (gO x (k:Int)) q.1 q.2) (l:=gO x (k:Int)) (by omega) (BQ x l) id (qv x m l k) (fun s i a h hs=>by
     have ha:=sB (List.mem_of_getElem? h);show iT x (m:Int) l (k:Int) (gO x (k:Int)) s i=_;unfold iT;rw[bL h,Qdf hx hl (by omega) (by omega),ak,jc h (by omega),fg (dt (by have:=(List.getElem?_eq_some_iff.1 h).1;simp;omega)),zz]
     split <;> rfl) (fun s=>by
     show iT x (m:Int) l (k:Int) (gO x (k:Int)) s (gO x (k:Int)).length=_;unfold iT;rw[bA];rfl))]
    simp) (by
  show gN x (m:Int) l (qv x m l x.ah.length) (x.ah.length:Int)=_;unfold gN;rw[bA])
 rw[ct this]
end
def S9(a b:Int):Int:=if a<b then -1 else if b<a then 1 else 0
def Xt(a b:ae):Int:=if S9 a.aJ b.aJ≠0 then S9 a.aJ b.aJ else S9 (if a.drop=true then 1 else 0) (if b.drop=true then 1 else 0)
theorem YX(a b:Int):dR a b=some (S9 a b):=by
 unfold dR pE S9;rw[ak,ak,show cr a a=false by simp,show cr b b=false by simp,jg,jg,zz,zz]
 simp only[js,w4]
theorem Pa{a b:Int}:S9 a b=0↔a=b:=by unfold S9;split <;>(try split) <;> omega
theorem YY{a b:Int}:S9 a b<0↔a<b:=by unfold S9;split <;>(try split) <;> omega
theorem Qb0(a b:Int):ot [a,b]=some (if a≠0 then a else b):=by
 unfold ot;have g0:fh [a,b] 0=some (if a≠0 then .inr (.inr a)else .inl 1):=by
  unfold fh;rw[show br (bh 0 (az [a,b])) (aR (bj [a,b] 0) fun x0=>br (cr x0 0) (some (.inr (.inr x0))) (some (.inl (aU .i64 0 1)))) (some (.inr (.inl ())))=br (cr a 0) (some (.inr (.inr a):Int⊕(Unit⊕Int))) (some (.inl 1))from rfl,zz]
  simp only[xb]
 have g1:fh [a,b] 1=some (if b≠0 then .inr (.inr b)else .inl 2):=by
  unfold fh;rw[show br (bh 1 (az [a,b])) (aR (bj [a,b] 1) fun x0=>br (cr x0 0) (some (.inr (.inr x0))) (some (.inl (aU .i64 1 1)))) (some (.inr (.inl ())))=br (cr b 0) (some (.inr (.inr b):Int⊕(Unit⊕Int))) (some (.inl 2))from rfl,zz]
  simp only[xb]
 have g2:fh [a,b] 2=some (.inr (.inl ())):=rfl;have key:aL (fun s=>fh [a,b] s) 0=some (if a≠0 then .inr a else if b≠0 then .inr b else .inl ()):=by
  refine ya 3 (by decide) ?_
  simp only[qs];rw[g0];by_cases ha:a≠0
  ·rw[if_pos ha,if_pos ha]
  ·rw[if_neg ha,if_neg ha];simp only;rw[g1];by_cases hb:b≠0
   ·rw[if_pos hb,if_pos hb]
   ·rw[if_neg hb,if_neg hb];simp only;rw[g2]
 rw[ct key];by_cases ha:a≠0
 ·rw[if_pos ha,if_pos ha,nQ]
 ·rw[if_neg ha,if_neg ha];by_cases hb:b≠0
  ·rw[if_pos hb,nQ]
  ·rw[if_neg hb,dw];congr 1;omega
theorem Qel(a b:ae):p8 a b=some (Xt a b):=by
 have h1:∀v:ae,kE v=some (if v.drop=true then 1 else 0):=fun v=>by unfold kE;rw[zz]
 unfold p8 Xt;rw[YX,ak,h1,ak,h1,ak,YX,ak,Qb0,ak]
theorem Qb1{a b:ae}:Xt a b=0↔a=b:=by
 unfold Xt;cases a;cases b;simp only[ne_eq,Pa,ae.mk.injEq];split
 ·rename_i h;rw[Pa];exact⟨fun h'=>absurd h' h,fun h'=>absurd h'.1 h⟩
 ·rename_i h;rw[Pa];rename_i d _ e;cases d <;> cases e <;> simp_all
theorem Qem{a b:ae}:bh (Xt a b) 0=ltV a b:=by
 rw[Bool.eq_iff_iff,js,Ns];unfold Xt;split
 ·rename_i h;rw[YY];rw[Ne,Pa]at h;exact⟨fun h'=>.inl h',fun h'=>h'.elim id fun h'=>absurd h'.1 h⟩
 ·rename_i h;simp only[ne_eq,Pa,Classical.not_not]at h;rw[YY];cases a.drop <;> cases b.drop <;> simp <;> omega
theorem IA:∀{k:Nat} {a b:List ae},(∀j,j<k→∃u,a[j]?=some u∧b[j]?=some u)→yT a b=yT (a.drop k) (b.drop k)
 |0,_,_,_=>rfl
 |k+1,a,b,h=>by
  obtain⟨u,h1,h2⟩:=h 0 (by omega)
  cases a with
  |nil=>simp at h1
  |cons x a =>
   cases b with
   |nil=>simp at h2
   |cons y b =>
    simp at h1 h2;subst h1;subst h2;rw[yT,TM,List.drop_succ_cons,List.drop_succ_cons,←IA (k:=k) (a:=a) (b:=b) fun j hj=>by simpa using h (j+1) (by omega)]
    simp
def Qb6(a b:List ae)(k:Nat):Bool:=match a[k]?,b[k]? with
 |some u,some w=>!decide (u=w)
 |some _,none=>true
 |_,_=>false
theorem YZ{a b:List ae}{k:Nat}(h:k<a.length)(hd:Qb6 a b k=false):∃u,a[k]?=some u∧b[k]?=some u:=by
 unfold Qb6 at hd;rw[List.getElem?_eq_getElem h]at hd ⊢;cases hb:b[k]? with
 |none=>rw[hb]at hd;cases hd
 |some w =>
  rw[hb]at hd;simp only[Bool.not_eq_false',decide_eq_true_iff]at hd;exact⟨_,rfl,by rw[hd]⟩
theorem Qd7{a b:List ae}(ha:a.length≤1048576)(hb:b.length≤1048576):tK a b=some (yT a b):=by
 unfold tK ck;rcases Yy (B:=fun s=>bn a b s) (n:=a.length) ha (Qb6 a b) (fun k=>(.inr (match a[k]?,b[k]? with|some u,some w=>Xt u w|_,_=>1):Unit⊕Int)) (N:=.inl ()) (fun i hi=>by
  have e:a[i]?=some a[i]:=List.getElem?_eq_getElem hi;show bn a b i=_;unfold bn Qb6;rw[bL e,jc e ha,e];generalize a[i]=u at e;cases Oq:b[i]? with
  |none =>
   rw[bD (by simp only[nk,az];have:=List.getElem?_eq_none_iff.1 Oq;omega)]
   rfl
  |some w =>
   rw[bq (by have:=(List.getElem?_eq_some_iff.1 Oq).1;simp [az];omega),bC Oq,ak,Qel,ak,zz]
   by_cases hq:u=w
   ·rw[if_neg (by simp only[xb,Classical.not_not,ne_eq];exact Qb1.2 hq),if_neg (by simp [hq])]
   ·rw[if_pos (by simp only[xb,ne_eq];exact fun h=>hq (Qb1.1 h)),if_pos (by simp [hq])]) (by
  show bn a b a.length=_;unfold bn;rw[bA])with⟨k,h1,h2,h3,h4⟩|⟨h1,h4⟩
 ·rw[ct h4,nQ,ak];rw[IA (k:=k) fun j hj=>YZ (by omega) (h3 j hj)]
  unfold Qb6 at h2;rw[List.drop_eq_getElem_cons h1];rw[List.getElem?_eq_getElem h1]at h2 ⊢;cases Oq:b[k]? with
  |none =>
   rw[List.drop_eq_nil_of_le (List.getElem?_eq_none_iff.1 Oq)];rfl
  |some w =>
   obtain⟨g1,g2⟩:=List.getElem?_eq_some_iff.1 Oq;rw[Oq]at h2;simp only[Bool.not_eq_true',decide_eq_false_iff_not]at h2;rw[List.drop_eq_getElem_cons g1,yT,g2];simp only;rw[Qem,decide_eq_false h2,Bool.false_and,Bool.or_false]
 ·rw[ct h4,dw];rw[IA (k:=a.length) fun j hj=>YZ hj (h1 j hj),List.drop_length,zz,ak]
  by_cases hl:a.length<b.length
  ·rw[if_pos (by simp [az];omega),List.drop_eq_getElem_cons hl];rfl
  ·rw[if_neg (by simp [az];omega),List.drop_eq_nil_of_le (by omega)];rfl
def rW(b:ay)(l:List ae):ay:=ay.mk b.aY b.aK b.aQ l
def prX(x:ab)(r:ay):Int×Int:=(mM x r).getD (0,1)
def QaX(l:List ae)(m:Nat):Prop:=∀i:Nat,m.testBit i=dz l (i:Int)
def Hd(x:ab)(b:ay)(m:Nat)(l:List ae):Prop:=l.length≤1048576∧(prX x (rW b l)).2=0∧QaX l m
def Uz(x:ab)(b:ay)(l:List ae):Ky:=((prX x (rW b l)).1,l)
def Fg(x:ab)(b:ay)(m:Nat)(l:List ae)(k:Ky):Prop:=∃t,Hd x b m (l++t)∧k=Uz x b (l++t)
def Qiy:ay:=ay.mk 0 0 [] []
def Qix:af:=af.mk 0 0 0 Qiy
def LG(b:ay)(m:Nat)(k:Ky):af:=af.mk b.aY (m:Int) k.1 (rW b k.2)
instance(k q:Ky):Decidable (QE k q):=inferInstanceAs (Decidable (_∨_))
def SY(s:Option Ky):Prop:=∀k,s=some k→k.2.length≤1048576
structure Br (x:ab):Prop where
 ok:da x
 few:x.ah.length≤3
section
variable {x : ab} {b r : ay} {l t : List ae} {m n : Nat} {v : ae} {s : Option Ky}
theorem B4.six(h:B4 x l)(hf:Br x):l.length≤6:=by
 have:=h.len;have:=hf.few;omega
theorem ZJ(hx:da x)(hR:rr r)(h9:I_ r):mM x r=some (prX x r)∧xw x r=some (prX x r):=by
 obtain⟨w,h1,h2⟩:=Xd hx hR h9;have:prX x r=w:=by unfold prX;rw[h1];rfl
 rw[this];exact⟨h1,h2⟩
theorem QgC(hx:da x)(hR:rr r)(h9:I_ r)(h:(prX x r).2=0):(Xx x r).2.2=0:=by
 obtain⟨e1,_⟩:=Ti hx hR h9;obtain⟨p1,_⟩:=ZJ hx hR h9;unfold mM at p1;rw[e1,ak]at p1;by_cases h0:(Xx x r).2.2=0
 ·exact h0
 ·rw[bD (by simpa using h0)]at p1
  have:=Option.some.inj p1;rw[←this]at h;exact h
theorem Qib(hx:da x)(hR:rr r)(h9:I_ r)(h:(prX x r).2=0):nV x r.aq:=by
 obtain⟨_,_,_,_,e5⟩:=Ti hx hR h9;obtain⟨_,q,hE⟩:=e5 (QgC hx hR h9 h);exact OH hE.seq
theorem Qkx(hR:rr b)(hl:l.length≤8):rr (rW b l)∧I_ (rW b l):=by
 refine⟨⟨hR.aY,hR.aK,hR.aQ,?_⟩,?_⟩
 ·show l.length≤_;omega
 ·unfold I_;show ¬(9<l.length∧l.length≤20);omega
theorem Qia(hf:Br x)(hR:rr b)(hl:l.length≤1048576)(h:(prX x (rW b l)).2=0):nV x l:=by
 have hx:=hf.ok;by_cases h9:9<l.length∧l.length≤20
 ·exfalso;have hs:KZ x l≠0:=fun h0=>by
   have:=(OH h0).Ez.six hf;omega
  have hp:mM x (rW b l)=some (0,if 0≤b.aY∧b.aY<x.types.length then KZ x l else 2):=by
   have fc:¬KZ x (rW b l).aq=0:=hs;unfold mM k8;by_cases ht:0≤b.aY∧b.aY<x.types.length
   ·have ht':0≤(rW b l).aY∧(rW b l).aY<x.types.length:=ht;rw[bq (by simp [az];omega),OT hx (show(rW b l).aq.length≤1048576 from hl),ak,bD (by simpa using fc),ak,bD (by simpa using fc),if_pos ht]
    rfl
   ·have ht':¬(0≤(rW b l).aY∧(rW b l).aY<x.types.length):=ht;rw[bD (by simp [az];omega),ak,bD (by decide),if_neg ht]
  unfold prX at h;rw[hp]at h;simp only[Option.getD_some]at h;split at h
  ·exact hs h
  ·cases h
 ·exact Qib (r:=rW b l) hx ⟨hR.aY,hR.aK,hR.aQ,hl⟩ h9 h
theorem Z2{a c:af}(ha:a.db.aq.length≤1048576)(hc:c.db.aq.length≤1048576):uo a c=some (decide (QE (a.kM,a.db.aq) (c.kM,c.db.aq))):=by
 unfold uo;rw[Qd7 ha hc,ak,zz];by_cases h:a.kM=c.kM
 ·rw[if_neg (by simpa using h)]
  congr 1;rw[Bool.eq_iff_iff,decide_eq_true_iff];unfold QE;simp only;exact⟨fun h'=>.inr ⟨h,h'⟩,fun h'=>h'.elim (fun h'=>by omega) fun h'=>h'.2⟩
 ·rw[if_pos (by simpa using h)]
  congr 1;rw[Bool.eq_iff_iff,decide_eq_true_iff,js];unfold QE;simp only;exact⟨fun h'=>.inl h',fun h'=>h'.elim id fun h'=>absurd h'.1 h⟩
theorem Qae(hv:∀t,Hd x b m (l++t)→t=[])(k:Ky):(Hd x b m l∧k=Uz x b l)↔Fg x b m l k:=by
 constructor
 ·rintro⟨h1,h2⟩;exact⟨[],by rw[List.append_nil];exact h1,by rw[List.append_nil];exact h2⟩
 ·rintro⟨t,h1,h2⟩;have:=hv t h1;subst this;rw[List.append_nil]at h1 h2;exact⟨h1,h2⟩
theorem Qaf{vs:List ae}(hv:∀t,Hd x b m (l++t)→∃v t',t=v ::t'∧v∈vs)(k:Ky):(∃v∈vs,Fg x b m (l++[v]) k)↔Fg x b m l k:=by
 constructor
 ·rintro⟨v,_,t,h1,h2⟩;rw[List.append_assoc]at h1 h2;exact⟨[v]++t,h1,h2⟩
 ·rintro⟨t,h1,h2⟩;obtain⟨v,t',rfl,hm⟩:=hv t h1;exact⟨v,hm,t',by rw[List.append_assoc];exact h1,by rw[List.append_assoc];exact h2⟩
theorem SY.bst{S:Ky→Prop}{s':Option Ky}(hs:SY s)(h:HP S s s')(hS:∀k,S k→k.2.length≤1048576):SY s':=fun k e=>(h.1 k e).elim (hs k) (hS k)
theorem Lr(hf:Br x)(hR:rr b)(h:Hd x b m l):nV x l:=Qia hf hR h.1 h.2.1
theorem QdC(hf:Br x)(hR:rr b)(h:Hd x b m (l++v ::t)):v∈qv x m l x.ah.length:=Qe_ (Lr hf hR h) h.2.2
end
section
variable {x : ab} {b r : ay} {l t : List ae} {m n : Nat} {v : ae} {s : Option Ky}
theorem UW(k:Ky)(h:Fg x b m l k):k.2.length≤1048576:=by
 obtain⟨t,h1,rfl⟩:=h;exact h1.1
theorem UX{vs:List ae}(k:Ky)(h:∃v∈vs,Fg x b m (l++[v]) k):k.2.length≤1048576:=by
 obtain⟨v,_,h⟩:=h;exact UW k h
end
def bK(kind:Int):ay:=ay.mk kind 0 [] []
section
variable {x : ab} {b r : ay} {l t : List ae} {m n : Nat} {v : ae} {s : Option Ky} {kind : Int}
theorem Qeg(hk:x9 kind):rr (bK kind):=⟨hk,⟨by show(-9223372036854775808:Int)≤0;decide,by show(0:Int)≤9223372036854775807;decide⟩,Nat.zero_le _,Nat.zero_le _⟩
def Zq(v a:aC):Bool:=cM v.ready a.ready&&(cM v.fS a.fS&&true)
theorem Qgo{v a:aC}:Zq v a=true↔a=v:=by
 unfold Zq;cases v;cases a;simp;exact⟨fun⟨h1,h2⟩=>⟨h1.symm,h2.symm⟩,fun⟨h1,h2⟩=>⟨h1.symm,h2.symm⟩⟩
theorem Qi6{L:List aC}{a:aC}:L.any (Zq a)=true↔a∈L:=by
 rw[List.any_eq_true];exact⟨fun⟨c,h,h'⟩=>Qgo.1 h'▸h,fun h=>⟨a,h,Qgo.2 rfl⟩⟩
theorem Zt{L:List aC}{a:aC}(hL:L.length≤1000000):mI L a=some (if L.any (Zq a)=true then L else L++[a]):=by
 have:=wF (l:=L) (by omega) (Zq a) (fun k=>(.inr (k:Int):Unit⊕Int)) (N:=.inl ()) (B:=fun s=>cp L a s) (fun i c h=>by
  show cp L a i=_;unfold cp;rw[bL h,jc h (by omega),zz];rfl) (by
  show cp L a L.length=_;unfold cp;rw[bA])
 have e:dZ L a=some (qz (Zq a) L):=by
  unfold dZ;rw[ct this];unfold qz;cases JA (Zq a) L <;> rfl
 unfold mI eI;rw[e,ak,ak,po,fg (dt (by simp;omega)),zz]
def Cr(L:List aC)(a:aC):List aC:=if L.any (Zq a)=true then L else L++[a]
theorem ri{L:List aC}{a c:aC}:c∈Cr L a↔c∈L∨c=a:=by
 unfold Cr;split
 ·rename_i h;rw[Qi6]at h;exact⟨fun h'=>.inl h',fun h'=>h'.elim id fun e=>e▸h⟩
 ·simp
theorem Cs{L:List aC}{a:aC}:(Cr L a).length≤L.length+1:=by
 unfold Cr;split <;> simp
def StI(a:aC):Prop:=0≤a.ready∧a.ready≤12288∧0≤a.fS∧a.fS≤4096
end
theorem OL:∀{a b:List ae},a.Nodup→(∀v∈a,v∈b)→a.length≤b.length
 | [],_,_,_=>Nat.zero_le _
 |v ::r,b,hn,hs=>by
  have hv:=hs v (List.mem_cons_self ..);have QZ:=List.nodup_cons.1 hn;have:=OL (a:=r) (b:=b.erase v) QZ.2 fun w hw=>(List.mem_erase_of_ne fun e:w=v=>QZ.1 (e▸hw)).2 (hs w (List.mem_cons_of_mem _ hw))
  rw[List.length_erase_of_mem hv]at this;have:=List.length_pos_of_mem hv;rw[List.length_cons];omega
theorem Qfy{a b:List ae}(hn:a.Nodup)(hs:∀v∈a,v∈b)(hl:b.length≤a.length):∀v∈b,v∈a:=fun v hv=>by
 refine Classical.byContradiction fun h=>?_
 have:=OL (a:=v ::a) (b:=b) (List.nodup_cons.2 ⟨h,hn⟩) fun w hw=>by
  rcases List.mem_cons.1 hw with rfl|hw
  ·exact hv
  ·exact hs w hw
 rw[List.length_cons]at this;omega
def WY(m:Nat):List ae:=((List.range 10).filter fun i=>m.testBit i).map fun i:Nat=>ae.mk (i:Int) false
theorem Kq{m:Nat}(hm:m<1024)(i:Nat):m.testBit i=dz (WY m) (i:Int):=by
 rw[Bool.eq_iff_iff,tY];constructor
 ·intro h;have hi:i<10:=Nat.lt_of_not_le fun QW=>by
   have:m.testBit i=false:=Nat.testBit_lt_two_pow (Nat.lt_of_lt_of_le hm (Nat.le_trans (by decide) (Nat.pow_le_pow_right (n:=2) (by omega) QW)))
   rw[this]at h;cases h
  exact⟨ae.mk (i:Int) false,List.mem_map.2 ⟨i,List.mem_filter.2 ⟨List.mem_range.2 hi,h⟩,rfl⟩,rfl⟩
 ·rintro⟨v,hv,he⟩;obtain⟨j,hj,rfl⟩:=List.mem_map.1 hv;have:j=i:=Int.ofNat.inj he;rw[←this];exact(List.mem_filter.1 hj).2
theorem TJ{m:Nat}(hm:m<1024):Ea (WY m) (m:Int):=⟨m,rfl,hm,Kq hm⟩
section
variable {x : ab} {b r : ay} {l t : List ae} {m n : Nat} {v : ae} {s : Option Ky} {kind : Int}
def zu(x:ab)(m:Nat):List ae:=H_ x m [] x.ah.length
theorem Kx:v∈zu x m↔∃i,i<x.ah.length∧m.testBit i=true∧v∈gO x (i:Int):=by
 unfold zu;rw[Sd];simp
theorem Xg:(zu x m).Nodup:=(KP _).imp fun{a b} h e=>by subst e;rw[TM]at h;cases h
theorem ZN(h:nV x l)(ho:QaX l m):∀v,v∈l↔v∈zu x m:=fun v=>by
 rw[Kx];constructor
 ·intro hv;have pq:=qy h.Q0 hv;refine⟨v.aJ.toNat,by omega,?_,?_⟩
  ·rw[ho,Int.toNat_of_nonneg pq.1];exact tY.2 ⟨v,hv,rfl⟩
  ·rw[Int.toNat_of_nonneg pq.1];exact h.own hv
 ·rintro⟨i,h1,h2,h3⟩;rw[ho]at h2;exact h.all h2 h3
theorem Qft(h:nV x l)(ho:QaX l m):l.length=(zu x m).length:=Nat.le_antisymm (OL h.nodup fun v hv=>(ZN h ho v).1 hv) (OL Xg fun v hv=>(ZN h ho v).2 hv)
theorem QfE(hx:da x){i:Nat}(hi:i<x.ah.length):∃v,v∈gO x (i:Int):=by
 have e:x.ah[i]?=some x.ah[i]:=List.getElem?_eq_getElem hi;have hO:=hx.ord _ (List.getElem_mem hi);unfold gO;rw[Int.toNat_natCast,e];simp only;have h1:=hO.pick;have h2:=hO.drop;have h3:=hO.one;unfold OX at h1 h2;by_cases hp:0≤x.ah[i].pick.place
 ·rw[if_pos hp];exact⟨_,List.mem_append_left _ (List.mem_cons_self ..)⟩
 ·rw[if_pos (show 0≤x.ah[i].drop.place by omega)]
  exact⟨_,List.mem_append_right _ (List.mem_cons_self ..)⟩
theorem Qcf(hx:da x)(hm:m<2 ^ x.ah.length)(hg:B4 x l)(hs:∀v∈l,v∈zu x m)(hl:l.length=(zu x m).length):QaX l m:=fun i=>by
 rw[Bool.eq_iff_iff,tY];constructor
 ·intro hb;have hi:i<x.ah.length:=Nat.lt_of_not_le fun QW=>by
   have:m.testBit i=false:=Nat.testBit_lt_two_pow (Nat.lt_of_lt_of_le hm (Nat.pow_le_pow_right (by omega) QW))
   rw[this]at hb;cases hb
  obtain⟨v,hv⟩:=QfE hx hi;exact⟨v,Qfy hg.nodup hs (by omega) v (Kx.2 ⟨i,hi,hb,hv⟩),sB hv⟩
 ·rintro⟨v,hv,he⟩;obtain⟨j,_,h2,h3⟩:=Kx.1 (hs v hv);have:=sB h3;have:j=i:=by omega
  rw[←this];exact h2
theorem SU(hx:da x)(hm:m<2 ^ x.ah.length):post (mO x (m:Int)) fun e=>∀l,nV x l→QaX l m→e=0:=by
 have dm:=hx.ah;have Uw:m<1024:=Nat.lt_of_lt_of_le hm (Nat.le_trans (Nat.pow_le_pow_right (n:=2) (by omega) dm) (by decide))
 have tot:post (mO x (m:Int)) fun _=>True:=by
  have QlM:=hx.bV;have Qjj:=hx.before;have hS:=TJ Uw;have hlen:=CH (l:=WY m) 63;have tZ:∀i∈yF (WY m) 63,0≤i∧i<x.ah.length:=fun i hi=>by
   obtain⟨k,rfl,_,hk⟩:=FU hi;rw[←Kq Uw]at hk;refine⟨by omega,?_⟩
   have:k<x.ah.length:=Nat.lt_of_not_le fun QW=>by
    have:m.testBit k=false:=Nat.testBit_lt_two_pow (Nat.lt_of_lt_of_le hm (Nat.pow_le_pow_right (by omega) QW))
    rw[this]at hk;cases hk
   omega
  unfold mO;rw[bq (by simp),C_ hS,ak]
  generalize yF (WY m) 63=M at *;rw[ct (eX (B:=fun q=>dT x (m:Int) M q) (l:=M) (by omega) (fun i=>cD i (az x.ah)) (y:=(.inr 2:Unit⊕Int)) (N:=.inl ()) (fun i a hh=>by
   show dT x (m:Int) M i=_;unfold dT;rw[bL hh,jc hh (by omega),zz]) (by
   show dT x (m:Int) M M.length=_;unfold dT;rw[bA]))]
  split
  ·exact aP.2 trivial
  rw[dw,ct (eX (B:=fun q=>dU x (m:Int) M q) (l:=M) (by omega) (fun i=>VV x i.toNat) (y:=(.inr 9:Unit⊕Int)) (N:=.inl ()) (fun i a hh=>by
   obtain⟨q0,q1⟩:=tZ a (List.mem_of_getElem? hh);show dU x (m:Int) M i=_;unfold dU VV;rw[bL hh,A5 q0 q1,ak,jc hh (by omega),zz,List.getElem?_eq_getElem (by omega)]) (by
   show dU x (m:Int) M M.length=_;unfold dU;rw[bA]))]
  split
  ·exact aP.2 trivial
  rw[dw,ct (eX (B:=fun q=>dV x (m:Int) M q) (l:=x.bV) (by omega) (tW (WY m)) (y:=(.inr 20:Unit⊕Int)) (N:=.inl ()) (fun i a hh=>by
   obtain⟨p0,p1,p2,p3,p4⟩:=hx.Xj a (List.mem_of_getElem? hh);show dV x (m:Int) M i=_;unfold dV tW;rw[bL hh,hS.Has p0 (by omega),ak,hS.Has p2 (by omega),ak,jc hh (by omega)]
   cases dz (WY m) a.x0 <;> cases dz (WY m) a.x1 <;> rfl) (by
   show dV x (m:Int) M x.bV.length=_;unfold dV;rw[bA]))]
  split
  ·exact aP.2 trivial
  rw[dw,ct (eX (B:=fun q=>dW x (m:Int) M q) (l:=x.before) (by omega) (fun a=>dz (WY m) a.x1&&!dz (WY m) a.x0) (y:=(.inr 21:Unit⊕Int)) (N:=.inl ()) (fun i a hh=>by
   obtain⟨p0,p1,p2,p3,p4⟩:=hx.JF a (List.mem_of_getElem? hh);show dW x (m:Int) M i=_;unfold dW;rw[bL hh,hS.Has p2 (by omega),ak,hS.Has p0 (by omega),ak,jc hh (by omega)]
   cases dz (WY m) a.x0 <;> cases dz (WY m) a.x1 <;> rfl) (by
   show dW x (m:Int) M x.before.length=_;unfold dW;rw[bA]))]
  split
  ·exact aP.2 trivial
  obtain⟨c,hc,f,rfl,hf⟩:=Nb hx;rw[dw,hc,ak,ct (eX (B:=fun q=>dX M (dA x.ah.length fun i=>((f i:Nat):Int)) q) (l:=M) (by omega) (fun i=>(f i.toNat).testBit i.toNat) (y:=(.inr 21:Unit⊕Int)) (N:=.inl ()) (fun i a hh=>by
   obtain⟨q0,q1⟩:=tZ a (List.mem_of_getElem? hh);obtain⟨k,rfl⟩:∃k:Nat,a=k:=⟨a.toNat,by omega⟩
   show dX M (dA x.ah.length fun i=>((f i:Nat):Int)) i=_
   unfold dX;have jU:=hf.lt k;have Qhu:k9 ((f k:Nat):Int) (k:Int)=some ((f k).testBit k):=by
    have:=(TJ jU).Has (i:=(k:Int)) (by omega) (by omega)
    rw[this,←Kq jU]
   rw[bL hh,Ha q0 q1,ak,Int.toNat_natCast,Qhu,ak,jc hh (by omega),zz]) (by
   show dX M (dA x.ah.length fun i=>((f i:Nat):Int)) M.length=_
   unfold dX;rw[bA]))]
  split <;> exact aP.2 trivial
 obtain⟨e,he,-⟩:=tot;refine⟨e,he,fun l hq ho=>?_⟩
 have:=Xh hx hq (s:=(m:Int)) ⟨m,rfl,Uw,ho⟩;rw[he]at this;exact Option.some.inj this
end
def EW(x:ab)(kind:Int)(m:Nat)(kj:Int)(s:Option Ky):aS:=match s with
 |none=>aS.mk x kind (m:Int) kj Qix false
 |some k=>aS.mk x kind (m:Int) kj (LG (bK kind) m k) true
def E9(x:ab)(ty:al)(a8:Int)(st:a6)(a:aC):Int×Int×Int:=goN x.bG ty.aT a8 st.place a.ready
def Iv(x:ab)(ty:al)(a8:Int)(st:a6)(a:aC):Prop:=(E9 x ty a8 st a).2.2=0∧a.fS+(E9 x ty a8 st a).1-a.ready≤ty.iJ∧(E9 x ty a8 st a).1≤st.b9
def JP(x:ab)(ty:al)(a8:Int)(st:a6)(a:aC):Int:=max (E9 x ty a8 st a).1 st.bJ+st.dn
def YA(x:ab)(ty:al)(a8:Int)(st:a6)(a:aC):Int:=a.fS+(E9 x ty a8 st a).1-a.ready
section
variable {x : ab} {b r : ay} {l t : List ae} {m n : Nat} {v : ae} {s : Option Ky} {kind a8 kj : Int} {ty : al} {st : a6}
theorem Ue:(EW x kind m kj s).x=x:=by unfold EW;split <;> rfl
theorem Yz:(EW x kind m kj s).kind=kind:=by unfold EW;split <;> rfl
theorem Qig:(EW x kind m kj s).bz=m:=by unfold EW;split <;> rfl
theorem Qih:(EW x kind m kj s).kj=kj:=by unfold EW;split <;> rfl
structure TyI (x:ab) (kind:Int) (ty:al):Prop where
 eK:bj x.types kind=some ty
 iJ:1≤ty.iJ∧ty.iJ≤4096
 rest:0≤ty.bY∧ty.bY≤4096
 opn:0≤ty.bJ∧ty.bJ≤4096
theorem Z4(hs:SOK st){a:Int}(h0:0≤a)(ha:a≤1048576):tN st a=some (if st.b9<a then(0,14)else(max a st.bJ+st.dn,0)):=by
 have h1:=hs.VX;have h2:=hs.Sq;have h3:=hs.b9;have h4:=hs.Wi;have h5:=hs.Wj;unfold tN sW;rw[DN,JI];simp only[w4];by_cases h:st.b9<a
 ·rw[if_pos (by omega),if_pos h,ak,bD (by decide)]
 ·rw[if_neg (by omega),if_neg h,ak]
  show br (cr 0 0) _ (some (aU .i64 (max a st.bJ) st.dn,0))=_;rw[bq (by decide),fp (by omega) (by omega)]
theorem KK{L:List aC}(hT:TyI x kind ty){s0:aS}(hx:s0.x=x)(hk:s0.kind=kind)(hL:L.length≤10000){d e:Int}(hd:0≤d∧d≤8192):
  j_ s0 L d e=some (Cr (Cr L (aC.mk d e)) (aC.mk (d+ty.bY) 0),s0):=by
 have h1:=hT.rest;have h2:=Cs (L:=L) (a:=aC.mk d e);unfold j_;rw[Zt (by omega),ak,hx,hk,hT.eK,ak,fp (by omega) (by omega)]
 rw[show(if L.any (Zq (aC.mk d e))=true then L else L++[aC.mk d e])=Cr L (aC.mk d e)from rfl,Zt (by omega),ak]
 rfl
theorem YL(hf:Br x)(hT:TyI x kind ty)(hs:SOK st){s0:aS}(hx:s0.x=x)(hk:s0.kind=kind){L:List aC}(hL:L.length≤1000)(hb:∀a∈L,StI a):
  post (oq s0 a8 L st) fun r=>r.2=s0∧r.1.length≤2*L.length∧(∀a∈r.1,StI a)∧
   ∀a∈L,Iv x ty a8 st a→aC.mk (JP x ty a8 st a) (YA x ty a8 st a)∈r.1∧aC.mk (JP x ty a8 st a+ty.bY) 0∈r.1:=by
 have hR:=hT.rest;have hD:=hT.iJ;have h1:=hs.VX;have h2:=hs.Sq;have h3:=hs.b9;have h4:=hs.Wi;have h5:=hs.Wj;unfold oq;rw[hx,hk,hT.eK,ak];refine ba (R:=fun r:List aC×aS=>r.2=s0∧r.1.length≤2*L.length∧(∀a∈r.1,StI a)∧
   ∀a∈L,Iv x ty a8 st a→aC.mk (JP x ty a8 st a) (YA x ty a8 st a)∈r.1∧aC.mk (JP x ty a8 st a+ty.bY) 0∈r.1) ?_ fun r h=>aP.2 h
 refine eJ (fun q:List aC×aS×Int=>∃i:Nat,q.2.1=s0∧q.2.2=(i:Int)∧i≤L.length∧q.1.length≤2*i∧(∀a∈q.1,StI a)∧
   ∀a∈L.take i,Iv x ty a8 st a→aC.mk (JP x ty a8 st a) (YA x ty a8 st a)∈q.1∧aC.mk (JP x ty a8 st a+ty.bY) 0∈q.1) (fun q=>L.length-q.2.2.toNat) ⟨0,rfl,rfl,Nat.zero_le _,Nat.le_refl _,(fun a h=>by cases h),(fun a h=>by cases h)⟩ (by simp;omega) ?_
 rintro⟨out,sx,_⟩ ⟨i,hsx,rfl,hi,hl,kK,pq⟩;obtain rfl:s0=sx:=hsx.symm;replace hl:out.length≤2*i:=hl;show post (kR a8 L st ty out s0 (i:Int)) _;unfold kR;rcases Nat.lt_or_ge i L.length with jU|QW
 ·have e:L[i]?=some L[i]:=List.getElem?_eq_getElem jU;have tZ:=List.getElem_mem jU;generalize L[i]=a at e tZ;obtain⟨a1,a2,a3,a4⟩:=hb a tZ;have Qhx:Ou a.ready:=⟨a1,by omega⟩
  have htk:=take_one e;have skip:¬Iv x ty a8 st a→post (some (Sum.inl (out,s0,(i:Int)+1):(List aC×aS×Int)⊕(List aC×aS))) fun z=>(∀s',z=.inl s'→(∃i:Nat,s'.2.1=s0∧s'.2.2=(i:Int)∧i≤L.length∧s'.1.length≤2*i∧(∀a∈s'.1,StI a)∧
   ∀a∈L.take i,Iv x ty a8 st a→aC.mk (JP x ty a8 st a) (YA x ty a8 st a)∈s'.1∧aC.mk (JP x ty a8 st a+ty.bY) 0∈s'.1)∧L.length-s'.2.2.toNat<L.length-((i:Int)).toNat)∧∀e,z=.inr e→e.2=s0∧e.1.length≤2*L.length∧(∀a∈e.1,StI a)∧
   ∀a∈L,Iv x ty a8 st a→aC.mk (JP x ty a8 st a) (YA x ty a8 st a)∈e.1∧aC.mk (JP x ty a8 st a+ty.bY) 0∈e.1:=fun hng=>by
   refine bZ ⟨⟨i+1,rfl,rfl,jU,by simp only;omega,kK,fun c hc hg=>?_⟩,by simp;omega⟩
   rw[htk]at hc;rcases List.mem_append.1 hc with hc|hc
   ·exact pq c hc hg
   ·rw[List.mem_singleton.1 hc]at hg;exact absurd hg hng
  rw[bL e,hx,go_eq hf.ok.bG _ _ _ Qhx,ak,jc e (by omega)]
  have hA:goN x.bG ty.aT a8 st.place a.ready=E9 x ty a8 st a:=rfl;rw[hA];refine a_ (fun h=>skip fun hg=>?_) (fun h=>?_)
  ·simp only[orT,xb]at h;obtain⟨g1,g2,g3⟩:=hg;have hbd:=Iu hf.ok.bG Qhx g1;rw[hA]at hbd;rcases h with h|h
   ·exact h g1
   ·rw[fp (by omega) (by omega),wT (by omega) (by omega),w4]at h
    omega
  ·simp only[PW,yX]at h;have hbd:=Iu hf.ok.bG Qhx (show(E9 x ty a8 st a).2.2=0 by omega)
   rw[hA]at hbd;have h6:=h.2;rw[fp (by omega) (by omega),wT (by omega) (by omega),pL]at h6
   rw[Z4 hs (by omega) (by omega),ak]
   by_cases hc:st.b9<(E9 x ty a8 st a).1
   ·rw[if_pos hc,bD (by decide)]
    exact skip fun hg=>by have:=hg.2.2;omega
   ·rw[if_neg hc]
    dsimp only
    rw[bq (by decide),fp (by omega) (by omega),wT (by omega) (by omega),KK hT hx hk (by omega) (by omega),ak]
    have k1:=Cs (L:=out) (a:=aC.mk (max (E9 x ty a8 st a).1 st.bJ+st.dn) (a.fS+(E9 x ty a8 st a).1-a.ready));have k2:=Cs (L:=Cr out (aC.mk (max (E9 x ty a8 st a).1 st.bJ+st.dn) (a.fS+(E9 x ty a8 st a).1-a.ready))) (a:=aC.mk (max (E9 x ty a8 st a).1 st.bJ+st.dn+ty.bY) 0);refine bZ ⟨⟨i+1,rfl,rfl,jU,by simp only;omega,fun c Ay=>?_,fun c Ay hg=>?_⟩,by simp;omega⟩
    ·rw[ri,ri]at Ay;rcases Ay with(Ay|rfl)|rfl
     ·exact kK c Ay
     ·exact⟨by simp only;omega,by simp only;omega,by simp only;omega,by simp only;omega⟩
     ·exact⟨by simp only;omega,by simp only;omega,by simp only;omega,by simp only;omega⟩
    ·rw[ri,ri,ri,ri];rw[htk]at Ay;rcases List.mem_append.1 Ay with Ay|Ay
     ·obtain⟨q1,q2⟩:=pq c Ay hg;exact⟨.inl (.inl q1),.inl (.inl q2)⟩
     ·rw[List.mem_singleton.1 Ay];exact⟨.inl (.inr rfl),.inr rfl⟩
 ·obtain rfl:i=L.length:=by omega
  rw[bA];refine b5 ⟨rfl,hl,kK,?_⟩;rw[List.take_length]at pq;exact pq
theorem VW{bG:aD}{aG:List a6}{aK:Int}{q:List Bool}(h:okB bG ty aG aK q):∀d k,d+k=q.length→okB bG ty aG aK (q.take k)
 |0,k,hk=>by rw[List.take_of_length_le (by omega)];exact h
 |d+1,k,hk=>by
  have h1:=VW h d (k+1) (by omega)
  have e:q[k]?=some (q[k]'(by omega)):=List.getElem?_eq_getElem _
  rw[take_one e]at h1;exact(wm.1 h1).1
def Qd2(x:ab)(kind:Int)(m:Nat)(ty:al)(l:List ae)(a8:Int)(L:List aC):Prop:=
 ∀w,Hd x (bK kind) m w→(∃u,w=l++u)→a8=jX ty (a7 x (rW (bK kind) w)) l.length∧
  ∀q:List Bool,q.length=l.length→okB x.bG ty (a7 x (rW (bK kind) w)) 0 q→∀c,aC.mk (ka ty (n0 x.bG ty (a7 x (rW (bK kind) w)) 0 q) c) (sv (n0 x.bG ty (a7 x (rW (bK kind) w)) 0 q) c)∈L
theorem QdB(hf:Br x)(hk:x9 kind)(h:Hd x (bK kind) m l):nV x l∧rr (rW (bK kind) l)∧I_ (rW (bK kind) l)∧∃q,QgI x (rW (bK kind) l) (Xx x (rW (bK kind) l)).1 q:=by
 have hR:=Qeg hk;have hq:=Lr hf hR h;have h6:=hq.Ez.six hf;obtain⟨hR2,h9⟩:=Qkx hR (show l.length≤8 by omega)
 obtain⟨_,q,hE⟩:=(Ti hf.ok hR2 h9).2.2.2.2 (QgC hf.ok hR2 h9 h.2.1);exact⟨hq,hR2,h9,q,hE⟩
theorem QkF(hT:TyI x kind ty)(h0:0≤kind):bI x (rW (bK kind) l)=ty:=by
 have h:=hT.eK;unfold bj at h;rw[if_pos h0]at h;unfold bI;show x.types.getD kind.toNat QdF=ty;rw[List.getD_eq_getElem?_getD,h];rfl
theorem Qdp{w:List ae}(h:rQ x v=some st)(hw:w=l++v ::t):(a7 x (rW b w))[l.length]?=some st:=by
 subst hw;unfold a7;show((l++v ::t).map fun v=>(rQ x v).getD Lu)[l.length]?=some st
 rw[List.getElem?_map,List.getElem?_append_right (Nat.le_refl _),Nat.sub_self,List.getElem?_cons_zero];simp [h]
theorem Qb2(hf:Br x)(hk:x9 kind)(h0:0≤kind)(hT:TyI x kind ty)(hv:rQ x v=some st){L L':List aC}(hc:Qd2 x kind m ty l a8 L)
  (hn:∀a∈L,Iv x ty a8 st a→aC.mk (JP x ty a8 st a) (YA x ty a8 st a)∈L'∧aC.mk (JP x ty a8 st a+ty.bY) 0∈L'):Qd2 x kind m ty (l++[v]) st.place L':=by
 rintro w hw ⟨u,hu⟩;rw[List.append_assoc,List.singleton_append]at hu;obtain⟨Qjw,Qme⟩:=hc w hw ⟨v ::u,hu⟩;obtain⟨hq,hR2,h9,qE,hE⟩:=QdB hf hk hw;have kK:=Qdp (b:=bK kind) hv hu;have hTr:=YJ hf.ok hE.Qng;rw[QkF hT h0]at hTr;generalize a7 x (rW (bK kind) w)=aG at *;have jU:l.length<aG.length:=(List.getElem?_eq_some_iff.1 kK).1;have hsk:du ty aG l.length=st:=by
  have:=Lo (t:=ty) jU;rw[kK]at this;exact(Option.some.inj this).symm
 refine⟨?_,fun q hql B3 c=>?_⟩
 ·rw[List.length_append,List.length_singleton];show st.place=(aG.getD l.length Lu).place;rw[List.getD_eq_getElem?_getD,kK];rfl
 ·rw[List.length_append,List.length_singleton]at hql;have eq:q[l.length]?=some (q[l.length]'(by omega)):=List.getElem?_eq_getElem _
  generalize q[l.length]'(by omega)=d at eq
  have Tz:q=q.take l.length++[d]:=by rw[←take_one eq,List.take_of_length_le (by omega)]
  have hdl:(q.take l.length).length=l.length:=by rw[List.length_take];omega
  generalize q.take l.length=p at Tz hdl;subst Tz;obtain⟨g1,g2⟩:=wm.1 B3;have hlb:=FM B3;have tZ:=Qme p hdl g1 d;rw[hdl]at g2 hlb;generalize n0 x.bG ty aG 0 p=lb at *;rw[hlb];clear hlb;unfold AS VU at g2 ⊢;rw[hsk,←Qjw]at g2 ⊢;have hA:goN x.bG ty.aT a8 st.place (ka ty lb d)=E9 x ty a8 st (aC.mk (ka ty lb d) (sv lb d)):=rfl;rw[hA]at g2 ⊢;generalize QjY:aC.mk (ka ty lb d) (sv lb d)=a at *;have e1:a.ready=ka ty lb d:=by rw[←QjY]
  have e2:a.fS=sv lb d:=by rw[←QjY]
  by_cases c1:(E9 x ty a8 st a).2.2≠0
  ·rw[if_pos c1]at g2;cases g2
  rw[if_neg c1]at g2 ⊢;by_cases c2:st.b9<(E9 x ty a8 st a).1
  ·rw[if_pos c2]at g2;rw[if_pos jU]at g2;cases g2
  rw[if_neg c2]at g2 ⊢;by_cases c3:ty.iJ<sv lb d+(E9 x ty a8 st a).1-ka ty lb d
  ·rw[if_pos c3]at g2;cases g2
  rw[if_neg c3]at g2 ⊢;obtain⟨m1,m2⟩:=hn a tZ ⟨by omega,by omega,by omega⟩
  unfold JP YA at m1;unfold JP at m2;rw[e1,e2]at m1;cases c with
  |false =>
   have e:∀lab:an,ka ty lab false=lab.ready∧sv lab false=lab.ff:=fun lab=>⟨by unfold ka;simp,by unfold sv;simp⟩
   rw[(e _).1,(e _).2];exact m1
  |true =>
   have e:∀lab:an,ka ty lab true=lab.ready+ty.bY∧sv lab true=0:=fun lab=>⟨by unfold ka;simp,by unfold sv;simp⟩
   rw[(e _).1,(e _).2];exact m2
theorem QgY(hf:Br x)(hk:x9 kind)(h0:0≤kind)(hT:TyI x kind ty){L:List aC}(hc:Qd2 x kind m ty l a8 L){u:List ae}(hw:Hd x (bK kind) m (l++u)):L≠[]:=by
 obtain⟨hq,hR2,h9,qE,hE⟩:=QdB hf hk hw;have FD:=hE.full;rw[QkF hT h0]at FD;have hlen:=FD.1;rw[uI]at hlen;have Zf:(rW (bK kind) (l++u)).aq.length=l.length+u.length:=by
  show(l++u).length=_;rw[List.length_append]
 have B3:=VW FD.2.2 (qE.length-l.length) l.length (by omega)
 have:=(hc _ hw ⟨u,rfl⟩).2 (qE.take l.length) (by rw[List.length_take];omega) B3 true
 exact fun h=>by rw[h]at this;cases this
end
section
variable {x : ab} {b r : ay} {l t : List ae} {m n : Nat} {v : ae} {s : Option Ky} {kind a8 kj : Int} {ty : al} {st : a6}
theorem Qbg{o:Int}(h0:0≤o)(h:v∈gO x o):∃st,rQ x v=some st:=by
 have ho:=sB h;unfold gO at h;unfold rQ;rw[ho,if_pos h0];split at h
 ·rename_i q hq;rw[hq];simp only;rcases List.mem_append.1 h with h|h
  ·split at h
   ·rename_i hp;rw[List.mem_singleton.1 h];exact⟨_,if_pos hp⟩
   ·cases h
  ·split at h
   ·rename_i hp;rw[List.mem_singleton.1 h];exact⟨_,if_pos hp⟩
   ·cases h
 ·cases h
theorem Qej:eF l=some l:=by
 unfold eF;rw[show wS l 0 (az l)=some l by
  unfold wS az;rw[if_pos (by omega)]
  simp,ak]
theorem O6(hf:Br x)(hk:x9 kind)(h0:0≤kind)(hT:TyI x kind ty)(hm:m<2 ^ x.ah.length):∀(n:Nat) {l:List ae} {s:Option Ky} {a8:Int} {L:List aC},B4 x l→(∀v∈l,v∈zu x m)→6<l.length+n→SY s→
  L.length≤2 ^ (l.length+1)→(∀a∈L,StI a)→Qd2 x kind m ty l a8 L→
  post (iE n (EW x kind m ((zu x m).length:Int) s) l a8 L) fun f=>∃s',f=EW x kind m ((zu x m).length:Int) s'∧HP (Fg x (bK kind) m l) s s'
 |0,l,s,a8,L,hg,_,hn,_,_,_,_=>by have:=hg.six hf;omega
 |n+1,l,s,a8,L,hg,sI,hn,hs,hL,hSt,QlT=>by
  have hx:=hf.ok;have hR:=Qeg hk;have h6:=hg.six hf;have h3:=hf.few;have Uw:m<1024:=Nat.lt_of_lt_of_le hm (Nat.le_trans (Nat.pow_le_pow_right (n:=2) (by omega) h3) (by decide))
  have hlen:∀t,Hd x (bK kind) m (l++t)→l.length+t.length=(zu x m).length:=fun t ht=>by
   have:=Qft (Lr hf hR ht) ht.2.2;rw[List.length_append]at this;exact this
  show post (m_ (iE n) (EW x kind m ((zu x m).length:Int) s) l a8 L) _;unfold m_;rw[Qih,Ue,Yz,Qig];refine a_ (fun h=>?_) (fun h=>?_)
  ·have hll:l.length=(zu x m).length:=by simp only[kJ,az]at h;omega
   have QjE:∀t,Hd x (bK kind) m (l++t)→t=[]:=fun t ht=>List.eq_nil_of_length_eq_zero (by have:=hlen t ht;omega)
   suffices hh:post _ fun f=>∃s',f=EW x kind m ((zu x m).length:Int) s'∧HP (fun k=>Hd x (bK kind) m l∧k=Uz x (bK kind) l) s s' from
    hh.mono fun f ⟨s',h1,h2⟩=>⟨s',h1,h2.congr (Qae QjE)⟩
   obtain⟨hR2,h9⟩:=Qkx hR (show l.length≤8 by omega)
   obtain⟨p1,_⟩:=ZJ hx hR2 h9;have hrw:ay.mk kind 0 [] l=rW (bK kind) l:=rfl;rw[hrw,p1,ak];refine a_ (fun h1=>?_) (fun h1=>aP.2 ⟨s,rfl,HP.none fun q hq=>?_⟩)
   ·rw[kJ]at h1;have hv:Hd x (bK kind) m l:=⟨by omega,h1,Qcf hx hm hg sI hll⟩
    have hS:∀q,(Hd x (bK kind) m l∧q=Uz x (bK kind) l)↔q=Uz x (bK kind) l:=fun q=>⟨fun h=>h.2,fun h=>⟨hv,h⟩⟩
    have Ki:af.mk kind (m:Int) (prX x (rW (bK kind) l)).1 (rW (bK kind) l)=LG (bK kind) m (Uz x (bK kind) l):=rfl;rw[Ki];unfold gY;cases s with
    |none=>exact aP.2 ⟨some (Uz x (bK kind) l),rfl,HP.one hS (.inl ⟨rfl,fun q h=>by cases h⟩)⟩
    |some q =>
     have hq:=hs q rfl;show post (aR (br true (aR (uo (LG (bK kind) m (Uz x (bK kind) l)) (LG (bK kind) m q)) fun r2=>_) _) _) _
     rw[fW,Z2 (show l.length≤1048576 by omega) hq,ak,zz,ak]
     by_cases h2:decide (QE (Uz x (bK kind) l) q)=true
     ·have h3:QE (Uz x (bK kind) l) q:=of_decide_eq_true h2;refine aP.2 ⟨some (Uz x (bK kind) l),?_,HP.one hS (.inl ⟨rfl,fun q' e h4=>by cases e;exact Ov (R4 h3 h4)⟩)⟩
      rw[if_pos (show decide (QE ((LG (bK kind) m (Uz x (bK kind) l)).kM,(LG (bK kind) m (Uz x (bK kind) l)).db.aq) ((LG (bK kind) m q).kM,(LG (bK kind) m q).db.aq))=true from h2)];rfl
     ·have h3:¬QE (Uz x (bK kind) l) q:=of_decide_eq_false (by simpa using h2)
      refine aP.2 ⟨some q,?_,HP.one hS (.inr ⟨rfl,q,rfl,h3⟩)⟩;rw[if_neg (show ¬decide (QE ((LG (bK kind) m (Uz x (bK kind) l)).kM,(LG (bK kind) m (Uz x (bK kind) l)).db.aq) ((LG (bK kind) m q).kM,(LG (bK kind) m q).db.aq))=true from h2)];rfl
   ·exact(zC.1 h1) hq.1.2.1
  ·rw[Qd8 hx (by omega) Uw,ak]
   have hnl:=Ms (x:=x) (m:=m) (l:=l) x.ah.length;refine uE ?_
   refine eJ (fun q:aS×Int=>∃(i:Nat) (s':Option Ky),q=(EW x kind m ((zu x m).length:Int) s',(i:Int))∧i≤(qv x m l x.ah.length).length∧HP (fun k=>∃v∈(qv x m l x.ah.length).take i,Fg x (bK kind) m (l++[v]) k) s s') (fun q=>(qv x m l x.ah.length).length-q.2.toNat) ⟨0,s,rfl,Nat.zero_le _,HP.none fun k hk=>by simp at hk⟩ (by simp;omega) ?_
   rintro _ ⟨i,s',rfl,hi,hb⟩;show post (lS (iE n) l a8 L (qv x m l x.ah.length) (EW x kind m ((zu x m).length:Int) s') (i:Int)) _;unfold lS;rcases Nat.lt_or_ge i (qv x m l x.ah.length).length with jU|QW
   ·have e:(qv x m l x.ah.length)[i]?=some (qv x m l x.ah.length)[i]:=List.getElem?_eq_getElem jU;have tZ:=List.getElem_mem jU;generalize(qv x m l x.ah.length)[i]=v at e tZ;have hg2:=QaP hg tZ;obtain⟨j,j1,j2,j3,j4,j5⟩:=Mj.1 tZ;obtain⟨st,kK⟩:=Qbg (by omega) j4
    have Qck:=Wx hx kK;have QlG:SOK st:=⟨Qck.2.2.1,Qck.2.2.2.1,Qck.2.2.2.2.1,Qck.2.2.2.2.2.1,Qck.2.2.2.2.2.2⟩;have QoC:(2:Nat) ^ (l.length+1)≤2 ^ 7:=Nat.pow_le_pow_right (by omega) (by omega)
    rw[bL e,Ue,H7,kK,ak];show post (br (cr 0 0) _ _) _;rw[bq (by decide),jc e (by omega)]
    refine ba (YL hf hT QlG Ue Yz (by omega) hSt) fun r4 ⟨q1,q2,q3,q4⟩=>?_
    have Qf6:=Qb2 hf hk h0 hT kK QlT q4;rw[q1];refine a_ (fun rR=>?_) (fun hem=>?_)
    ·rw[Qej,ak,fg (dt (by simp;omega))]
     refine ba (O6 hf hk h0 hT hm n hg2 (fun w hw=>?_) (by simp;omega) (hs.bst hb (UX (l:=l))) ?_ q3 Qf6) fun f ⟨s2,h1,h2⟩=>?_
     ·rcases List.mem_append.1 hw with hw|hw
      ·exact sI w hw
      ·rw[List.mem_singleton.1 hw];exact Kx.2 ⟨j,j1,j2,j4⟩
     ·rw[List.length_append,List.length_singleton,Nat.pow_succ];omega
     ·subst h1;exact bZ ⟨⟨i+1,s2,rfl,jU,hb.more (T:=fun v k=>Fg x (bK kind) m (l++[v]) k) e h2⟩,by simp;omega⟩
    ·refine bZ ⟨⟨i+1,s',rfl,jU,hb.more (T:=fun v k=>Fg x (bK kind) m (l++[v]) k) e (HP.none fun k hk2=>?_)⟩,by simp;omega⟩
     obtain⟨t',h1,_⟩:=hk2;refine QgY hf hk h0 hT Qf6 h1 (List.eq_nil_of_length_eq_zero ?_);simp only[pL,az]at hem;omega
   ·obtain rfl:i=(qv x m l x.ah.length).length:=by omega
    rw[bA];refine b5 (aP.2 ⟨s',rfl,hb.congr fun k=>?_⟩)
    rw[List.take_length];refine Qaf (fun t ht=>?_) k
    cases t with
    |nil =>
     have:=hlen [] ht;simp only[zC,az]at h;simp only[List.length_nil]at this;omega
    |cons v t'=>exact⟨v,t',rfl,QdC hf hR ht⟩
def GC(x:ab)(b:ay)(m:Nat)(k:Ky):Prop:=if b.aQ.length>b.aq.length then Hd x b m b.aq∧k=Uz x b b.aq else Fg x b m b.aq k
open Classical in
def Yg(x:ab)(b:ay)(m:Nat):Option Ky:=if h:∃s,HP (GC x b m) none s then h.choose else none
theorem ZE(h:HP (GC x b m) none s):s=Yg x b m:=by
 have he:∃s,HP (GC x b m) none s:=⟨s,h⟩;unfold Yg;rw[dif_pos he];exact h.uniq he.choose_spec
def Qli(b:ay)(m:Nat)(s:Option Ky):af×Int:=match s with
 |none=>(Qix,24)
 |some k=>(LG b m k,0)
def JG(x:ab)(b:ay)(bz:Int):af×Int:=
 if(0≤b.aY∧b.aY<x.types.length)∧0<bz∧bz<((2 ^ x.ah.length:Nat):Int)then Qli b bz.toNat (Yg x b bz.toNat)else(Qix,2)
theorem Qik(hx:da x)(hm:0<m):cM (zd .i64 (m:Int) (az x.ah)) 0=decide (m<2 ^ x.ah.length):=by
 have dm:=hx.ah;unfold az;rw[Qa8 (by omega),Bool.eq_iff_iff,kJ,decide_eq_true_iff]
 have h2:=Nat.two_pow_pos x.ah.length;constructor
 ·intro h;have:m / 2 ^ x.ah.length=0:=by omega
  rcases(Nat.div_eq_zero_iff).1 this with h'|h'
  ·omega
  ·exact h'
 ·intro h;rw[Nat.div_eq_of_lt h];rfl
theorem Qdd(hf:Br x):2 ^ x.ah.length≤8:=Nat.le_trans (Nat.pow_le_pow_right (n:=2) (by omega) hf.few) (by decide)
end
section
variable {x : ab} {b r : ay} {l t : List ae} {m n : Nat} {v : ae} {s : Option Ky} {kind a8 kj : Int} {ty : al} {st : a6}
theorem Qbd{α:Type}{f:α→Int}{a:α}{l:List α}:dq f (a ::l)=f a+dq f l:=by simp [dq]
theorem Qaj{M:List Int}{f:Int→Int}:∀s:Int,Fx (fun s a=>(.inl (s+f a):Int⊕Int)) id s M=s+dq f M:=by
 induction M with
 |nil=>intro s;rw[Qs,Fx];simp
 |cons a r ih=>intro s;rw[RS rfl,ih,Qbd];omega
theorem SM(hm:m<1024)(hb:m<2 ^ x.ah.length):∀k,dq (fun a=>((gO x a).length:Int)) (yF (WY m) k)=((H_ x m [] (min k x.ah.length)).length:Int)
 |0=>by simp [yF,dq,H_]
 |k+1=>by
  have ih:=SM hm hb k;unfold yF;rw[qd,ih,←Kq hm];rcases Nat.lt_or_ge k x.ah.length with h|h
  ·rw[Nat.min_eq_left (by omega),Nat.min_eq_left (by omega)]
   show _=((H_ x m [] k++_).length:Int);rw[List.length_append];cases m.testBit k with
   |false=>simp [dq]
   |true =>
    have G1:(gO x (k:Int)).filter (fun v=>!([]:List ae).any (nS v))=gO x (k:Int):=List.filter_eq_self.2 fun _ _=>rfl
    rw[if_pos rfl,if_pos rfl,re,G1];simp
  ·have hz:m.testBit k=false:=Nat.testBit_lt_two_pow (Nat.lt_of_lt_of_le hb (Nat.pow_le_pow_right (by omega) h))
   rw[Nat.min_eq_right (by omega),Nat.min_eq_right (by omega),hz]
   simp [dq]
theorem tyI(hf:Br x)(h:0≤kind∧kind<x.types.length):∃ty,TyI x kind ty:=by
 have hT:=hf.ok.typ _ (List.getElem_mem (show kind.toNat<x.types.length by omega))
 exact⟨_,A5 h.1 h.2,hT.iJ,hT.rest,hT.opn.1,by have:=hT.opn;have:=hT.b9;omega⟩
theorem Qch:B4 x []:=⟨by simp,fun v h=>by cases h⟩
theorem SK:GC x (bK kind) m=Fg x (bK kind) m []:=by
 funext k
 unfold GC;rw[if_neg (by show ¬(0>0);omega)]
 rfl
theorem S3(hf:Br x)(hk:x9 kind){bz:Int}:B6 x kind bz=some (JG x (bK kind) bz):=by
 have hx:=hf.ok;have h8:=Qdd hf;have dm:=hx.ah;unfold B6 JG;by_cases ht:0≤kind∧kind<x.types.length
 ·have ht':0≤(bK kind).aY∧(bK kind).aY<x.types.length:=ht;by_cases hp:0<bz
  ·obtain⟨m,rfl⟩:∃m:Nat,bz=m:=⟨bz.toNat,by omega⟩
   rw[bq (by simp [az];omega),fg (by unfold az;omega)]
   have rR:cr (zd .i64 (m:Int) (az x.ah)) 0=!decide (m<2 ^ x.ah.length):=by rw[←Qik hx (by omega)];rfl
   rw[rR];by_cases hm:m<2 ^ x.ah.length
   ·rw[bq (by simp [hm]),if_pos ⟨ht',hp,by omega⟩,Int.toNat_natCast]
    have Uw:m<1024:=by omega
    obtain⟨e,he,sI⟩:=SU hx hm;rw[he,ak];by_cases he0:e=0
    ·rw[bq (by simpa using he0),C_ (TJ Uw),ak]
     have hlen:=CH (l:=WY m) 63;have QeR:=SM (x:=x) Uw hm 63;rw[Nat.min_eq_right (by omega)]at QeR
     have tZ:∀i∈yF (WY m) 63,0≤i∧i<x.ah.length:=fun i hi=>by
      obtain⟨k,rfl,_,hk⟩:=FU hi;rw[←Kq Uw]at hk;refine⟨by omega,?_⟩
      have:k<x.ah.length:=Nat.lt_of_not_le fun QW=>by
       have:m.testBit k=false:=Nat.testBit_lt_two_pow (Nat.lt_of_lt_of_le hm (Nat.pow_le_pow_right (by omega) QW))
       rw[this]at hk;cases hk
      omega
     generalize yF (WY m) 63=M at *;have Pv:aL (fun s:Int×Int=>mw x kind (m:Int) M s.1 s.2) (0,0)=some ((zu x m).length:Int):=by
      rw[PN (B:=fun s:Int×Int=>mw x kind (m:Int) M s.1 s.2) (l:=M) (by omega) (fun s a=>(.inl (s+((gO x a).length:Int)):Int⊕Int)) id (fun i s=>0≤s∧s≤2*i) (fun s i a h hi=>⟨by
       obtain⟨q0,q1⟩:=tZ a (List.mem_of_getElem? h);have hl:=(List.getElem?_eq_some_iff.1 h).1;have hv:=wO (x:=x) (o:=a);show mw x kind (m:Int) M s i=_;unfold mw;rw[bL h,B5 hx q0 q1,ak,jc h (by omega)]
       unfold az;rw[fp (by omega) (by omega)],fun s' h'=>by
       cases h';have hv:=wO (x:=x) (o:=a);omega⟩) (fun s _=>by
       show mw x kind (m:Int) M s M.length=_;unfold mw;rw[bA];rfl) ⟨by omega,by omega⟩,Qaj,QeR]
      unfold zu;simp
     rw[ct Pv];obtain⟨ty,hT⟩:=tyI hf ht;have Vz:=hT.rest;have Qax:=hT.opn;rw[hT.eK,ak];have hz:aS.mk x kind (m:Int) ((zu x m).length:Int) (af.mk 0 0 0 (ay.mk 0 0 [] [])) false=EW x kind m ((zu x m).length:Int) none:=rfl;rw[hz];have zP:my (EW x kind m ((zu x m).length:Int) none) ty.bJ 0=some (Cr (Cr [] (aC.mk ty.bJ 0)) (aC.mk (ty.bJ+ty.bY) 0),EW x kind m ((zu x m).length:Int) none):=
      KK (L:=[]) hT Ue Yz (Nat.zero_le _) (d:=ty.bJ) (e:=0) (by omega)
     rw[zP,ak];have k1:=Cs (L:=[]) (a:=aC.mk ty.bJ 0);have k2:=Cs (L:=Cr [] (aC.mk ty.bJ 0)) (a:=aC.mk (ty.bJ+ty.bY) 0);obtain⟨f,hfe,s',rfl,hb⟩:=O6 hf hk ht.1 hT hm u9 (l:=[]) (s:=none) (a8:=ty.a8) (L:=Cr (Cr [] (aC.mk ty.bJ 0)) (aC.mk (ty.bJ+ty.bY) 0)) Qch (fun v h=>by cases h) (by unfold u9;omega) (fun k h=>by cases h)
      (by simp only [List.length_nil] at k1 ⊢; omega) (fun a ha=>by
       rw[ri,ri]at ha;rcases ha with(ha|rfl)|rfl
       ·cases ha
       ·exact⟨by simp only;omega,by simp only;omega,by simp only;omega,by simp only;omega⟩
       ·exact⟨by simp only;omega,by simp only;omega,by simp only;omega,by simp only;omega⟩)
      (fun w hw _=>⟨rfl,fun q hq B3 c=>by
       have hq0:q=[]:=List.eq_nil_of_length_eq_zero hq;subst hq0;have hlb:n0 x.bG ty (a7 x (rW (bK kind) w)) 0 []=te ty 0:=rfl;rw[hlb,ri,ri];unfold te;have hmx:max ty.bJ 0=ty.bJ:=by omega
       rw[hmx];cases c with
       |false =>
        refine .inl (.inr ?_);unfold ka sv;simp
       |true =>
        refine .inr ?_
        unfold ka sv;simp⟩)
     show aR (iE u9 (EW x kind m ((zu x m).length:Int) none) [] ty.a8 _) _=_;rw[hfe,ak,←ZE (s:=s') (by rw[SK];exact hb)]
     cases s' <;> rfl
    ·rw[bD (by simpa using he0)]
     have hno:Yg x (bK kind) m=none:=by
      refine(ZE (s:=none) (HP.none fun q hq=>?_)).symm
      rw[SK]at hq;obtain⟨t,hv,_⟩:=hq;exact he0 (sI _ (Lr hf (Qeg hk) hv) hv.2.2)
     rw[hno];rfl
   ·rw[bD (by simp;omega),if_neg (by omega)]
    rfl
  ·rw[bD (by simp [az];omega),if_neg (by omega)]
   rfl
 ·have ht':¬(0≤(bK kind).aY∧(bK kind).aY<x.types.length):=ht;rw[bD (by simp [az];omega),if_neg (fun h=>ht' h.1)]
  rfl
end
section
variable {x : ab} {b r : ay} {l t : List ae} {m n : Nat} {v : ae} {s : Option Ky} {kind bz : Int} {a c : af}
theorem QaW{k:Ky}(h:Yg x b m=some k):GC x b m k:=by
 unfold Yg at h;split at h
 ·rename_i he;exact(he.choose_spec.1 k h).resolve_left fun h=>by cases h
 ·cases h
theorem Qbb{k:Ky}(h:GC x b m k):∃t,k.2=b.aq++t∧(b.aQ.length>b.aq.length→t=[])∧Hd x b m k.2∧k=Uz x b k.2:=by
 unfold GC at h;split at h
 ·rename_i hgt;obtain⟨h1,h2⟩:=h;have e:k.2=b.aq:=by rw[h2];rfl
  exact⟨[],by rw[e];simp,fun _=>rfl,by rw[e];exact h1,by rw[e];exact h2⟩
 ·rename_i hle;obtain⟨t,h1,h2⟩:=h;have e:k.2=b.aq++t:=by rw[h2];rfl
  exact⟨t,e,fun h=>absurd h hle,by rw[e];exact h1,by rw[e];exact h2⟩
def Fh(x:ab)(b:ay)(fit:Nat→Bool):Nat→List af
 |0=>[]
 |j+1=>Fh x b fit j++if(fit (j+1)&&cM (JG x b ((j+1:Nat):Int)).2 0)=true then [(JG x b ((j+1:Nat):Int)).1]else []
theorem LH{fit:Nat→Bool}:∀j,(Fh x b fit j).length≤j
 |0=>Nat.le_refl _
 |j+1=>by
  have:=LH (fit:=fit) j;unfold Fh;rw[List.length_append];split <;> simp <;> omega
theorem Qah(hf:Br x){fit:Nat→Bool}{B:List af×Int→Option ((List af×Int)⊕(List af))}(L0:List af)(h0:L0.length≤1000)
  (pq:∀(j:Nat) (L:List af),j+1<2 ^ x.ah.length→L.length≤2000→B (L,((j+1:Nat):Int))=some (.inl (L++(if(fit (j+1)&&cM (JG x b ((j+1:Nat):Int)).2 0)=true then [(JG x b ((j+1:Nat):Int)).1]else []),((j+2:Nat):Int))))
  (Dh:∀L:List af,B (L,((2 ^ x.ah.length:Nat):Int))=some (.inr L)):aL B (L0,1)=some (L0++Fh x b fit (2 ^ x.ah.length-1)):=by
 have h8:=Qdd hf;have h2:=Nat.two_pow_pos x.ah.length;have e0:(L0,(1:Int))=(fun j:Nat=>(L0++Fh x b fit j,((j+1:Nat):Int))) 0:=by simp [Fh]
 rw[e0];refine il (2 ^ x.ah.length-1) (fun j:Nat=>(L0++Fh x b fit j,((j+1:Nat):Int))) (by omega) (fun j hj=>?_) ?_
 ·have hl:=LH (x:=x) (b:=b) (fit:=fit) j;rw[pq j _ (by omega) (by rw[List.length_append];omega)]
  show some (Sum.inl (_,_))=some (Sum.inl (L0++(Fh x b fit j++_),_));rw[List.append_assoc]
 ·rw[show 2 ^ x.ah.length-1+1=2 ^ x.ah.length by omega]
  exact Dh _
def JB(x:ab):Nat→List af
 |0=>[]
 |k+1=>JB x k++Fh x (bK (k:Int)) (fun _=>true) (2 ^ x.ah.length-1)
theorem UJ(hf:Br x):∀k,(JB x k).length≤7*k
 |0=>Nat.le_refl _
 |k+1=>by
  have h8:=Qdd hf;have h1:=UJ hf k;have h2:=LH (x:=x) (b:=bK (k:Int)) (fit:=fun _=>true) (2 ^ x.ah.length-1)
  unfold JB;rw[List.length_append];omega
theorem kI6{k:Nat}(h:k≤6):x9 (k:Int):=⟨by omega,by omega⟩
theorem okC{L:List af}(h:L.length≤1000000):eO L.length 88:=dt (by omega)
theorem UR(hf:Br x):Fa x=some (JB x x.types.length,0):=by
 have hx:=hf.ok;have h8:=Qdd hf;have h6:=hx.types;have dm:=hx.ah;unfold Fa;have hl:aL (fun s:List af×Int=>oo x s.1 s.2) ([],0)=some (JB x x.types.length):=il x.types.length (fun k=>(JB x k,(k:Int))) (B:=fun s:List af×Int=>oo x s.1 s.2) (by omega) (fun k hk=>by
  have hlen:=UJ hf k;show oo x (JB x k) (k:Int)=_;unfold oo;rw[bD (by simp [az];omega),inc hk (by omega)]
  rw[ct (Qah (b:=bK (k:Int)) (fit:=fun _=>true) hf (B:=fun s:List af×Int=>qo x (JB x k) (k:Int) s.1 s.2) (JB x k) (by omega) (fun j L hj hL=>by
   show qo x (JB x k) (k:Int) L ((j+1:Nat):Int)=_;unfold qo;rw[fg (by unfold az;omega),Qik hx (by omega),bD (decide_eq_true hj),S3 hf (kI6 (by omega)),ak,fg (okC (by simp;omega)),fp (by omega) (by omega),zz,Bool.true_and]
   rw[show(((j+1:Nat):Int)+1)=((j+2:Nat):Int) by omega]
   split <;> simp) (fun L=>by
   show qo x (JB x k) (k:Int) L ((2 ^ x.ah.length:Nat):Int)=_;unfold qo;rw[fg (by unfold az;omega),Qik hx (Nat.two_pow_pos _),bq (decide_eq_false (by omega))]))]
  rfl) (by
  show oo x (JB x x.types.length) (x.types.length:Int)=_;unfold oo;rw[bq (by simp [az])])
 rw[ct hl]
end
end
end Go.Proofs.YtkcilfpbgjjjbaaGreatDoor
