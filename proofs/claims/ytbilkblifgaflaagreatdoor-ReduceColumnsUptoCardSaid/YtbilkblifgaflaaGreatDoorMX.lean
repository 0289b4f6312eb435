/- Part MX. -/
import Derived.Test.YtbilkblifgaflaaGreatDoorMR
set_option linter.unusedSimpArgs false
set_option linter.unusedVariables false
set_option linter.unusedSectionVars false
namespace Go.Proofs.YtbilkblifgaflaaGreatDoor
noncomputable section
def ltV(a b:ab):Bool:=aT a.aL b.aL||(bP a.aL b.aL&&(!a.drop&&b.drop))
theorem Rb{a b:ab}:ltV a b=true↔a.aL<b.aL∨(a.aL=b.aL∧a.drop=false∧b.drop=true):=by
 unfold ltV;simp
theorem W2{a:ab}:ltV a a=false:=by
 rw[Bool.eq_false_iff];intro h;rw[Rb]at h;rcases h with h|⟨_,h1,h2⟩
 ·omega
 ·rw[h1]at h2;cases h2
theorem Qd5{a b c:ab}(h1:ltV a b=true)(h2:ltV b c=true):ltV a c=true:=by
 rw[Rb]at *;rcases h1 with h1|⟨h1,h3,h4⟩ <;> rcases h2 with h2|⟨h2,h5,h6⟩
 ·exact .inl (by omega)
 ·exact .inl (by omega)
 ·exact .inl (by omega)
 ·rw[h4]at h5;cases h5
theorem Qi0(a b:ab):a=b∨ltV a b=true∨ltV b a=true:=by
 rcases Int.lt_trichotomy a.aL b.aL with h|h|h
 ·exact .inr (.inl (Rb.2 (.inl h)))
 ·cases ha:a.drop <;> cases hb:b.drop
  ·exact .inl (by cases a;cases b;simp_all)
  ·exact .inr (.inl (Rb.2 (.inr ⟨h,ha,hb⟩)))
  ·exact .inr (.inr (Rb.2 (.inr ⟨h.symm,hb,ha⟩)))
  ·exact .inl (by cases a;cases b;simp_all)
 ·exact .inr (.inr (Rb.2 (.inl h)))
def y5:List ab→List ab→Bool
 | [],[]=>false
 | [],_ ::_=>true
 |_ ::_,[]=>false
 |a ::l,b ::m=>ltV a b||(decide (a=b)&&y5 l m)
theorem Vv:∀{l:List ab},y5 l l=false
 | []=>rfl
 |a ::l=>by unfold y5;rw[W2,Vv];simp
theorem Q9:∀{a b c:List ab},y5 a b=true→y5 b c=true→y5 a c=true
 | [],[],_,h,_=>by cases h
 |_ ::_,[],_,h,_=>by cases h
 | [],_ ::_,[],_,h=>by cases h
 | [],_ ::_,_ ::_,_,_=>rfl
 |_ ::_,_ ::_,[],_,h=>by cases h
 |x ::a,y ::b,z ::c,h1,h2=>by
  unfold y5 at *;simp only[Bool.or_eq_true,Bool.and_eq_true,decide_eq_true_iff]at *;rcases h1 with h1|⟨rfl,h1⟩
  ·rcases h2 with h2|⟨rfl,h2⟩
   ·exact .inl (Qd5 h1 h2)
   ·exact .inl h1
  ·rcases h2 with h2|⟨rfl,h2⟩
   ·exact .inl h2
   ·exact .inr ⟨rfl,Q9 h1 h2⟩
theorem Vw:∀(a b:List ab),a=b∨y5 a b=true∨y5 b a=true
 | [],[]=>.inl rfl
 | [],_ ::_=>.inr (.inl rfl)
 |_ ::_,[]=>.inr (.inr rfl)
 |x ::a,y ::b=>by
  unfold y5;simp only[Bool.or_eq_true,Bool.and_eq_true,decide_eq_true_iff];rcases Qi0 x y with rfl|h|h
  ·rcases Vw a b with rfl|h|h
   ·exact .inl rfl
   ·exact .inr (.inl (.inr ⟨rfl,h⟩))
   ·exact .inr (.inr (.inr ⟨rfl,h⟩))
  ·exact .inr (.inl (.inl h))
  ·exact .inr (.inr (.inl h))
abbrev Ky:=Int×List ab
def RA(k q:Ky):Prop:=k.1<q.1∨(k.1=q.1∧y5 k.2 q.2=true)
theorem Om{k:Ky}:¬RA k k:=by
 rintro(h|⟨_,h⟩)
 ·omega
 ·rw[Vv]at h;cases h
theorem P1{a b c:Ky}(h1:RA a b)(h2:RA b c):RA a c:=by
 rcases h1 with h1|⟨h1,h3⟩ <;> rcases h2 with h2|⟨h2,h4⟩
 ·exact .inl (by omega)
 ·exact .inl (by omega)
 ·exact .inl (by omega)
 ·exact .inr ⟨by omega,Q9 h3 h4⟩
theorem Qcy(a b:Ky):a=b∨RA a b∨RA b a:=by
 rcases Int.lt_trichotomy a.1 b.1 with h|h|h
 ·exact .inr (.inl (.inl h))
 ·rcases Vw a.2 b.2 with h'|h'|h'
  ·exact .inl (Prod.ext h h')
  ·exact .inr (.inl (.inr ⟨h,h'⟩))
  ·exact .inr (.inr (.inr ⟨h.symm,h'⟩))
 ·exact .inr (.inr (.inl h))
theorem Qd0{a b c:Ky}(h1:¬RA a b)(h2:¬RA b c):¬RA a c:=fun h=>by
 rcases Qcy b c with rfl|h3|h3
 ·exact h1 h
 ·exact h2 h3
 ·exact h1 (P1 h h3)
def DV(S:Ky→Prop)(s t:Option Ky):Prop:=(∀k,t=some k→s=some k∨S k)∧(∀k,(s=some k∨S k)→∃k',t=some k'∧¬RA k k')
theorem DV.none{S:Ky→Prop}{s:Option Ky}(h:∀k,¬S k):DV S s s:=
 ⟨fun k e=>.inl e,fun k e=>e.elim (fun e=>⟨k,e,Om⟩) fun e=>absurd e (h k)⟩
theorem DV.comp{S T:Ky→Prop}{s t u:Option Ky}(h1:DV S s t)(h2:DV T t u):DV (fun k=>S k∨T k) s u:=by
 refine⟨fun k e=>?_,fun k e=>?_⟩
 ·rcases h2.1 k e with e|e
  ·rcases h1.1 k e with e|e
   ·exact .inl e
   ·exact .inr (.inl e)
  ·exact .inr (.inr e)
 ·have go:(s=some k∨S k)→∃k',u=some k'∧¬RA k k':=fun e=>by
   obtain⟨a,ha,hl⟩:=h1.2 k e;obtain⟨b,hb,hm⟩:=h2.2 a (.inl ha);exact⟨b,hb,Qd0 hl hm⟩
  rcases e with e|e|e
  ·exact go (.inl e)
  ·exact go (.inr e)
  ·exact h2.2 k (.inr e)
theorem DV.congr{S T:Ky→Prop}{s t:Option Ky}(h:DV S s t)(he:∀k,S k↔T k):DV T s t:=
 ⟨fun k e=>(h.1 k e).imp id (he k).1,fun k e=>h.2 k (e.imp id (he k).2)⟩
theorem DV.uniq{S:Ky→Prop}{s t u:Option Ky}(h1:DV S s t)(h2:DV S s u):t=u:=by
 cases t with
 |none =>
  cases u with
  |none=>rfl
  |some k=>obtain⟨k',e,_⟩:=h1.2 k (h2.1 k rfl);cases e
 |some k =>
  obtain⟨k',e,h3⟩:=h2.2 k (h1.1 k rfl);obtain⟨k'',e',h4⟩:=h1.2 k' (h2.1 k' e);cases e';rcases Qcy k k' with rfl|h|h
  ·exact e.symm
  ·exact absurd h h3
  ·exact absurd h h4
theorem DV.one{S:Ky→Prop}{k:Ky}(hS:∀q,S q↔q=k){s t:Option Ky}(h:(t=some k∧∀q,s=some q→¬RA q k)∨(t=s∧∃q,s=some q∧¬RA k q)):DV S s t:=by
 rcases h with⟨rfl,h⟩|⟨rfl,q,rfl,h⟩
 ·refine⟨fun q e=>.inr ((hS q).2 (Option.some.inj e).symm),fun q e=>⟨k,rfl,?_⟩⟩
  rcases e with e|e
  ·exact h q e
  ·rw[(hS q).1 e];exact Om
 ·refine⟨fun q e=>.inl e,fun q' e=>?_⟩
  rcases e with e|e
  ·exact⟨q',e,Om⟩
  ·rw[(hS q').1 e];exact⟨q,rfl,h⟩
theorem DV.more{α:Type}{T:α→Ky→Prop}{l:List α}{i:Nat}{a:α}{s t u:Option Ky}(h:DV (fun k=>∃b∈l.take i,T b k) s t)(ha:l[i]?=some a)(h2:DV (T a) t u):DV (fun k=>∃b∈l.take (i+1),T b k) s u:=by
 refine(h.comp h2).congr fun k=>?_
 rw[take_one ha];constructor
 ·rintro(⟨b,hb,h⟩|h)
  ·exact⟨b,List.mem_append_left _ hb,h⟩
  ·exact⟨a,by simp,h⟩
 ·rintro⟨b,hb,h⟩;rcases List.mem_append.1 hb with hb|hb
  ·exact .inl ⟨b,hb,h⟩
  ·rw[List.mem_singleton.1 hb]at h;exact .inr h
def BS(v:ab):List ab→List ab
 | []=>[]
 |w ::r=>if w=v then []else w ::BS v r
def Qs(x:ae)(l:List ab)(o:Int):Bool:=x.before.all fun p=>!bP p.x1 o||(gN x p.x0).all fun w=>l.any (oH w)
def wX(x:ae)(l:List ab)(v:ab):Bool:=!l.any (oH v)&&((BS v (gN x v.aL)).all (fun w=>l.any (oH w))&&Qs x l v.aL)
def Tg(x:ae)(i:Nat):Bool:=match x.ah[i]? with
 |some o=>o.off
 |none=>true
def jv(x:ae)(m:Nat)(l:List ab):Nat→List ab
 |0=>[]
 |n+1=>jv x m l n++if(m.testBit n&&!Tg x n)=true then(gN x (n:Int)).filter (wX x l)else []
def Mq(x:ae)(m:Nat)(l:List ab):Nat→List ab
 |0=>[]
 |n+1=>Mq x m l n++if m.testBit n=true then(gN x (n:Int)).filter (fun v=>!l.any (oH v))else []
structure xx (x:ae) (l:List ab):Prop where
 nodup:l.Nodup
 Vo:∀v∈l,0≤v.aL∧v.aL<x.ah.length
section
variable {x : ae} {l t : List ab} {m : Nat} {v w : ab}
theorem rm{o:Int}(h:v∈gN x o):v.aL=o:=by
 unfold gN at h;split at h
 ·rcases List.mem_append.1 h with h|h <;>(split at h <;> simp at h;rw[h])
 ·cases h
theorem QbB{o:Int}:(gN x o).Pairwise fun a b=>ltV a b=true:=by
 unfold gN;split
 ·split <;> split <;> simp [ltV]
 ·exact List.Pairwise.nil
theorem KX{n:Nat}:v∈jv x m l n↔∃i,i<n∧m.testBit i=true∧Tg x i=false∧v∈gN x (i:Int)∧wX x l v=true:=by
 induction n with
 |zero=>simp [jv]
 |succ n ih =>
  unfold jv;rw[List.mem_append,ih];constructor
  ·rintro(⟨i,h1,h2⟩|h)
   ·exact⟨i,by omega,h2⟩
   ·split at h
    ·rename_i hb;simp only[Bool.and_eq_true,Bool.not_eq_true']at hb;obtain⟨h1,h2⟩:=List.mem_filter.1 h;exact⟨n,by omega,hb.1,hb.2,h1,h2⟩
    ·cases h
  ·rintro⟨i,h1,h2,h3,h4,h5⟩;rcases Nat.lt_or_eq_of_le (Nat.le_of_lt_succ h1)with h|rfl
   ·exact .inl ⟨i,h,h2,h3,h4,h5⟩
   ·refine .inr ?_
    rw[if_pos (by rw[h2,h3];rfl)]
    exact List.mem_filter.2 ⟨h4,h5⟩
theorem QgW:(!l.any (oH v))=true↔v ∉ l:=by rw[Bool.not_eq_true',Bool.eq_false_iff,Ne,IU]
theorem VE{n:Nat}:v∈Mq x m l n↔∃i,i<n∧m.testBit i=true∧v∈gN x (i:Int)∧(v∈l→False):=by
 induction n with
 |zero=>simp [Mq]
 |succ n ih =>
  unfold Mq;rw[List.mem_append,ih];constructor
  ·rintro(⟨i,h1,h2⟩|h)
   ·exact⟨i,by omega,h2⟩
   ·split at h
    ·rename_i hb;obtain⟨h1,h2⟩:=List.mem_filter.1 h;exact⟨n,by omega,hb,h1,QgW.1 h2⟩
    ·cases h
  ·rintro⟨i,h1,h2,h3,h4⟩;rcases Nat.lt_or_eq_of_le (Nat.le_of_lt_succ h1)with h|rfl
   ·exact .inl ⟨i,h,h2,h3,h4⟩
   ·refine .inr ?_
    rw[if_pos h2];exact List.mem_filter.2 ⟨h3,QgW.2 h4⟩
theorem O7:∀n,(Mq x m l n).Pairwise fun a b=>ltV a b=true
 |0=>List.Pairwise.nil
 |n+1=>by
  unfold Mq;rw[List.pairwise_append];refine⟨O7 n,?_,fun a ha b hb=>?_⟩
  ·split
   ·exact QbB.sublist List.filter_sublist
   ·exact List.Pairwise.nil
  ·obtain⟨i,h1,_,h2,_⟩:=VE.1 ha;split at hb
   ·have h3:=rm h2;have h4:=rm (List.mem_filter.1 hb).1;exact Rb.2 (.inl (by omega))
   ·cases hb
theorem Tu(h:wX x l v=true):v ∉ l:=by
 unfold wX at h;simp only[Bool.and_eq_true,Bool.not_eq_true']at h;intro hv;rw[IU.2 hv]at h;cases h.1
theorem xx.add(h:xx x l)(hv:v ∉ l)(h0:0≤v.aL∧v.aL<x.ah.length):xx x (l++[v]):=by
 refine⟨List.nodup_append.2 ⟨h.nodup,by simp,fun a ha b hb=>?_⟩,fun w hw=>?_⟩
 ·rw[List.mem_singleton.1 hb];exact fun e=>hv (e▸ha)
 ·rcases List.mem_append.1 hw with hw|hw
  ·exact h.Vo w hw
  ·rw[List.mem_singleton.1 hw];exact h0
theorem VJ(h:xx x l)(hv:v∈jv x m l x.ah.length):xx x (l++[v]):=by
 obtain⟨i,h1,_,_,h2,h3⟩:=KX.1 hv;have:=rm h2;exact h.add (Tu h3) (by omega)
theorem xx.len(h:xx x l):l.length≤2*x.ah.length:=by
 have hm:(l.map fun v:ab=>2*v.aL.toNat+(if v.drop=true then 1 else 0)).Nodup:=by
  unfold List.Nodup;rw[List.pairwise_map];refine h.nodup.imp_of_mem fun{a b} ha hb sR he=>sR ?_
  have h1:=h.Vo a ha;have h2:=h.Vo b hb;cases a with
  |mk ao ad =>
   cases b with
   |mk bo bd =>
    simp only at h1 h2 he;have hd:ad=bd∧ao=bo:=by
     cases ad <;> cases bd <;> simp at he ⊢ <;> omega
    rw[hd.1,hd.2]
 have:=OM (2*x.ah.length) _ hm fun a ha=>by
  obtain⟨v,hv,rfl⟩:=List.mem_map.1 ha;have h1:=h.Vo v hv;split <;> omega
 simpa using this
theorem pD.FU(h:pD x l):xx x l:=⟨h.nodup,fun v hv=>rP h.Vo hv⟩
theorem pD.all(h:pD x l){o:Int}(ho:fx l o=true)(hw:w∈gN x o):w∈l:=by
 obtain⟨v,hv,rfl⟩:=wO.1 ho;have hp:=h.pair v hv;unfold vN at hp;rw[Bool.and_eq_true]at hp;have hr:=hp.2;cases Le:gN x v.aL with
 |nil=>rw[Le]at hw;cases hw
 |cons a r =>
  rw[Le]at hr hw;cases r with
  |nil =>
   simp only[M9,kP]at hr;rw[List.mem_singleton.1 hw];exact S5.1 hr
  |cons b r =>
   obtain⟨rfl,_⟩:=Ps Le;simp only[M9,kP,Bool.and_eq_true,fS]at hr;rcases List.mem_cons.1 hw with rfl|hw
   ·exact S5.1 hr.1
   ·rw[List.mem_singleton.1 hw];exact S5.1 (by omega)
theorem pD.own(h:pD x l)(hv:v∈l):v∈gN x v.aL:=by
 have hp:=h.pair v hv;unfold vN at hp;rw[Bool.and_eq_true]at hp;exact IU.1 hp.1
theorem QlU(h:(l++v ::t).Nodup):sH (oH v) (l++v ::t)=(l.length:Int):=by
 have h0:=S5.2 (show v∈l++v ::t by simp)
 obtain⟨k,hk⟩:∃k:Nat,sH (oH v) (l++v ::t)=k:=⟨(sH (oH v) (l++v ::t)).toNat,by omega⟩
 obtain⟨h1,h2⟩:=Jq hk;rw[hk];rcases Nat.lt_trichotomy k l.length with h3|h3|h3
 ·rw[List.getElem?_append_left h3]at h1;exact absurd rfl ((List.nodup_append.1 h).2.2 v (List.mem_of_getElem? h1) v (by simp))
 ·rw[h3]
 ·exact absurd (by rw[List.getElem?_append_right (Nat.le_refl _)];simp) (h2 l.length h3)
theorem Qn3(h:sH (oH w) (l++t)<(l.length:Int))(h0:0≤sH (oH w) (l++t)):w∈l:=by
 obtain⟨k,hk⟩:∃k:Nat,sH (oH w) (l++t)=k:=⟨(sH (oH w) (l++t)).toNat,by omega⟩
 obtain⟨h1,_⟩:=Jq hk;rw[List.getElem?_append_left (by omega)]at h1
 exact List.mem_of_getElem? h1
theorem pD.head(h:pD x (l++v ::t))(hw:w∈BS v (gN x v.aL)):w∈l:=by
 have hp:=h.pair v (by simp)
 unfold vN at hp;rw[Bool.and_eq_true]at hp;obtain⟨h1,hr⟩:=hp;have hv:=IU.1 h1;have hix:=QlU h.nodup;cases Le:gN x v.aL with
 |nil=>rw[Le]at hw;cases hw
 |cons a r =>
  rw[Le]at hr hw hv;cases r with
  |nil =>
   rw[BS,if_pos (List.mem_singleton.1 hv).symm]at hw;cases hw
  |cons b r =>
   obtain⟨rfl,sR⟩:=Ps Le;by_cases ha:a=v
   ·rw[BS,if_pos ha]at hw;cases hw
   ·have hb:b=v:=by
     rcases List.mem_cons.1 hv with h|h
     ·exact absurd h.symm ha
     ·exact(List.mem_singleton.1 h).symm
    rw[BS,if_neg ha,BS,if_pos hb]at hw;rw[List.mem_singleton.1 hw];simp only[M9,kP,Bool.and_eq_true,fS]at hr;rw[hb,hix]at hr;exact Qn3 hr.2 hr.1
theorem Qdq(h:pD x (l++v ::t)){p:aI}(hp:p∈x.before)(ho:p.x1=v.aL)(hw:w∈gN x p.x0):w∈l:=by
 have hb:fx (l++v ::t) p.x1=true:=wO.2 ⟨v,by simp,ho.symm⟩
 have h1:IW (l++v ::t) p=false:=by simpa using List.any_eq_false.1 h.before p hp
 unfold IW at h1;rw[hb,Bool.true_and]at h1;simp only[Bool.or_eq_false_iff,Bool.not_eq_false']at h1;obtain⟨h2,h3⟩:=h1;have hm:=h.all h2 hw;rcases List.mem_append.1 hm with hm|hm
 ·exact hm
 ·exfalso;unfold Ml at h3;cases e:Lg (Q0 p.x1) (l++v ::t)with
  |none =>
   have:=Ok e v (by simp)
   rw[Hn.2 ho.symm]at this;cases this
  |some k =>
   rw[e]at h3;simp only at h3;have hk:k≤l.length:=Nat.le_of_not_lt fun mj=>by
    have:=(xI e).2.2 l.length mj;rw[List.getElem_append_right (Nat.le_refl _)]at this;simp only[Nat.sub_self,List.getElem_cons_zero]at this;rw[Hn.2 ho.symm]at this;cases this
   have:fx ((l++v ::t).drop k) p.x0=true:=wO.2 ⟨w,by rw[List.drop_append_of_le_length hk];exact List.mem_append_right _ hm,rm hw⟩
   rw[this]at h3;cases h3
theorem pD.ready(h:pD x (l++v ::t)):wX x l v=true:=by
 unfold wX;have hn:v ∉ l:=fun hv=>(List.nodup_append.1 h.nodup).2.2 v hv v (by simp) rfl
 have e1:l.any (oH v)=false:=by rw[Bool.eq_false_iff,Ne,IU];exact hn
 rw[e1,Bool.not_false,Bool.true_and,Bool.and_eq_true,List.all_eq_true];refine⟨fun w hw=>IU.2 (h.head hw),?_⟩
 unfold Qs;rw[List.all_eq_true];intro p hp;by_cases ho:p.x1=v.aL
 ·rw[Bool.or_eq_true];exact .inr (List.all_eq_true.2 fun w hw=>IU.2 (Qdq h hp ho hw))
 ·rw[Bool.or_eq_true];exact .inl (by simpa using ho)
theorem Qi8(h:pD x (l++v ::t))(hm:∀i:Nat,m.testBit i=fx (l++v ::t) (i:Int)):v∈jv x m l x.ah.length:=by
 have hv:v∈l++v ::t:=by simp
 have ry:=rP h.Vo hv;obtain⟨n,hn⟩:∃n:Nat,v.aL=n:=⟨v.aL.toNat,by omega⟩
 have Jk:=List.any_eq_false.1 h.off v hv;refine KX.2 ⟨n,by omega,?_,?_,?_,h.ready⟩
 ·rw[hm,←hn];exact wO.2 ⟨v,hv,rfl⟩
 ·unfold LC at Jk;unfold Tg;rw[hn,Int.toNat_natCast]at Jk;rw[List.getElem?_eq_getElem (show n<x.ah.length by omega)]at Jk ⊢
  simpa using Jk
 ·rw[←hn];exact h.own hv
theorem QgV(h:pD x l)(hm:∀i:Nat,m.testBit i=fx l (i:Int))(n:Nat):jv x m l n=[]:=by
 refine List.eq_nil_iff_forall_not_mem.2 fun v hv=>?_
 obtain⟨i,_,h1,_,h2,h3⟩:=KX.1 hv;rw[hm]at h1;exact Tu h3 (h.all h1 h2)
end
theorem Jt{α E:Type}{l:List α}(hl:l.length≤1048576)(p:α→Bool)(N:List α→E){B:List α×Int→Option ((List α×Int)⊕E)}(s0:List α)
  (ry:∀(s:List α) (i:Nat) (a:α),l[i]?=some a→s.length≤s0.length+i→B (s,(i:Int))=some (.inl (if p a=true then s++[a]else s,(i:Int)+1)))
  (xG:∀s,B (s,(l.length:Int))=some (.inr (N s))):aK B (s0,0)=some (N (s0++l.filter p)):=by
 rw[Tc (B:=B) hl (fun s a=>.inl (if p a=true then s++[a]else s)) N (fun i s=>s.length≤s0.length+i) (fun s i a h hi=>⟨ry s i a h hi,fun s' h'=>by
  cases h';split
  ·simp;omega
  ·omega⟩) (fun s _=>xG s) (Nat.le_refl _)]
 congr 1;have key:∀(l s:List α),Je (fun s a=>(.inl (if p a=true then s++[a]else s):List α⊕E)) N s l=N (s++l.filter p):=by
  intro l;induction l with
  |nil=>intro s;simp [Je]
  |cons a r ih =>
   intro s;rw[Va rfl,ih,List.filter_cons];split <;> simp
 exact key l s0
section
variable {x : ae} {l : List ab} {m : Nat} {v : ab}
theorem Qcw{a:ab}:(bP a.aL v.aL&&(T0 a.drop v.drop&&true))=oH v a:=by
 rw[Bool.eq_iff_iff,Mk];cases v;cases a;simp
theorem QbM{r:List ab}:(!r.any (fun a=>aT (sH (oH a) l) 0))=r.all (fun w=>l.any (oH w)):=by
 rw[List.all_eq_not_any_not];congr 1;congr 1
 funext a
 rw[OB,m7]
theorem Qcf:∀{r:List ab},(match Lg (fun a=>oH v a||!l.any (oH a)) r with
  |some k=>(match r[k]? with|some a=>if oH v a=true then(.inl ():Unit⊕Bool)else .inr false|none=>.inl ())
  |none=>.inl ())=if(BS v r).all (fun w=>l.any (oH w))=true then .inl ()else .inr false
 | []=>rfl
 |a ::r=>by
  unfold Lg BS;by_cases ha:oH v a=true
  ·rw[if_pos (by rw[ha];rfl),if_pos (Mk.1 ha)]
   simp only[List.getElem?_cons_zero];rw[if_pos ha];rfl
  ·rw[if_neg (show ¬a=v from fun h=>ha (Mk.2 h))]
   by_cases hl:l.any (oH a)=true
   ·rw[if_neg (by rw[hl];simpa using ha),List.all_cons,hl,Bool.true_and,←Qcf (r:=r)]
    cases Lg (fun a=>oH v a||!l.any (oH a)) r <;> rfl
   ·rw[if_pos (by simp [hl])]
    simp only[List.getElem?_cons_zero];rw[if_neg ha,List.all_cons,if_neg (by simp [hl])]
theorem Qg6(hx:cD x)(hl:l.length≤1048576)(h0:0≤v.aL)(h1:v.aL<x.ah.length):uV x l v=some (wX x l v):=by
 unfold uV wX;rw[BD hl,ai,m7];cases hv:l.any (oH v)with
 |true=>rfl
 |false =>
  rw[cL,Ez hx h0 h1,ai,Bool.not_false,Bool.true_and];have h2:=u0 (x:=x) (o:=v.aL);have l1:=vo (B:=fun s=>iZ x l v (gN x v.aL) s) (l:=gN x v.aL) (by omega) (fun a=>oH v a||!l.any (oH a)) (fun k=>(match(gN x v.aL)[k]? with|some a=>if oH v a=true then(.inl ():Unit⊕Bool)else .inr false|none=>.inl ())) (N:=.inl ()) (fun i a h=>by
   show iZ x l v (gN x v.aL) i=_;unfold iZ;rw[cB h,Qcw,BD hl,ai,OB,m7,gP h (by omega),h]
   cases hv:oH v a with
   |true=>rw[if_pos (by rfl)];simp only[hv];rfl
   |false =>
    cases hq:l.any (oH a)with
    |true=>rfl
    |false=>rw[if_pos (by rfl)];simp only[hv];rfl) (by
   show iZ x l v (gN x v.aL) (gN x v.aL).length=_;unfold iZ;rw[bW])
  have l1':aK (fun s=>iZ x l v (gN x v.aL) s) 0=some (if(BS v (gN x v.aL)).all (fun w=>l.any (oH w))=true then .inl ()else .inr false):=l1.trans (congrArg some Qcf)
  rw[l1',ai];by_cases hh:(BS v (gN x v.aL)).all (fun w=>l.any (oH w))=true
  ·rw[if_pos hh,en,hh,Bool.true_and];have hb:=hx.before;have l2:=eh (B:=fun s=>kr x l v s) (l:=x.before) (by omega) (fun p=>!(!bP p.x1 v.aL||(gN x p.x0).all fun w=>l.any (oH w))) (y:=(.inr false:Unit⊕Bool)) (N:=.inl ()) (fun i p h=>by
    obtain⟨p0,p1,p2,p3,p4⟩:=hx.KM p (List.mem_of_getElem? h);show kr x l v i=_;unfold kr;rw[cB h,gP h (by omega)]
    have sR:cA p.x1 v.aL=!bP p.x1 v.aL:=rfl;rw[sR];cases bP p.x1 v.aL with
    |false=>rfl
    |true =>
     rw[Bool.not_true,cL,Ez hx p0 p1,ai,Bool.false_or];have h3:=u0 (x:=x) (o:=p.x0);have l3:=eh (B:=fun s=>ku x l v i (gN x p.x0) s) (l:=gN x p.x0) (by omega) (fun w=>aT (sH (oH w) l) 0) (y:=(.inr false:Unit⊕Bool)) (N:=.inl ()) (fun j w hw=>by
      show ku x l v i (gN x p.x0) j=_;unfold ku;rw[cB hw,BD hl,ai,gP hw (by omega),zn]) (by
      show ku x l v i (gN x p.x0) (gN x p.x0).length=_;unfold ku;rw[bW])
     rw[bY l3,←QbM];cases(gN x p.x0).any (fun w=>aT (sH (oH w) l) 0) <;> rfl) (by
    show kr x l v x.before.length=_;unfold kr;rw[bW])
   rw[bY l2];unfold Qs;rw[List.all_eq_not_any_not];cases x.before.any (fun p=>!(!bP p.x1 v.aL||(gN x p.x0).all fun w=>l.any (oH w))) <;> rfl
  ·rw[if_neg hh,q7];rw[Bool.eq_false_iff.2 hh,Bool.false_and]
theorem Fm:∀n,(jv x m l n).length≤2*n
 |0=>Nat.le_refl _
 |n+1=>by
  have h1:=Fm n;unfold jv;rw[List.length_append];split
  ·have h2:=List.length_filter_le (wX x l) (gN x (n:Int));have h3:=u0 (x:=x) (o:=(n:Int));omega
  ·simp;omega
theorem Qh4{i:Nat}(hm:m<1024)(hi:i≤62):bP (Sf .i64 (wZ .i64 (m:Int) (i:Int)) 1) 0=!m.testBit i:=by
 rw[Qhg (by omega),show(1:Int)=((1:Nat):Int)from rfl]
 have hd:=Nat.div_le_self m (2 ^ i);rw[QkW (by omega) (by omega),Nat.and_one_is_mod,Nat.testBit_eq_decide_div_mod_eq]
 generalize m / 2 ^ i=q;rw[Bool.eq_iff_iff,pJ,Bool.not_eq_true',decide_eq_false_iff_not];omega
theorem QhY(hx:cD x)(hl:l.length≤1048576)(hm:m<1024):wC x (m:Int) l=some (jv x m l x.ah.length):=by
 have dN:=hx.ah;unfold wC;have this:aK (fun q:List ab×Int=>jT x (m:Int) l q.1 q.2) ([],0)=some (jv x m l x.ah.length):=dj x.ah.length (fun k=>(jv x m l k,(k:Int))) (B:=fun q:List ab×Int=>jT x (m:Int) l q.1 q.2) (e:=jv x m l x.ah.length) (by omega) (fun k hk=>by
  obtain⟨o,ho⟩:∃o,x.ah[k]?=some o:=⟨_,List.getElem?_eq_getElem hk⟩;show jT x (m:Int) l (jv x m l k) (k:Int)=_;have hlen:=Fm (x:=x) (m:=m) (l:=l) k;unfold jT;rw[cB ho,a_ (by simp;omega),ch (by omega),Qh4 hm (by omega),gP ho (by omega)]
  have Jk:Tg x k=o.off:=by unfold Tg;rw[ho]
  show _=some (Sum.inl (jv x m l k++(if(m.testBit k&&!Tg x k)=true then _ else _),((k+1:Nat):Int)))
  rw[Jk];cases hb:m.testBit k with
  |false=>simp
  |true =>
   cases hf:o.off with
   |true=>simp
   |false =>
    rw[Bool.not_true,Bool.false_or,cL,Ez hx (by omega) (by omega),ai]
    have h2:=u0 (x:=x) (o:=(k:Int));rw[bY (Jt (B:=fun q:List ab×Int=>lz x (m:Int) l (k:Int) (gN x (k:Int)) q.1 q.2) (l:=gN x (k:Int)) (by omega) (wX x l) id (jv x m l k) (fun s i a h hs=>by
     have ha:=rm (List.mem_of_getElem? h);show lz x (m:Int) l (k:Int) (gN x (k:Int)) s i=_;unfold lz;rw[cB h,Qg6 hx hl (by omega) (by omega),ai,gP h (by omega),ch (cW (by have:=(List.getElem?_eq_some_iff.1 h).1;simp;omega)),zn]
     split <;> rfl) (fun s=>by
     show lz x (m:Int) l (k:Int) (gN x (k:Int)) s (gN x (k:Int)).length=_;unfold lz;rw[bW];rfl))]
    simp) (by
  show jT x (m:Int) l (jv x m l x.ah.length) (x.ah.length:Int)=_;unfold jT;rw[bW])
 rw[bY this]
theorem Qbg(hx:cD x)(hl:l.length≤1048576)(o:Int):rU x o l=some (Qs x l o):=by
 have hb:=hx.before;unfold rU;rw[bY (eh (B:=fun s=>iR x o l s) (l:=x.before) (by omega) (fun p=>!(!bP p.x1 o||(gN x p.x0).all fun w=>l.any (oH w))) (y:=(.inr false:Unit⊕Bool)) (N:=.inl ()) (fun i p h=>by
  obtain⟨p0,p1,p2,p3,p4⟩:=hx.KM p (List.mem_of_getElem? h);show iR x o l i=_;unfold iR;rw[cB h,gP h (by omega)]
  cases bP p.x1 o with
  |false=>rfl
  |true =>
   rw[dc,a_ (by simp [aC];omega),IS hx p0 p1,ai,Me hl u0,ai,QbM]
   cases(gN x p.x0).all (fun w=>l.any (oH w)) <;> rfl) (by
  show iR x o l x.before.length=_;unfold iR;rw[bW]))]
 unfold Qs;rw[List.all_eq_not_any_not];cases x.before.any (fun p=>!(!bP p.x1 o||(gN x p.x0).all fun w=>l.any (oH w))) <;> rfl
theorem Qdh(hx:cD x)(hl:l.length≤1048576)(hm:m<1024):tv x (m:Int) l=some (jv x m l x.ah.length):=by
 have dN:=hx.ah;unfold tv;have this:aK (fun q:List ab×Int=>h_ x (m:Int) l q.1 q.2) ([],0)=some (jv x m l x.ah.length):=dj x.ah.length (fun k=>(jv x m l k,(k:Int))) (B:=fun q:List ab×Int=>h_ x (m:Int) l q.1 q.2) (e:=jv x m l x.ah.length) (by omega) (fun k hk=>by
  obtain⟨o,ho⟩:∃o,x.ah[k]?=some o:=⟨_,List.getElem?_eq_getElem hk⟩;show h_ x (m:Int) l (jv x m l k) (k:Int)=_;have hlen:=Fm (x:=x) (m:=m) (l:=l) k;unfold h_;rw[bl (by simp [aC];omega),SV (by omega) (by omega) (by omega),ai,bt ho,ai,Qbg hx hl,ai,IS hx (by omega) (by omega),ai,gP ho (by omega),Int.toNat_natCast]
  have Jk:Tg x k=o.off:=by unfold Tg;rw[ho]
  show _=some (Sum.inl (jv x m l k++(if(m.testBit k&&!Tg x k)=true then _ else _),((k+1:Nat):Int)))
  rw[Jk];cases hb:m.testBit k with
  |false=>simp
  |true =>
   cases hf:o.off with
   |true=>simp
   |false =>
    rw[dc,cL];cases hr:Qs x l (k:Int)with
    |false =>
     rw[cL];have:(gN x (k:Int)).filter (wX x l)=[]:=by
      rw[List.filter_eq_nil_iff];intro a ha;unfold wX;rw[rm ha,hr];simp
     simp [this]
    |true =>
     rw[dc];have h2:=u0 (x:=x) (o:=(k:Int));rw[bY (Jt (B:=fun q:List ab×Int=>jq x (m:Int) l (k:Int) (gN x (k:Int)) q.1 q.2) (l:=gN x (k:Int)) (by omega) (wX x l) id (jv x m l k) (fun s i a h hs=>by
      have ha:=rm (List.mem_of_getElem? h);have hi:=(List.getElem?_eq_some_iff.1 h).1;show jq x (m:Int) l (k:Int) (gN x (k:Int)) s i=_;unfold jq;have mA:e_ (s++[a]).length 16:=cW (by simp;omega)
      rw[cB h,wQ hl,ai,gP h (by omega),ch mA,OB,m7]
      try rw[ch mA]
      have hrv:wX x l a=(!l.any (oH a)&&(BS a (gN x (k:Int))).all (fun w=>l.any (oH w))):=by
       unfold wX;rw[ha,hr,Bool.and_true]
      rw[hrv];cases l.any (oH a)with
      |true=>rfl
      |false =>
       rw[Bool.not_false,dc,Bool.true_and];cases Le:gN x (k:Int)with
       |nil=>rw[Le]at h;simp at h
       |cons c r =>
        rw[Le]at h;cases i with
        |zero =>
         simp at h;subst h;rw[BS,if_pos rfl];rfl
        |succ i =>
         cases r with
         |nil=>simp at h
         |cons d r =>
          obtain⟨rfl,sR⟩:=Ps Le;cases i with
          |succ i=>simp at h
          |zero =>
           simp at h;subst h;rw[BS,if_neg sR,BS,if_pos rfl,List.all_cons,List.all_nil,Bool.and_true];show br false _ (aS (some c) fun x3=>aS (fi l x3) fun r4=>_)=_
           rw[cL,ai,wQ hl,ai,m7];cases l.any (oH c) <;> rfl) (fun s=>by
      show jq x (m:Int) l (k:Int) (gN x (k:Int)) s (gN x (k:Int)).length=_;unfold jq;rw[bW];rfl))]
     simp) (by
  show h_ x (m:Int) l (jv x m l x.ah.length) (x.ah.length:Int)=_;unfold h_;rw[a_ (by simp [aC])])
 rw[bY this]
end
def Wt(a b:Int):Int:=if a<b then -1 else if b<a then 1 else 0
def Qap(a b:ab):Int:=if Wt a.aL b.aL≠0 then Wt a.aL b.aL else Wt (if a.drop=true then 1 else 0) (if b.drop=true then 1 else 0)
theorem QbT(a b:Int):pa a b=some (Wt a b):=by
 unfold pa uE Wt;rw[ai,ai,show cA a a=false by simp,show cA b b=false by simp,cL,cL,zn,zn]
 simp only[fS,qi]
theorem Sx{a b:Int}:Wt a b=0↔a=b:=by unfold Wt;split <;>(try split) <;> omega
theorem QbU{a b:Int}:Wt a b<0↔a<b:=by unfold Wt;split <;>(try split) <;> omega
theorem QfB(a b:Int):zU [a,b]=some (if a≠0 then a else b):=by
 unfold zU;have g0:lS [a,b] 0=some (if a≠0 then .inr (.inr a)else .inl 1):=by
  unfold lS;rw[show br (aT 0 (aC [a,b])) (aS (bq [a,b] 0) fun x0=>br (cA x0 0) (some (.inr (.inr x0))) (some (.inl (aY .i64 0 1)))) (some (.inr (.inl ())))=br (cA a 0) (some (.inr (.inr a):Int⊕(Unit⊕Int))) (some (.inl 1))from rfl,zn]
  simp only[wk]
 have g1:lS [a,b] 1=some (if b≠0 then .inr (.inr b)else .inl 2):=by
  unfold lS;rw[show br (aT 1 (aC [a,b])) (aS (bq [a,b] 1) fun x0=>br (cA x0 0) (some (.inr (.inr x0))) (some (.inl (aY .i64 1 1)))) (some (.inr (.inl ())))=br (cA b 0) (some (.inr (.inr b):Int⊕(Unit⊕Int))) (some (.inl 2))from rfl,zn]
  simp only[wk]
 have g2:lS [a,b] 2=some (.inr (.inl ())):=rfl;have key:aK (fun s=>lS [a,b] s) 0=some (if a≠0 then .inr a else if b≠0 then .inr b else .inl ()):=by
  refine EP 3 (by decide) ?_
  simp only[uh];rw[g0];by_cases ha:a≠0
  ·rw[if_pos ha,if_pos ha]
  ·rw[if_neg ha,if_neg ha];simp only;rw[g1];by_cases hb:b≠0
   ·rw[if_pos hb,if_pos hb]
   ·rw[if_neg hb,if_neg hb];simp only;rw[g2]
 rw[bY key];by_cases ha:a≠0
 ·rw[if_pos ha,if_pos ha,q7]
 ·rw[if_neg ha,if_neg ha];by_cases hb:b≠0
  ·rw[if_pos hb,q7]
  ·rw[if_neg hb,en];congr 1;omega
theorem Qh7(a b:ab):ss a b=some (Qap a b):=by
 have h1:∀v:ab,m4 v=some (if v.drop=true then 1 else 0):=fun v=>by unfold m4;rw[zn]
 unfold ss Qap;rw[QbT,ai,h1,ai,h1,ai,QbT,ai,QfB,ai]
theorem QfC{a b:ab}:Qap a b=0↔a=b:=by
 unfold Qap;cases a;cases b;simp only[ne_eq,Sx,ab.mk.injEq];split
 ·rename_i h;rw[Sx];exact⟨fun h'=>absurd h' h,fun h'=>absurd h'.1 h⟩
 ·rename_i h;rw[Sx];rename_i d _ e;cases d <;> cases e <;> simp_all
theorem Qh8{a b:ab}:aT (Qap a b) 0=ltV a b:=by
 rw[Bool.eq_iff_iff,fS,Rb];unfold Qap;split
 ·rename_i h;rw[QbU];rw[Ne,Sx]at h;exact⟨fun h'=>.inl h',fun h'=>h'.elim id fun h'=>absurd h'.1 h⟩
 ·rename_i h;simp only[ne_eq,Sx,Classical.not_not]at h;rw[QbU];cases a.drop <;> cases b.drop <;> simp <;> omega
theorem BV:∀{k:Nat} {a b:List ab},(∀j,j<k→∃u,a[j]?=some u∧b[j]?=some u)→y5 a b=y5 (a.drop k) (b.drop k)
 |0,_,_,_=>rfl
 |k+1,a,b,h=>by
  obtain⟨u,h1,h2⟩:=h 0 (by omega)
  cases a with
  |nil=>simp at h1
  |cons x a =>
   cases b with
   |nil=>simp at h2
   |cons y b =>
    simp at h1 h2;subst h1;subst h2;rw[y5,W2,List.drop_succ_cons,List.drop_succ_cons,←BV (k:=k) (a:=a) (b:=b) fun j hj=>by simpa using h (j+1) (by omega)]
    simp
def Yt(a b:List ab)(k:Nat):Bool:=match a[k]?,b[k]? with
 |some u,some w=>!decide (u=w)
 |some _,none=>true
 |_,_=>false
theorem RW{a b:List ab}{k:Nat}(h:k<a.length)(hd:Yt a b k=false):∃u,a[k]?=some u∧b[k]?=some u:=by
 unfold Yt at hd;rw[List.getElem?_eq_getElem h]at hd ⊢;cases hb:b[k]? with
 |none=>rw[hb]at hd;cases hd
 |some w =>
  rw[hb]at hd;simp only[Bool.not_eq_false',decide_eq_true_iff]at hd;exact⟨_,rfl,by rw[hd]⟩
theorem QbI{a b:List ab}(ha:a.length≤1048576)(hb:b.length≤1048576):wB a b=some (y5 a b):=by
 unfold wB cU;rcases Xr (B:=fun s=>bu a b s) (n:=a.length) ha (Yt a b) (fun k=>(.inr (match a[k]?,b[k]? with|some u,some w=>Qap u w|_,_=>1):Unit⊕Int)) (N:=.inl ()) (fun i hi=>by
  have e:a[i]?=some a[i]:=List.getElem?_eq_getElem hi;show bu a b i=_;unfold bu Yt;rw[cB e,gP e ha,e];generalize a[i]=u at e;cases XP:b[i]? with
  |none =>
   rw[bl (by simp only[kP,aC];have:=List.getElem?_eq_none_iff.1 XP;omega)]
   rfl
  |some w =>
   rw[a_ (by have:=(List.getElem?_eq_some_iff.1 XP).1;simp [aC];omega),bt XP,ai,Qh7,ai,zn]
   by_cases hq:u=w
   ·rw[if_neg (by simp only[wk,Classical.not_not,ne_eq];exact QfC.2 hq),if_neg (by simp [hq])]
   ·rw[if_pos (by simp only[wk,ne_eq];exact fun h=>hq (QfC.1 h)),if_pos (by simp [hq])]) (by
  show bu a b a.length=_;unfold bu;rw[bW])with⟨k,h1,h2,h3,h4⟩|⟨h1,h4⟩
 ·rw[bY h4,q7,ai];rw[BV (k:=k) fun j hj=>RW (by omega) (h3 j hj)]
  unfold Yt at h2;rw[List.drop_eq_getElem_cons h1];rw[List.getElem?_eq_getElem h1]at h2 ⊢;cases XP:b[k]? with
  |none =>
   rw[List.drop_eq_nil_of_le (List.getElem?_eq_none_iff.1 XP)];rfl
  |some w =>
   obtain⟨g1,g2⟩:=List.getElem?_eq_some_iff.1 XP;rw[XP]at h2;simp only[Bool.not_eq_true',decide_eq_false_iff_not]at h2;rw[List.drop_eq_getElem_cons g1,y5,g2];simp only;rw[Qh8,decide_eq_false h2,Bool.false_and,Bool.or_false]
 ·rw[bY h4,en];rw[BV (k:=a.length) fun j hj=>RW hj (h1 j hj),List.drop_length,zn,ai]
  by_cases hl:a.length<b.length
  ·rw[if_pos (by simp [aC];omega),List.drop_eq_getElem_cons hl];rfl
  ·rw[if_neg (by simp [aC];omega),List.drop_eq_nil_of_le (by omega)];rfl
theorem Qdg{a b:List ab}(ha:a.length≤1048576)(hb:b.length≤1048576):tu a b=some (y5 a b):=by
 unfold tu;have Qge:min a.length b.length≤1048576:=by omega
 rcases Xr (B:=fun s=>jo a b s) (n:=min a.length b.length) Qge (Yt a b) (fun k=>(.inr (match a[k]?,b[k]? with|some u,some w=>ltV u w|_,_=>false):Unit⊕Bool)) (N:=.inl ()) (fun i hi=>by
  have e:a[i]?=some (a[i]'(by omega)):=List.getElem?_eq_getElem _
  have e2:b[i]?=some (b[i]'(by omega)):=List.getElem?_eq_getElem _
  show jo a b i=_;unfold jo Yt vf;rw[bl (by simp [aC];omega),bt e,ai,bt e2,ai,gP e ha,e,e2,ai]
  generalize a[i]'(by omega)=u
  generalize b[i]'(by omega)=w
  rw[Qcw];by_cases hq:u=w
  ·rw[bl (Mk.2 hq),if_neg (by simp [hq])]
  ·rw[a_ (Bool.eq_false_iff.2 fun h=>hq (Mk.1 h)),if_pos (by simp [hq])]
   simp only[ltV,Bool.and_assoc]) (by
  show jo a b ((min a.length b.length:Nat):Int)=_;unfold jo;rw[a_ (by simp [aC];omega)])with⟨k,h1,h2,h3,h4⟩|⟨h1,h4⟩
 ·rw[bY h4,q7];rw[BV (k:=k) fun j hj=>RW (by omega) (h3 j hj)]
  have g1:k<a.length:=by omega
  have g2:k<b.length:=by omega
  unfold Yt at h2;rw[List.drop_eq_getElem_cons g1,List.drop_eq_getElem_cons g2,y5];rw[List.getElem?_eq_getElem g1,List.getElem?_eq_getElem g2]at h2 ⊢;simp only[Bool.not_eq_true',decide_eq_false_iff_not]at h2;simp only;rw[decide_eq_false h2,Bool.false_and,Bool.or_false]
 ·rw[bY h4,en];rw[BV (k:=min a.length b.length) fun j hj=>RW (by omega) (h1 j hj)]
  by_cases hl:a.length<b.length
  ·rw[Nat.min_eq_left (by omega),List.drop_length,List.drop_eq_getElem_cons hl,show aT (aC a) (aC b)=true by simp [aC];omega];rfl
  ·rw[Nat.min_eq_right (by omega),show aT (aC a) (aC b)=false by simp [aC];omega,List.drop_length]
   cases a.drop b.length <;> rfl
def rW(b:ay)(l:List ab):ay:=ay.mk b.aR b.aH b.aP l
def T7(x:ae)(r:ay):Int×Int:=(lu x r).getD (0,1)
def Ux(l:List ab)(m:Nat):Prop:=∀i:Nat,m.testBit i=fx l (i:Int)
def At(x:ae)(b:ay)(m:Nat)(l:List ab):Prop:=l.length≤1048576∧(T7 x (rW b l)).2=0∧Ux l m
def NB(x:ae)(b:ay)(l:List ab):Ky:=((T7 x (rW b l)).1,l)
def zR(x:ae)(b:ay)(m:Nat)(l:List ab)(k:Ky):Prop:=∃t,At x b m (l++t)∧k=NB x b (l++t)
def Qhw:ay:=ay.mk 0 0 [] []
def Qmo:al:=al.mk 0 0 0 Qhw
def I3(b:ay)(m:Nat)(k:Ky):al:=al.mk b.aR (m:Int) k.1 (rW b k.2)
instance(k q:Ky):Decidable (RA k q):=inferInstanceAs (Decidable (_∨_))
def Se(s:Option Ky):Prop:=∀k,s=some k→k.2.length≤1048576
structure u5 (x:ae):Prop where
 ok:cD x
 few:x.ah.length≤3
section
variable {x : ae} {b r : ay} {l t : List ab} {m n : Nat} {v : ab} {s : Option Ky}
theorem xx.six(h:xx x l)(hf:u5 x):l.length≤6:=by
 have:=h.len;have:=hf.few;omega
theorem xx.Qn2(h:xx x l):l.any (fun v=>!Pw x v)=false:=by
 rw[List.any_eq_false];intro v hv;have:=h.Vo v hv;simp [Pw];omega
theorem Xd(hx:cD x)(hR:mM r)(h9:Em r):lu x r=some (T7 x r)∧ph x r=some (T7 x r):=by
 obtain⟨w,h1,h2⟩:=Qac hx hR h9;have:T7 x r=w:=by unfold T7;rw[h1];rfl
 rw[this];exact⟨h1,h2⟩
theorem Zm(hx:cD x)(hR:mM r)(h9:Em r)(h:(T7 x r).2=0):(Uk x r).2.2=0:=by
 obtain⟨e1,_⟩:=Bh hx hR h9;obtain⟨p1,_⟩:=Xd hx hR h9;unfold lu at p1;rw[e1,ai]at p1;by_cases h0:(Uk x r).2.2=0
 ·exact h0
 ·rw[bl (by simpa using h0)]at p1
  have:=Option.some.inj p1;rw[←this]at h;exact h
theorem Ql9(hx:cD x)(hR:mM r)(h9:Em r)(h:(T7 x r).2=0):pD x r.ar:=by
 obtain⟨_,_,_,_,e5⟩:=Bh hx hR h9;obtain⟨_,q,hE⟩:=e5 (Zm hx hR h9 h);exact Pe hE.seq
theorem Qjo(hR:mM b)(hl:l.length≤8):mM (rW b l)∧Em (rW b l):=by
 refine⟨⟨hR.aR,hR.aH,hR.aP,?_⟩,?_⟩
 ·show l.length≤_;omega
 ·unfold Em;show ¬(9<l.length∧l.length≤20);omega
theorem Qbe(hf:u5 x)(hR:mM b)(hl:l.length≤1048576)(h:(T7 x (rW b l)).2=0):pD x l:=by
 have hx:=hf.ok;by_cases h9:9<l.length∧l.length≤20
 ·exfalso;have hs:Kk x l≠0:=fun h0=>by
   have:=(Pe h0).FU.six hf;omega
  have hp:lu x (rW b l)=some (0,if 0≤b.aR∧b.aR<x.types.length then Kk x l else 2):=by
   have jC:¬Kk x (rW b l).ar=0:=hs;unfold lu me;by_cases ht:0≤b.aR∧b.aR<x.types.length
   ·have QZ:0≤(rW b l).aR∧(rW b l).aR<x.types.length:=ht;rw[a_ (by simp [aC];omega),ND hx (show(rW b l).ar.length≤1048576 from hl),ai,bl (by simpa using jC),ai,bl (by simpa using jC),if_pos ht]
    rfl
   ·have QZ:¬(0≤(rW b l).aR∧(rW b l).aR<x.types.length):=ht;rw[bl (by simp [aC];omega),ai,bl (by decide),if_neg ht]
  unfold T7 at h;rw[hp]at h;simp only[Option.getD_some]at h;split at h
  ·exact hs h
  ·cases h
 ·exact Ql9 (r:=rW b l) hx ⟨hR.aR,hR.aH,hR.aP,hl⟩ h9 h
theorem VM{m n:Nat}(h1:Ux l m)(h2:Ux l n):m=n:=Nat.eq_of_testBit_eq fun i=>by rw[h1,h2]
theorem Ql4(hx:cD x)(hg:xx x r.ar)(hl:r.ar.length≤1048576):∃k:Nat,k<1024∧Ux r.ar k∧qw r=some ((k:Int),0)∧lW r=some ((k:Int),0):=by
 obtain⟨p,hp,p0,⟨k,hk,hk2,hk3⟩⟩:=QO hx hl hg.Qn2;obtain⟨q,hq,q0,⟨j,hj,hj2,hj3⟩⟩:=Zd hx hl hg.Qn2;have hjk:j=k:=VM (l:=r.ar) hj3 hk3;refine⟨k,hk2,hk3,?_,?_⟩
 ·rw[hp];congr 1;exact Prod.ext hk p0
 ·rw[hq];congr 1;exact Prod.ext (by rw[hj,hjk]) q0
theorem QjK{k:Nat}(hl:l.length≤1048576)(hk:Ux l k):At x b m l↔(T7 x (rW b l)).2=0∧k=m:=
 ⟨fun h=>⟨h.2.1,VM hk h.2.2⟩,fun h=>⟨hl,h.1,h.2▸hk⟩⟩
theorem UG{a c:al}(ha:a.bH.ar.length≤1048576)(hc:c.bH.ar.length≤1048576):uC a c=some (decide (RA (a.eR,a.bH.ar) (c.eR,c.bH.ar))):=by
 unfold uC;rw[QbI ha hc,ai,zn];by_cases h:a.eR=c.eR
 ·rw[if_neg (by simpa using h)]
  congr 1;rw[Bool.eq_iff_iff,decide_eq_true_iff];unfold RA;simp only;exact⟨fun h'=>.inr ⟨h,h'⟩,fun h'=>h'.elim (fun h'=>by omega) fun h'=>h'.2⟩
 ·rw[if_pos (by simpa using h)]
  congr 1;rw[Bool.eq_iff_iff,decide_eq_true_iff,fS];unfold RA;simp only;exact⟨fun h'=>.inl h',fun h'=>h'.elim id fun h'=>absurd h'.1 h⟩
theorem US(hv:∀t,At x b m (l++t)→t=[])(k:Ky):(At x b m l∧k=NB x b l)↔zR x b m l k:=by
 constructor
 ·rintro⟨h1,h2⟩;exact⟨[],by rw[List.append_nil];exact h1,by rw[List.append_nil];exact h2⟩
 ·rintro⟨t,h1,h2⟩;have:=hv t h1;subst this;rw[List.append_nil]at h1 h2;exact⟨h1,h2⟩
theorem UT{vs:List ab}(hv:∀t,At x b m (l++t)→∃v t',t=v ::t'∧v∈vs)(k:Ky):(∃v∈vs,zR x b m (l++[v]) k)↔zR x b m l k:=by
 constructor
 ·rintro⟨v,_,t,h1,h2⟩;rw[List.append_assoc]at h1 h2;exact⟨[v]++t,h1,h2⟩
 ·rintro⟨t,h1,h2⟩;obtain⟨v,t',rfl,hm⟩:=hv t h1;exact⟨v,hm,t',by rw[List.append_assoc];exact h1,by rw[List.append_assoc];exact h2⟩
theorem Se.bst{S:Ky→Prop}{s':Option Ky}(hs:Se s)(h:DV S s s')(hS:∀k,S k→k.2.length≤1048576):Se s':=fun k e=>(h.1 k e).elim (hs k) (hS k)
theorem Pr(hf:u5 x)(hR:mM b)(h:At x b m l):pD x l:=Qbe hf hR h.1 h.2.1
theorem TW(hf:u5 x)(hR:mM b)(h:At x b m (l++v ::t)):v∈jv x m l x.ah.length:=Qi8 (Pr hf hR h) h.2.2
theorem QjL(hf:u5 x)(hR:mM b)(h:At x b m l):jv x m l x.ah.length=[]:=QgV (Pr hf hR h) h.2.2 _
end
section
variable {x : ae} {b r : ay} {l t : List ab} {m n : Nat} {v : ab} {s : Option Ky}
theorem Yh(k:Ky)(h:zR x b m l k):k.2.length≤1048576:=by
 obtain⟨t,h1,rfl⟩:=h;exact h1.1
theorem QR{vs:List ab}(k:Ky)(h:∃v∈vs,zR x b m (l++[v]) k):k.2.length≤1048576:=by
 obtain⟨v,_,h⟩:=h;exact Yh k h
end
def bK(kind:Int):ay:=ay.mk kind 0 [] []
def G_(kind:Int)(m:Nat)(s:Option Ky):al×Bool:=match s with
 |none=>(al.mk kind (m:Int) 0 Qhw,false)
 |some k=>(I3 (bK kind) m k,true)
section
variable {x : ae} {b r : ay} {l t : List ab} {m n : Nat} {v : ab} {s : Option Ky} {kind : Int}
theorem Qhd:(G_ kind m s).1.aR=kind:=by unfold G_;split <;> rfl
theorem Qmg:(G_ kind m s).1.ba=m:=by unfold G_;split <;> rfl
theorem Qdo(hk:wh kind):mM (bK kind):=⟨hk,⟨by show(-9223372036854775808:Int)≤0;decide,by show(0:Int)≤9223372036854775807;decide⟩,Nat.zero_le _,Nat.zero_le _⟩
theorem X0{a c:al}(ha:a.bH.ar.length≤1048576)(hc:c.bH.ar.length≤1048576):nK a c=some (decide (RA (a.eR,a.bH.ar) (c.eR,c.bH.ar))):=by
 rw[←UG ha hc];unfold nK uC;rw[Qdg ha hc,QbI ha hc]
theorem QbA(hx:cD x)(hR:mM r)(h9:Em r):r_ x r=some (Uk x r).2.2:=by
 unfold r_;rw[(Bh hx hR h9).2.1,ai]
theorem Rf(hf:u5 x)(hk:wh kind)(hm:m<1024):∀(n:Nat) {l:List ab} {s:Option Ky},xx x l→6<l.length+n→Se s→
  post (ke n x (G_ kind m s).1 (G_ kind m s).2 l) fun f=>∃s',f=G_ kind m s'∧DV (zR x (bK kind) m l) s s'
 |0,l,s,hg,hn,_=>by have:=hg.six hf;omega
 |n+1,l,s,hg,hn,hs=>by
  have hx:=hf.ok;have hR:=Qdo hk;have h6:=hg.six hf;show post (og (ke n) x (G_ kind m s).1 (G_ kind m s).2 l) _;unfold og;rw[Qmg,Qdh hx (by omega) hm,ai]
  have hnl:=Fm (x:=x) (m:=m) (l:=l) x.ah.length;have h3:=hf.few;refine bA (fun h=>?_) (fun h=>?_)
  ·have D0:jv x m l x.ah.length=[]:=List.eq_nil_of_length_eq_zero (by simp only[pJ,aC]at h;omega)
   have Qga:∀t,At x (bK kind) m (l++t)→t=[]:=fun t ht=>by
    cases t with
    |nil=>rfl
    |cons v t'=>have:=TW hf hR ht;rw[D0]at this;cases this
   suffices hh:post _ fun f=>∃s',f=G_ kind m s'∧DV (fun k=>At x (bK kind) m l∧k=NB x (bK kind) l) s s' from
    hh.mono fun f ⟨s',h1,h2⟩=>⟨s',h1,h2.congr (US Qga)⟩
   obtain⟨hR2,h9⟩:=Qjo hR (show l.length≤8 by omega)
   obtain⟨k,hk1,hk2,_,hk3⟩:=Ql4 (r:=rW (bK kind) l) hx hg (show l.length≤1048576 by omega)
   obtain⟨_,p1⟩:=Xd hx hR2 h9;have QaQ:=QjK (x:=x) (b:=bK kind) (m:=m) (show l.length≤1048576 by omega) (show Ux l k from hk2)
   have hrw:ay.mk (G_ kind m s).1.aR 0 [] l=rW (bK kind) l:=by rw[Qhd];rfl
   rw[hrw,hk3,ai,QbA hx hR2 h9,ai,p1,ai];refine bA (fun h=>bg.2 ⟨s,rfl,DV.none fun q hq=>?_⟩) (fun h=>?_)
   ·have:=(QaQ.1 hq.1).2;rw[wk,this]at h;exact h rfl
   ·refine bA (fun h0=>bg.2 ⟨s,rfl,DV.none fun q hq=>?_⟩) (fun h0=>?_)
    ·exact(wk.1 h0) (Zm hx hR2 h9 hq.1.2.1)
    ·refine bA (fun h1=>bg.2 ⟨s,rfl,DV.none fun q hq=>?_⟩) (fun h1=>?_)
     ·exact(wk.1 h1) hq.1.2.1
     ·rw[J0]at h h1;have hv:At x (bK kind) m l:=QaQ.2 ⟨h1,by omega⟩
      have hS:∀q,(At x (bK kind) m l∧q=NB x (bK kind) l)↔q=NB x (bK kind) l:=fun q=>⟨fun h=>h.2,fun h=>⟨hv,h⟩⟩
      have Lc:al.mk (G_ kind m s).1.aR (m:Int) (T7 x (rW (bK kind) l)).1 (rW (bK kind) l)=I3 (bK kind) m (NB x (bK kind) l):=by rw[Qhd];rfl
      rw[Lc];cases s with
      |none=>exact bg.2 ⟨some (NB x (bK kind) l),rfl,DV.one hS (.inl ⟨rfl,fun q h=>by cases h⟩)⟩
      |some q =>
       have hq:=hs q rfl;show post (br true (aS (nK (I3 (bK kind) m (NB x (bK kind) l)) (I3 (bK kind) m q)) fun r2=>_) _) _
       rw[dc,X0 (show l.length≤1048576 by omega) hq,ai]
       refine bA (fun h2=>?_) (fun h2=>?_)
       ·have h3:RA (NB x (bK kind) l) q:=of_decide_eq_true h2;exact bg.2 ⟨some (NB x (bK kind) l),rfl,DV.one hS (.inl ⟨rfl,fun q' e h4=>by cases e;exact Om (P1 h3 h4)⟩)⟩
       ·have h3:¬RA (NB x (bK kind) l) q:=of_decide_eq_false h2;exact bg.2 ⟨some q,rfl,DV.one hS (.inr ⟨rfl,q,rfl,h3⟩)⟩
  ·have sR:jv x m l x.ah.length≠[]:=fun h0=>by rw[h0]at h;simp [aC]at h
   refine b_ (R:=fun f=>∃s',f=G_ kind m s'∧DV (zR x (bK kind) m l) s s') ?_ fun f hf=>bg.2 hf
   refine fj (fun q:al×Bool×Int=>∃(i:Nat) (s':Option Ky),q=((G_ kind m s').1,(G_ kind m s').2,(i:Int))∧i≤(jv x m l x.ah.length).length∧DV (fun k=>∃v∈(jv x m l x.ah.length).take i,zR x (bK kind) m (l++[v]) k) s s') (fun q=>(jv x m l x.ah.length).length-q.2.2.toNat) ⟨0,s,rfl,Nat.zero_le _,DV.none fun k hk=>by simp at hk⟩ (by simp;omega) ?_
   rintro _ ⟨i,s',rfl,hi,hb⟩;show post (nw (ke n) x l (jv x m l x.ah.length) (G_ kind m s').1 (G_ kind m s').2 (i:Int)) _;unfold nw;rcases Nat.lt_or_ge i (jv x m l x.ah.length).length with mj|QW
   ·have e:(jv x m l x.ah.length)[i]?=some (jv x m l x.ah.length)[i]:=List.getElem?_eq_getElem mj;have tZ:=List.getElem_mem mj;generalize(jv x m l x.ah.length)[i]=v at e tZ;have hg2:=VJ hg tZ;rw[bl (by simp [aC];omega),ch (cW (by omega)),bt e,ai,ch (cW (by simp;omega)),gP e (by omega)]
    refine b_ (Rf hf hk hm n hg2 (by simp;omega) (hs.bst hb (QR (l:=l)))) fun f ⟨s2,h1,h2⟩=>?_
    subst h1;exact fO ⟨⟨i+1,s2,rfl,mj,hb.more (T:=fun v k=>zR x (bK kind) m (l++[v]) k) e h2⟩,by simp;omega⟩
   ·obtain rfl:i=(jv x m l x.ah.length).length:=by omega
    rw[a_ (by simp [aC])]
    refine ef ⟨s',rfl,hb.congr fun k=>?_⟩
    rw[List.take_length];refine UT (fun t ht=>?_) k
    cases t with
    |nil=>rw[List.append_nil]at ht;exact absurd (QjL hf hR ht) sR
    |cons v t'=>exact⟨v,t',rfl,TW hf hR ht⟩
def isS(v a:aF):Bool:=bP v.ready a.ready&&(bP v.gy a.gy&&true)
theorem Qkn{v a:aF}:isS v a=true↔a=v:=by
 unfold isS;cases v;cases a;simp;exact⟨fun⟨h1,h2⟩=>⟨h1.symm,h2.symm⟩,fun⟨h1,h2⟩=>⟨h1.symm,h2.symm⟩⟩
theorem QmW{L:List aF}{a:aF}:L.any (isS a)=true↔a∈L:=by
 rw[List.any_eq_true];exact⟨fun⟨c,h,h'⟩=>Qkn.1 h'▸h,fun h=>⟨a,h,Qkn.2 rfl⟩⟩
theorem Qcz{L:List aF}{a:aF}(hL:L.length≤1000000):o6 L a=some (if L.any (isS a)=true then L else L++[a]):=by
 have:=vo (l:=L) (by omega) (isS a) (fun k=>(.inr (k:Int):Unit⊕Int)) (N:=.inl ()) (B:=fun s=>cZ L a s) (fun i c h=>by
  show cZ L a i=_;unfold cZ;rw[cB h,gP h (by omega),zn];rfl) (by
  show cZ L a L.length=_;unfold cZ;rw[bW])
 have e:fu L a=some (sH (isS a) L):=by
  unfold fu;rw[bY this];unfold sH;cases Lg (isS a) L <;> rfl
 unfold o6 fR;rw[e,ai,ai,m7,ch (cW (by simp;omega)),zn]
def EL(L:List aF)(a:aF):List aF:=if L.any (isS a)=true then L else L++[a]
theorem tU{L:List aF}{a c:aF}:c∈EL L a↔c∈L∨c=a:=by
 unfold EL;split
 ·rename_i h;rw[QmW]at h;exact⟨fun h'=>.inl h',fun h'=>h'.elim id fun e=>e▸h⟩
 ·simp
theorem EM{L:List aF}{a:aF}:(EL L a).length≤L.length+1:=by
 unfold EL;split <;> simp
def StI(a:aF):Prop:=0≤a.ready∧a.ready≤12288∧0≤a.gy∧a.gy≤4096
end
theorem R_:∀{a b:List ab},a.Nodup→(∀v∈a,v∈b)→a.length≤b.length
 | [],_,_,_=>Nat.zero_le _
 |v ::r,b,hn,hs=>by
  have hv:=hs v (List.mem_cons_self ..);have Up:=List.nodup_cons.1 hn;have:=R_ (a:=r) (b:=b.erase v) Up.2 fun w hw=>(List.mem_erase_of_ne fun e:w=v=>Up.1 (e▸hw)).2 (hs w (List.mem_cons_of_mem _ hw))
  rw[List.length_erase_of_mem hv]at this;have:=List.length_pos_of_mem hv;rw[List.length_cons];omega
theorem QjB{a b:List ab}(hn:a.Nodup)(hs:∀v∈a,v∈b)(hl:b.length≤a.length):∀v∈b,v∈a:=fun v hv=>by
 refine Classical.byContradiction fun h=>?_
 have:=R_ (a:=v ::a) (b:=b) (List.nodup_cons.2 ⟨h,hn⟩) fun w hw=>by
  rcases List.mem_cons.1 hw with rfl|hw
  ·exact hv
  ·exact hs w hw
 rw[List.length_cons]at this;omega
def Z6(m:Nat):List ab:=((List.range 10).filter fun i=>m.testBit i).map fun i:Nat=>ab.mk (i:Int) false
theorem Ot{m:Nat}(hm:m<1024)(i:Nat):m.testBit i=fx (Z6 m) (i:Int):=by
 rw[Bool.eq_iff_iff,wO];constructor
 ·intro h;have hi:i<10:=Nat.lt_of_not_le fun QW=>by
   have:m.testBit i=false:=Nat.testBit_lt_two_pow (Nat.lt_of_lt_of_le hm (Nat.le_trans (by decide) (Nat.pow_le_pow_right (n:=2) (by omega) QW)))
   rw[this]at h;cases h
  exact⟨ab.mk (i:Int) false,List.mem_map.2 ⟨i,List.mem_filter.2 ⟨List.mem_range.2 hi,h⟩,rfl⟩,rfl⟩
 ·rintro⟨v,hv,he⟩;obtain⟨j,hj,rfl⟩:=List.mem_map.1 hv;have:j=i:=Int.ofNat.inj he;rw[←this];exact(List.mem_filter.1 hj).2
theorem WZ{m:Nat}(hm:m<1024):Hi (Z6 m) (m:Int):=⟨m,rfl,hm,Ot hm⟩
section
variable {x : ae} {b r : ay} {l t : List ab} {m n : Nat} {v : ab} {s : Option Ky} {kind : Int}
def BJ(x:ae)(m:Nat):List ab:=Mq x m [] x.ah.length
theorem OD:v∈BJ x m↔∃i,i<x.ah.length∧m.testBit i=true∧v∈gN x (i:Int):=by
 unfold BJ;rw[VE];simp
theorem Qaf:(BJ x m).Nodup:=(O7 _).imp fun{a b} h e=>by subst e;rw[W2]at h;cases h
theorem Qc1(h:pD x l)(ho:Ux l m):∀v,v∈l↔v∈BJ x m:=fun v=>by
 rw[OD];constructor
 ·intro hv;have ry:=rP h.Vo hv;refine⟨v.aL.toNat,by omega,?_,?_⟩
  ·rw[ho,Int.toNat_of_nonneg ry.1];exact wO.2 ⟨v,hv,rfl⟩
  ·rw[Int.toNat_of_nonneg ry.1];exact h.own hv
 ·rintro⟨i,h1,h2,h3⟩;rw[ho]at h2;exact h.all h2 h3
theorem Qjt(h:pD x l)(ho:Ux l m):l.length=(BJ x m).length:=Nat.le_antisymm (R_ h.nodup fun v hv=>(Qc1 h ho v).1 hv) (R_ Qaf fun v hv=>(Qc1 h ho v).2 hv)
theorem QjO(hx:cD x){i:Nat}(hi:i<x.ah.length):∃v,v∈gN x (i:Int):=by
 have e:x.ah[i]?=some x.ah[i]:=List.getElem?_eq_getElem hi;have hO:=hx.ord _ (List.getElem_mem hi);unfold gN;rw[Int.toNat_natCast,e];simp only;have h1:=hO.pick;have h2:=hO.drop;have h3:=hO.one;unfold IQ at h1 h2;by_cases hp:0≤x.ah[i].pick.place
 ·rw[if_pos hp];exact⟨_,List.mem_append_left _ (List.mem_cons_self ..)⟩
 ·rw[if_pos (show 0≤x.ah[i].drop.place by omega)]
  exact⟨_,List.mem_append_right _ (List.mem_cons_self ..)⟩
theorem QfP(hx:cD x)(hm:m<2 ^ x.ah.length)(hg:xx x l)(hs:∀v∈l,v∈BJ x m)(hl:l.length=(BJ x m).length):Ux l m:=fun i=>by
 rw[Bool.eq_iff_iff,wO];constructor
 ·intro hb;have hi:i<x.ah.length:=Nat.lt_of_not_le fun QW=>by
   have:m.testBit i=false:=Nat.testBit_lt_two_pow (Nat.lt_of_lt_of_le hm (Nat.pow_le_pow_right (by omega) QW))
   rw[this]at hb;cases hb
  obtain⟨v,hv⟩:=QjO hx hi;exact⟨v,QjB hg.nodup hs (by omega) v (OD.2 ⟨i,hi,hb,hv⟩),rm hv⟩
 ·rintro⟨v,hv,he⟩;obtain⟨j,_,h2,h3⟩:=OD.1 (hs v hv);have:=rm h3;have:j=i:=by omega
  rw[←this];exact h2
theorem We(hx:cD x)(hm:m<2 ^ x.ah.length):post (o8 x (m:Int)) fun e=>∀l,pD x l→Ux l m→e=0:=by
 have dN:=hx.ah;have Z2:m<1024:=Nat.lt_of_lt_of_le hm (Nat.le_trans (Nat.pow_le_pow_right (n:=2) (by omega) dN) (by decide))
 have tot:post (o8 x (m:Int)) fun _=>True:=by
  have Qpv:=hx.db;have Qnc:=hx.before;have hS:=WZ Z2;have hlen:=Fk (l:=Z6 m) 63;have tZ:∀i∈Aw (Z6 m) 63,0≤i∧i<x.ah.length:=fun i hi=>by
   obtain⟨k,rfl,_,hk⟩:=JZ hi;rw[←Ot Z2]at hk;refine⟨by omega,?_⟩
   have:k<x.ah.length:=Nat.lt_of_not_le fun QW=>by
    have:m.testBit k=false:=Nat.testBit_lt_two_pow (Nat.lt_of_lt_of_le hm (Nat.pow_le_pow_right (by omega) QW))
    rw[this]at hk;cases hk
   omega
  unfold o8;rw[a_ (by simp),FJ hS,ai]
  generalize Aw (Z6 m) 63=M at *;rw[bY (eh (B:=fun q=>fk x (m:Int) M q) (l:=M) (by omega) (fun i=>bZ i (aC x.ah)) (y:=(.inr 2:Unit⊕Int)) (N:=.inl ()) (fun i a hh=>by
   show fk x (m:Int) M i=_;unfold fk;rw[cB hh,gP hh (by omega),zn]) (by
   show fk x (m:Int) M M.length=_;unfold fk;rw[bW]))]
  split
  ·exact bg.2 trivial
  rw[en,bY (eh (B:=fun q=>fl x (m:Int) M q) (l:=M) (by omega) (fun i=>Tg x i.toNat) (y:=(.inr 9:Unit⊕Int)) (N:=.inl ()) (fun i a hh=>by
   obtain⟨q0,q1⟩:=tZ a (List.mem_of_getElem? hh);show fl x (m:Int) M i=_;unfold fl Tg;rw[cB hh,Dg q0 q1,ai,gP hh (by omega),zn,List.getElem?_eq_getElem (by omega)]) (by
   show fl x (m:Int) M M.length=_;unfold fl;rw[bW]))]
  split
  ·exact bg.2 trivial
  rw[en,bY (eh (B:=fun q=>fm x (m:Int) M q) (l:=x.db) (by omega) (wM (Z6 m)) (y:=(.inr 20:Unit⊕Int)) (N:=.inl ()) (fun i a hh=>by
   obtain⟨p0,p1,p2,p3,p4⟩:=hx.Qai a (List.mem_of_getElem? hh);show fm x (m:Int) M i=_;unfold fm wM;rw[cB hh,hS.Has p0 (by omega),ai,hS.Has p2 (by omega),ai,gP hh (by omega)]
   cases fx (Z6 m) a.x0 <;> cases fx (Z6 m) a.x1 <;> rfl) (by
   show fm x (m:Int) M x.db.length=_;unfold fm;rw[bW]))]
  split
  ·exact bg.2 trivial
  rw[en,bY (eh (B:=fun q=>fp x (m:Int) M q) (l:=x.before) (by omega) (fun a=>fx (Z6 m) a.x1&&!fx (Z6 m) a.x0) (y:=(.inr 21:Unit⊕Int)) (N:=.inl ()) (fun i a hh=>by
   obtain⟨p0,p1,p2,p3,p4⟩:=hx.KM a (List.mem_of_getElem? hh);show fp x (m:Int) M i=_;unfold fp;rw[cB hh,hS.Has p2 (by omega),ai,hS.Has p0 (by omega),ai,gP hh (by omega)]
   cases fx (Z6 m) a.x0 <;> cases fx (Z6 m) a.x1 <;> rfl) (by
   show fp x (m:Int) M x.before.length=_;unfold fp;rw[bW]))]
  split
  ·exact bg.2 trivial
  obtain⟨c,hc,f,rfl,hf⟩:=QS hx;rw[en,hc,ai,bY (eh (B:=fun q=>fq M (fC x.ah.length fun i=>((f i:Nat):Int)) q) (l:=M) (by omega) (fun i=>(f i.toNat).testBit i.toNat) (y:=(.inr 21:Unit⊕Int)) (N:=.inl ()) (fun i a hh=>by
   obtain⟨q0,q1⟩:=tZ a (List.mem_of_getElem? hh);obtain⟨k,rfl⟩:∃k:Nat,a=k:=⟨a.toNat,by omega⟩
   show fq M (fC x.ah.length fun i=>((f i:Nat):Int)) i=_
   unfold fq;have mj:=hf.lt k;have Qlo:su ((f k:Nat):Int) (k:Int)=some ((f k).testBit k):=by
    have:=(WZ mj).Has (i:=(k:Int)) (by omega) (by omega)
    rw[this,←Ot mj]
   rw[cB hh,K_ q0 q1,ai,Int.toNat_natCast,Qlo,ai,gP hh (by omega),zn]) (by
   show fq M (fC x.ah.length fun i=>((f i:Nat):Int)) M.length=_
   unfold fq;rw[bW]))]
  split <;> exact bg.2 trivial
 obtain⟨e,he,-⟩:=tot;refine⟨e,he,fun l hq ho=>?_⟩
 have:=Qag hx hq (s:=(m:Int)) ⟨m,rfl,Z2,ho⟩;rw[he]at this;exact Option.some.inj this
end
def IC(x:ae)(kind:Int)(m:Nat)(qb:Int)(s:Option Ky):aW:=match s with
 |none=>aW.mk x kind (m:Int) qb Qmo false
 |some k=>aW.mk x kind (m:Int) qb (I3 (bK kind) m k) true
def IV(x:ae)(ty:ag)(aE:Int)(st:aM)(a:aF):Int×Int×Int:=goN x.bG ty.aj aE st.place a.ready
def MF(x:ae)(ty:ag)(aE:Int)(st:aM)(a:aF):Prop:=(IV x ty aE st a).2.2=0∧a.gy+(IV x ty aE st a).1-a.ready≤ty.kC∧(IV x ty aE st a).1≤st.bp
def NX(x:ae)(ty:ag)(aE:Int)(st:aM)(a:aF):Int:=max (IV x ty aE st a).1 st.bm+st.bz
def Qbn(x:ae)(ty:ag)(aE:Int)(st:aM)(a:aF):Int:=a.gy+(IV x ty aE st a).1-a.ready
section
variable {x : ae} {b r : ay} {l t : List ab} {m n : Nat} {v : ab} {s : Option Ky} {kind aE qb : Int} {ty : ag} {st : aM}
theorem Xs:(IC x kind m qb s).x=x:=by unfold IC;split <;> rfl
theorem Qbm:(IC x kind m qb s).kind=kind:=by unfold IC;split <;> rfl
theorem Qme:(IC x kind m qb s).ba=m:=by unfold IC;split <;> rfl
theorem Qmf:(IC x kind m qb s).qb=qb:=by unfold IC;split <;> rfl
structure TyI (x:ae) (kind:Int) (ty:ag):Prop where
 di:bq x.types kind=some ty
 kC:1≤ty.kC∧ty.kC≤4096
 rest:0≤ty.de∧ty.de≤4096
 XV:0≤ty.bm∧ty.bm≤4096
theorem Qde(hs:SOK st){a:Int}(h0:0≤a)(ha:a≤1048576):wF st a=some (if st.bp<a then(0,14)else(max a st.bm+st.bz,0)):=by
 have h1:=hs.VL;have h2:=hs.Th;have h3:=hs.bp;have h4:=hs.TF;have h5:=hs.ZE;unfold wF vD;rw[Bn,NK];simp only[qi];by_cases h:st.bp<a
 ·rw[if_pos (by omega),if_pos h,ai,bl (by decide)]
 ·rw[if_neg (by omega),if_neg h,ai]
  show br (cA 0 0) _ (some (aY .i64 (max a st.bm) st.bz,0))=_;rw[a_ (by decide),ig (by omega) (by omega)]
theorem OY{L:List aF}(hT:TyI x kind ty){s0:aW}(hx:s0.x=x)(hk:s0.kind=kind)(hL:L.length≤10000){d e:Int}(hd:0≤d∧d≤8192):
  mB s0 L d e=some (EL (EL L (aF.mk d e)) (aF.mk (d+ty.de) 0),s0):=by
 have h1:=hT.rest;have h2:=EM (L:=L) (a:=aF.mk d e);unfold mB;rw[Qcz (by omega),ai,hx,hk,hT.di,ai,ig (by omega) (by omega)]
 rw[show(if L.any (isS (aF.mk d e))=true then L else L++[aF.mk d e])=EL L (aF.mk d e)from rfl,Qcz (by omega),ai]
 rfl
theorem QbC(hf:u5 x)(hT:TyI x kind ty)(hs:SOK st){s0:aW}(hx:s0.x=x)(hk:s0.kind=kind){L:List aF}(hL:L.length≤1000)(hb:∀a∈L,StI a):
  post (qB s0 aE L st) fun r=>r.2=s0∧r.1.length≤2*L.length∧(∀a∈r.1,StI a)∧
   ∀a∈L,MF x ty aE st a→aF.mk (NX x ty aE st a) (Qbn x ty aE st a)∈r.1∧aF.mk (NX x ty aE st a+ty.de) 0∈r.1:=by
 have hR:=hT.rest;have hD:=hT.kC;have h1:=hs.VL;have h2:=hs.Th;have h3:=hs.bp;have h4:=hs.TF;have h5:=hs.ZE;unfold qB;rw[hx,hk,hT.di,ai];refine b_ (R:=fun r:List aF×aW=>r.2=s0∧r.1.length≤2*L.length∧(∀a∈r.1,StI a)∧
   ∀a∈L,MF x ty aE st a→aF.mk (NX x ty aE st a) (Qbn x ty aE st a)∈r.1∧aF.mk (NX x ty aE st a+ty.de) 0∈r.1) ?_ fun r h=>bg.2 h
 refine fj (fun q:List aF×aW×Int=>∃i:Nat,q.2.1=s0∧q.2.2=(i:Int)∧i≤L.length∧q.1.length≤2*i∧(∀a∈q.1,StI a)∧
   ∀a∈L.take i,MF x ty aE st a→aF.mk (NX x ty aE st a) (Qbn x ty aE st a)∈q.1∧aF.mk (NX x ty aE st a+ty.de) 0∈q.1) (fun q=>L.length-q.2.2.toNat) ⟨0,rfl,rfl,Nat.zero_le _,Nat.le_refl _,(fun a h=>by cases h),(fun a h=>by cases h)⟩ (by simp;omega) ?_
 rintro⟨out,sx,_⟩ ⟨i,hsx,rfl,hi,hl,nr,ry⟩;obtain rfl:s0=sx:=hsx.symm;replace hl:out.length≤2*i:=hl;show post (nm aE L st ty out s0 (i:Int)) _;unfold nm;rcases Nat.lt_or_ge i L.length with mj|QW
 ·have e:L[i]?=some L[i]:=List.getElem?_eq_getElem mj;have tZ:=List.getElem_mem mj;generalize L[i]=a at e tZ;obtain⟨a1,a2,a3,a4⟩:=hb a tZ;have Qlt:NA a.ready:=⟨a1,by omega⟩
  have htk:=take_one e;have skip:¬MF x ty aE st a→post (some (Sum.inl (out,s0,(i:Int)+1):(List aF×aW×Int)⊕(List aF×aW))) fun z=>(∀s',z=.inl s'→(∃i:Nat,s'.2.1=s0∧s'.2.2=(i:Int)∧i≤L.length∧s'.1.length≤2*i∧(∀a∈s'.1,StI a)∧
   ∀a∈L.take i,MF x ty aE st a→aF.mk (NX x ty aE st a) (Qbn x ty aE st a)∈s'.1∧aF.mk (NX x ty aE st a+ty.de) 0∈s'.1)∧L.length-s'.2.2.toNat<L.length-((i:Int)).toNat)∧∀e,z=.inr e→e.2=s0∧e.1.length≤2*L.length∧(∀a∈e.1,StI a)∧
   ∀a∈L,MF x ty aE st a→aF.mk (NX x ty aE st a) (Qbn x ty aE st a)∈e.1∧aF.mk (NX x ty aE st a+ty.de) 0∈e.1:=fun hng=>by
   refine fO ⟨⟨i+1,rfl,rfl,mj,by simp only;omega,nr,fun c hc hg=>?_⟩,by simp;omega⟩
   rw[htk]at hc;rcases List.mem_append.1 hc with hc|hc
   ·exact ry c hc hg
   ·rw[List.mem_singleton.1 hc]at hg;exact absurd hg hng
  rw[cB e,hx,go_eq hf.ok.bG _ _ _ Qlt,ai,gP e (by omega)]
  have hA:goN x.bG ty.aj aE st.place a.ready=IV x ty aE st a:=rfl;rw[hA];refine bA (fun h=>skip fun hg=>?_) (fun h=>?_)
  ·simp only[XX,wk]at h;obtain⟨g1,g2,g3⟩:=hg;have hbd:=Jg hf.ok.bG Qlt g1;rw[hA]at hbd;rcases h with h|h
   ·exact h g1
   ·rw[ig (by omega) (by omega),v9 (by omega) (by omega),qi]at h
    omega
  ·simp only[Ql,J0]at h;have hbd:=Jg hf.ok.bG Qlt (show(IV x ty aE st a).2.2=0 by omega)
   rw[hA]at hbd;have h6:=h.2;rw[ig (by omega) (by omega),v9 (by omega) (by omega),nq]at h6
   rw[Qde hs (by omega) (by omega),ai]
   by_cases hc:st.bp<(IV x ty aE st a).1
   ·rw[if_pos hc,bl (by decide)]
    exact skip fun hg=>by have:=hg.2.2;omega
   ·rw[if_neg hc]
    dsimp only
    rw[a_ (by decide),ig (by omega) (by omega),v9 (by omega) (by omega),OY hT hx hk (by omega) (by omega),ai]
    have k1:=EM (L:=out) (a:=aF.mk (max (IV x ty aE st a).1 st.bm+st.bz) (a.gy+(IV x ty aE st a).1-a.ready));have k2:=EM (L:=EL out (aF.mk (max (IV x ty aE st a).1 st.bm+st.bz) (a.gy+(IV x ty aE st a).1-a.ready))) (a:=aF.mk (max (IV x ty aE st a).1 st.bm+st.bz+ty.de) 0);refine fO ⟨⟨i+1,rfl,rfl,mj,by simp only;omega,fun c IL=>?_,fun c IL hg=>?_⟩,by simp;omega⟩
    ·rw[tU,tU]at IL;rcases IL with(IL|rfl)|rfl
     ·exact nr c IL
     ·exact⟨by simp only;omega,by simp only;omega,by simp only;omega,by simp only;omega⟩
     ·exact⟨by simp only;omega,by simp only;omega,by simp only;omega,by simp only;omega⟩
    ·rw[tU,tU,tU,tU];rw[htk]at IL;rcases List.mem_append.1 IL with IL|IL
     ·obtain⟨q1,q2⟩:=ry c IL hg;exact⟨.inl (.inl q1),.inl (.inl q2)⟩
     ·rw[List.mem_singleton.1 IL];exact⟨.inl (.inr rfl),.inr rfl⟩
 ·obtain rfl:i=L.length:=by omega
  rw[bW];refine ef ⟨rfl,hl,nr,?_⟩;rw[List.take_length]at ry;exact ry
theorem Za{bG:ak}{aG:List aM}{aH:Int}{q:List Bool}(h:okB bG ty aG aH q):∀d k,d+k=q.length→okB bG ty aG aH (q.take k)
 |0,k,hk=>by rw[List.take_of_length_le (by omega)];exact h
 |d+1,k,hk=>by
  have h1:=Za h d (k+1) (by omega)
  have e:q[k]?=some (q[k]'(by omega)):=List.getElem?_eq_getElem _
  rw[take_one e]at h1;exact(yA.1 h1).1
def QhV(x:ae)(kind:Int)(m:Nat)(ty:ag)(l:List ab)(aE:Int)(L:List aF):Prop:=
 ∀w,At x (bK kind) m w→(∃u,w=l++u)→aE=fD ty (bh x (rW (bK kind) w)) l.length∧
  ∀q:List Bool,q.length=l.length→okB x.bG ty (bh x (rW (bK kind) w)) 0 q→∀c,aF.mk (jh ty (pL x.bG ty (bh x (rW (bK kind) w)) 0 q) c) (uY (pL x.bG ty (bh x (rW (bK kind) w)) 0 q) c)∈L
theorem Qht(hf:u5 x)(hk:wh kind)(h:At x (bK kind) m l):pD x l∧mM (rW (bK kind) l)∧Em (rW (bK kind) l)∧∃q,Qdf x (rW (bK kind) l) (Uk x (rW (bK kind) l)).1 q:=by
 have hR:=Qdo hk;have hq:=Pr hf hR h;have h6:=hq.FU.six hf;obtain⟨hR2,h9⟩:=Qjo hR (show l.length≤8 by omega)
 obtain⟨_,q,hE⟩:=(Bh hf.ok hR2 h9).2.2.2.2 (Zm hf.ok hR2 h9 h.2.1);exact⟨hq,hR2,h9,q,hE⟩
theorem Qox(hT:TyI x kind ty)(h0:0≤kind):bU x (rW (bK kind) l)=ty:=by
 have h:=hT.di;unfold bq at h;rw[if_pos h0]at h;unfold bU;show x.types.getD kind.toNat Qhy=ty;rw[List.getD_eq_getElem?_getD,h];rfl
theorem Qhk{w:List ab}(h:qj x v=some st)(hw:w=l++v ::t):(bh x (rW b w))[l.length]?=some st:=by
 subst hw;unfold bh;show((l++v ::t).map fun v=>(qj x v).getD Mu)[l.length]?=some st
 rw[List.getElem?_map,List.getElem?_append_right (Nat.le_refl _),Nat.sub_self,List.getElem?_cons_zero];simp [h]
theorem QfD(hf:u5 x)(hk:wh kind)(h0:0≤kind)(hT:TyI x kind ty)(hv:qj x v=some st){L L':List aF}(hc:QhV x kind m ty l aE L)
  (hn:∀a∈L,MF x ty aE st a→aF.mk (NX x ty aE st a) (Qbn x ty aE st a)∈L'∧aF.mk (NX x ty aE st a+ty.de) 0∈L'):QhV x kind m ty (l++[v]) st.place L':=by
 rintro w hw ⟨u,hu⟩;rw[List.append_assoc,List.singleton_append]at hu;obtain⟨Qnq,QpW⟩:=hc w hw ⟨v ::u,hu⟩;obtain⟨hq,hR2,h9,qE,hE⟩:=Qht hf hk hw;have nr:=Qhk (b:=bK kind) hv hu;have hTr:=TU hf.ok hE.Qek;rw[Qox hT h0]at hTr;generalize bh x (rW (bK kind) w)=aG at *;have mj:l.length<aG.length:=(List.getElem?_eq_some_iff.1 nr).1;have hsk:cV ty aG l.length=st:=by
  have:=Aq (t:=ty) mj;rw[nr]at this;exact(Option.some.inj this).symm
 refine⟨?_,fun q hql mA c=>?_⟩
 ·rw[List.length_append,List.length_singleton];show st.place=(aG.getD l.length Mu).place;rw[List.getD_eq_getElem?_getD,nr];rfl
 ·rw[List.length_append,List.length_singleton]at hql;have eq:q[l.length]?=some (q[l.length]'(by omega)):=List.getElem?_eq_getElem _
  generalize q[l.length]'(by omega)=d at eq
  have WR:q=q.take l.length++[d]:=by rw[←take_one eq,List.take_of_length_le (by omega)]
  have hdl:(q.take l.length).length=l.length:=by rw[List.length_take];omega
  generalize q.take l.length=p at WR hdl;subst WR;obtain⟨g1,g2⟩:=yA.1 mA;have hlb:=Js mA;have tZ:=QpW p hdl g1 d;rw[hdl]at g2 hlb;generalize pL x.bG ty aG 0 p=lb at *;rw[hlb];clear hlb;unfold wI W4 at g2 ⊢;rw[hsk,←Qnq]at g2 ⊢;have hA:goN x.bG ty.aj aE st.place (jh ty lb d)=IV x ty aE st (aF.mk (jh ty lb d) (uY lb d)):=rfl;rw[hA]at g2 ⊢;generalize QnQ:aF.mk (jh ty lb d) (uY lb d)=a at *;have e1:a.ready=jh ty lb d:=by rw[←QnQ]
  have e2:a.gy=uY lb d:=by rw[←QnQ]
  by_cases c1:(IV x ty aE st a).2.2≠0
  ·rw[if_pos c1]at g2;cases g2
  rw[if_neg c1]at g2 ⊢;by_cases c2:st.bp<(IV x ty aE st a).1
  ·rw[if_pos c2]at g2;rw[if_pos mj]at g2;cases g2
  rw[if_neg c2]at g2 ⊢;by_cases c3:ty.kC<uY lb d+(IV x ty aE st a).1-jh ty lb d
  ·rw[if_pos c3]at g2;cases g2
  rw[if_neg c3]at g2 ⊢;obtain⟨m1,m2⟩:=hn a tZ ⟨by omega,by omega,by omega⟩
  unfold NX Qbn at m1;unfold NX at m2;rw[e1,e2]at m1;cases c with
  |false =>
   have e:∀lab:au,jh ty lab false=lab.ready∧uY lab false=lab.gw:=fun lab=>⟨by unfold jh;simp,by unfold uY;simp⟩
   rw[(e _).1,(e _).2];exact m1
  |true =>
   have e:∀lab:au,jh ty lab true=lab.ready+ty.de∧uY lab true=0:=fun lab=>⟨by unfold jh;simp,by unfold uY;simp⟩
   rw[(e _).1,(e _).2];exact m2
theorem Qk4(hf:u5 x)(hk:wh kind)(h0:0≤kind)(hT:TyI x kind ty){L:List aF}(hc:QhV x kind m ty l aE L){u:List ab}(hw:At x (bK kind) m (l++u)):L≠[]:=by
 obtain⟨hq,hR2,h9,qE,hE⟩:=Qht hf hk hw;have Og:=hE.full;rw[Qox hT h0]at Og;have hlen:=Og.1;rw[tX]at hlen;have hl2:(rW (bK kind) (l++u)).ar.length=l.length+u.length:=by
  show(l++u).length=_;rw[List.length_append]
 have mA:=Za Og.2.2 (qE.length-l.length) l.length (by omega)
 have:=(hc _ hw ⟨u,rfl⟩).2 (qE.take l.length) (by rw[List.length_take];omega) mA true
 exact fun h=>by rw[h]at this;cases this
end
section
variable {x : ae} {b r : ay} {l t : List ab} {m n : Nat} {v : ab} {s : Option Ky} {kind aE qb : Int} {ty : ag} {st : aM}
theorem QeN{o:Int}(h0:0≤o)(h:v∈gN x o):∃st,qj x v=some st:=by
 have ho:=rm h;unfold gN at h;unfold qj;rw[ho,if_pos h0];split at h
 ·rename_i q hq;rw[hq];simp only;rcases List.mem_append.1 h with h|h
  ·split at h
   ·rename_i hp;rw[List.mem_singleton.1 h];exact⟨_,if_pos hp⟩
   ·cases h
  ·split at h
   ·rename_i hp;rw[List.mem_singleton.1 h];exact⟨_,if_pos hp⟩
   ·cases h
 ·cases h
theorem Qh6:fP l=some l:=by
 unfold fP;rw[show vw l 0 (aC l)=some l by
  unfold vw aC;rw[if_pos (by omega)]
  simp,ai]
theorem Ss(hf:u5 x)(hk:wh kind)(h0:0≤kind)(hT:TyI x kind ty)(hm:m<2 ^ x.ah.length):∀(n:Nat) {l:List ab} {s:Option Ky} {aE:Int} {L:List aF},xx x l→(∀v∈l,v∈BJ x m)→6<l.length+n→Se s→
  L.length≤2 ^ (l.length+1)→(∀a∈L,StI a)→QhV x kind m ty l aE L→
  post (kR n (IC x kind m ((BJ x m).length:Int) s) l aE L) fun f=>∃s',f=IC x kind m ((BJ x m).length:Int) s'∧DV (zR x (bK kind) m l) s s'
 |0,l,s,aE,L,hg,_,hn,_,_,_,_=>by have:=hg.six hf;omega
 |n+1,l,s,aE,L,hg,vb,hn,hs,hL,hSt,QpC=>by
  have hx:=hf.ok;have hR:=Qdo hk;have h6:=hg.six hf;have h3:=hf.few;have Z2:m<1024:=Nat.lt_of_lt_of_le hm (Nat.le_trans (Nat.pow_le_pow_right (n:=2) (by omega) h3) (by decide))
  have hlen:∀t,At x (bK kind) m (l++t)→l.length+t.length=(BJ x m).length:=fun t ht=>by
   have:=Qjt (Pr hf hR ht) ht.2.2;rw[List.length_append]at this;exact this
  show post (pF (kR n) (IC x kind m ((BJ x m).length:Int) s) l aE L) _;unfold pF;rw[Qmf,Xs,Qbm,Qme];refine bA (fun h=>?_) (fun h=>?_)
  ·have hll:l.length=(BJ x m).length:=by simp only[pJ,aC]at h;omega
   have Qga:∀t,At x (bK kind) m (l++t)→t=[]:=fun t ht=>List.eq_nil_of_length_eq_zero (by have:=hlen t ht;omega)
   suffices hh:post _ fun f=>∃s',f=IC x kind m ((BJ x m).length:Int) s'∧DV (fun k=>At x (bK kind) m l∧k=NB x (bK kind) l) s s' from
    hh.mono fun f ⟨s',h1,h2⟩=>⟨s',h1,h2.congr (US Qga)⟩
   obtain⟨hR2,h9⟩:=Qjo hR (show l.length≤8 by omega)
   obtain⟨p1,_⟩:=Xd hx hR2 h9;have hrw:ay.mk kind 0 [] l=rW (bK kind) l:=rfl;rw[hrw,p1,ai];refine bA (fun h1=>?_) (fun h1=>bg.2 ⟨s,rfl,DV.none fun q hq=>?_⟩)
   ·rw[pJ]at h1;have hv:At x (bK kind) m l:=⟨by omega,h1,QfP hx hm hg vb hll⟩
    have hS:∀q,(At x (bK kind) m l∧q=NB x (bK kind) l)↔q=NB x (bK kind) l:=fun q=>⟨fun h=>h.2,fun h=>⟨hv,h⟩⟩
    have Lc:al.mk kind (m:Int) (T7 x (rW (bK kind) l)).1 (rW (bK kind) l)=I3 (bK kind) m (NB x (bK kind) l):=rfl;rw[Lc];unfold kf;cases s with
    |none=>exact bg.2 ⟨some (NB x (bK kind) l),rfl,DV.one hS (.inl ⟨rfl,fun q h=>by cases h⟩)⟩
    |some q =>
     have hq:=hs q rfl;show post (aS (br true (aS (uC (I3 (bK kind) m (NB x (bK kind) l)) (I3 (bK kind) m q)) fun r2=>_) _) _) _
     rw[dc,UG (show l.length≤1048576 by omega) hq,ai,zn,ai]
     by_cases h2:decide (RA (NB x (bK kind) l) q)=true
     ·have h3:RA (NB x (bK kind) l) q:=of_decide_eq_true h2;refine bg.2 ⟨some (NB x (bK kind) l),?_,DV.one hS (.inl ⟨rfl,fun q' e h4=>by cases e;exact Om (P1 h3 h4)⟩)⟩
      rw[if_pos (show decide (RA ((I3 (bK kind) m (NB x (bK kind) l)).eR,(I3 (bK kind) m (NB x (bK kind) l)).bH.ar) ((I3 (bK kind) m q).eR,(I3 (bK kind) m q).bH.ar))=true from h2)];rfl
     ·have h3:¬RA (NB x (bK kind) l) q:=of_decide_eq_false (by simpa using h2)
      refine bg.2 ⟨some q,?_,DV.one hS (.inr ⟨rfl,q,rfl,h3⟩)⟩;rw[if_neg (show ¬decide (RA ((I3 (bK kind) m (NB x (bK kind) l)).eR,(I3 (bK kind) m (NB x (bK kind) l)).bH.ar) ((I3 (bK kind) m q).eR,(I3 (bK kind) m q).bH.ar))=true from h2)];rfl
   ·exact(xC.1 h1) hq.1.2.1
  ·rw[QhY hx (by omega) Z2,ai]
   have hnl:=Fm (x:=x) (m:=m) (l:=l) x.ah.length;refine tW ?_
   refine fj (fun q:aW×Int=>∃(i:Nat) (s':Option Ky),q=(IC x kind m ((BJ x m).length:Int) s',(i:Int))∧i≤(jv x m l x.ah.length).length∧DV (fun k=>∃v∈(jv x m l x.ah.length).take i,zR x (bK kind) m (l++[v]) k) s s') (fun q=>(jv x m l x.ah.length).length-q.2.toNat) ⟨0,s,rfl,Nat.zero_le _,DV.none fun k hk=>by simp at hk⟩ (by simp;omega) ?_
   rintro _ ⟨i,s',rfl,hi,hb⟩;show post (n6 (kR n) l aE L (jv x m l x.ah.length) (IC x kind m ((BJ x m).length:Int) s') (i:Int)) _;unfold n6;rcases Nat.lt_or_ge i (jv x m l x.ah.length).length with mj|QW
   ·have e:(jv x m l x.ah.length)[i]?=some (jv x m l x.ah.length)[i]:=List.getElem?_eq_getElem mj;have tZ:=List.getElem_mem mj;generalize(jv x m l x.ah.length)[i]=v at e tZ;have hg2:=VJ hg tZ;obtain⟨j,j1,j2,j3,j4,j5⟩:=KX.1 tZ;obtain⟨st,nr⟩:=QeN (by omega) j4
    have QfY:=TQ hx nr;have Qpq:SOK st:=⟨QfY.2.2.1,QfY.2.2.2.1,QfY.2.2.2.2.1,QfY.2.2.2.2.2.1,QfY.2.2.2.2.2.2⟩;have Qss:(2:Nat) ^ (l.length+1)≤2 ^ 7:=Nat.pow_le_pow_right (by omega) (by omega)
    rw[cB e,Xs,Mn,nr,ai];show post (br (cA 0 0) _ _) _;rw[a_ (by decide),gP e (by omega)]
    refine b_ (QbC hf hT Qpq Xs Qbm (by omega) hSt) fun r4 ⟨q1,q2,q3,q4⟩=>?_
    have Qj7:=QfD hf hk h0 hT nr QpC q4;rw[q1];refine bA (fun sR=>?_) (fun hem=>?_)
    ·rw[Qh6,ai,ch (cW (by simp;omega))]
     refine b_ (Ss hf hk h0 hT hm n hg2 (fun w hw=>?_) (by simp;omega) (hs.bst hb (QR (l:=l))) ?_ q3 Qj7) fun f ⟨s2,h1,h2⟩=>?_
     ·rcases List.mem_append.1 hw with hw|hw
      ·exact vb w hw
      ·rw[List.mem_singleton.1 hw];exact OD.2 ⟨j,j1,j2,j4⟩
     ·rw[List.length_append,List.length_singleton,Nat.pow_succ];omega
     ·subst h1;exact fO ⟨⟨i+1,s2,rfl,mj,hb.more (T:=fun v k=>zR x (bK kind) m (l++[v]) k) e h2⟩,by simp;omega⟩
    ·refine fO ⟨⟨i+1,s',rfl,mj,hb.more (T:=fun v k=>zR x (bK kind) m (l++[v]) k) e (DV.none fun k hk2=>?_)⟩,by simp;omega⟩
     obtain⟨t',h1,_⟩:=hk2;refine Qk4 hf hk h0 hT Qj7 h1 (List.eq_nil_of_length_eq_zero ?_);simp only[nq,aC]at hem;omega
   ·obtain rfl:i=(jv x m l x.ah.length).length:=by omega
    rw[bW];refine ef (bg.2 ⟨s',rfl,hb.congr fun k=>?_⟩)
    rw[List.take_length];refine UT (fun t ht=>?_) k
    cases t with
    |nil =>
     have:=hlen [] ht;simp only[xC,aC]at h;simp only[List.length_nil]at this;omega
    |cons v t'=>exact⟨v,t',rfl,TW hf hR ht⟩
def CB(x:ae)(b:ay)(m:Nat)(k:Ky):Prop:=if b.aP.length>b.ar.length then At x b m b.ar∧k=NB x b b.ar else zR x b m b.ar k
open Classical in
def Zc(x:ae)(b:ay)(m:Nat):Option Ky:=if h:∃s,DV (CB x b m) none s then h.choose else none
theorem W9(h:DV (CB x b m) none s):s=Zc x b m:=by
 have he:∃s,DV (CB x b m) none s:=⟨s,h⟩;unfold Zc;rw[dif_pos he];exact h.uniq he.choose_spec
def Qo6(b:ay)(m:Nat)(s:Option Ky):al×Int:=match s with
 |none=>(Qmo,24)
 |some k=>(I3 b m k,0)
def EA(x:ae)(b:ay)(ba:Int):al×Int:=
 if(0≤b.aR∧b.aR<x.types.length)∧0<ba∧ba<((2 ^ x.ah.length:Nat):Int)then Qo6 b ba.toNat (Zc x b ba.toNat)else(Qmo,2)
theorem Qmj(hx:cD x)(hm:0<m):bP (wZ .i64 (m:Int) (aC x.ah)) 0=decide (m<2 ^ x.ah.length):=by
 have dN:=hx.ah;unfold aC;rw[Qhg (by omega),Bool.eq_iff_iff,pJ,decide_eq_true_iff]
 have h2:=Nat.two_pow_pos x.ah.length;constructor
 ·intro h;have:m / 2 ^ x.ah.length=0:=by omega
  rcases(Nat.div_eq_zero_iff).1 this with h'|h'
  ·omega
  ·exact h'
 ·intro h;rw[Nat.div_eq_of_lt h];rfl
theorem Qel(hf:u5 x):2 ^ x.ah.length≤8:=Nat.le_trans (Nat.pow_le_pow_right (n:=2) (by omega) hf.few) (by decide)
theorem QgI(hf:u5 x){B:Int×Int→Option ((Int×Int)⊕Int)}(ry:∀(k:Nat) (a:Int),k<x.ah.length→B (a,(k:Int))=some (.inl (m_ .i64 2 a,(k:Int)+1)))(xG:∀a,B (a,(x.ah.length:Int))=some (.inr a)):aK B (1,0)=some ((2 ^ x.ah.length:Nat):Int):=by
 have h3:=hf.few;have h0:((1:Int),(0:Int))=(fun k:Nat=>(((2 ^ k:Nat):Int),(k:Int))) 0:=by simp
 rw[h0];refine dj x.ah.length (fun k:Nat=>(((2 ^ k:Nat):Int),(k:Int))) (by omega) (fun k hk=>?_) (xG _)
 rw[ry k _ hk];have h8:2 ^ k≤8:=Nat.le_trans (Nat.pow_le_pow_right (n:=2) (by omega) (show k≤3 by omega)) (by decide)
 have hk1:2 ^ (k+1)=2*2 ^ k:=by rw[Nat.pow_succ,Nat.mul_comm]
 show some (Sum.inl (m_ .i64 2 ((2 ^ k:Nat):Int),(k:Int)+1))=some (Sum.inl (((2 ^ (k+1):Nat):Int),((k+1:Nat):Int)));rw[hk1];generalize 2 ^ k=q at *;rw[Qi5 (by omega) (by omega)]
 simp
end
section
variable {x : ae} {b r : ay} {l t : List ab} {m n : Nat} {v : ab} {s : Option Ky} {kind aE qb : Int} {ty : ag} {st : aM}
theorem QeJ{α:Type}{f:α→Int}{a:α}{l:List α}:lH f (a ::l)=f a+lH f l:=by simp [lH]
theorem QdB{M:List Int}{f:Int→Int}:∀s:Int,Je (fun s a=>(.inl (s+f a):Int⊕Int)) id s M=s+lH f M:=by
 induction M with
 |nil=>intro s;rw[TR,Je];simp
 |cons a r ih=>intro s;rw[Va rfl,ih,QeJ];omega
theorem V8(hm:m<1024)(hb:m<2 ^ x.ah.length):∀k,lH (fun a=>((gN x a).length:Int)) (Aw (Z6 m) k)=((Mq x m [] (min k x.ah.length)).length:Int)
 |0=>by simp [Aw,lH,Mq]
 |k+1=>by
  have ih:=V8 hm hb k;unfold Aw;rw[FF,ih,←Ot hm];rcases Nat.lt_or_ge k x.ah.length with h|h
  ·rw[Nat.min_eq_left (by omega),Nat.min_eq_left (by omega)]
   show _=((Mq x m [] k++_).length:Int);rw[List.length_append];cases m.testBit k with
   |false=>simp [lH]
   |true =>
    have HH:(gN x (k:Int)).filter (fun v=>!([]:List ab).any (oH v))=gN x (k:Int):=List.filter_eq_self.2 fun _ _=>rfl
    rw[if_pos rfl,if_pos rfl,FG,HH];simp
  ·have hz:m.testBit k=false:=Nat.testBit_lt_two_pow (Nat.lt_of_lt_of_le hb (Nat.pow_le_pow_right (by omega) h))
   rw[Nat.min_eq_right (by omega),Nat.min_eq_right (by omega),hz]
   simp [lH]
theorem tyI(hf:u5 x)(h:0≤kind∧kind<x.types.length):∃ty,TyI x kind ty:=by
 have hT:=hf.ok.Sa _ (List.getElem_mem (show kind.toNat<x.types.length by omega))
 exact⟨_,Dg h.1 h.2,hT.kC,hT.rest,hT.XV.1,by have:=hT.XV;have:=hT.bp;omega⟩
theorem SU:xx x []:=⟨by simp,fun v h=>by cases h⟩
theorem QG:CB x (bK kind) m=zR x (bK kind) m []:=by
 funext k
 unfold CB;rw[if_neg (by show ¬(0>0);omega)]
 rfl
theorem Wn(hf:u5 x)(hk:wh kind){ba:Int}:EB x kind ba=some (EA x (bK kind) ba):=by
 have hx:=hf.ok;have h8:=Qel hf;have dN:=hx.ah;unfold EB EA;by_cases ht:0≤kind∧kind<x.types.length
 ·have QZ:0≤(bK kind).aR∧(bK kind).aR<x.types.length:=ht;by_cases hp:0<ba
  ·obtain⟨m,rfl⟩:∃m:Nat,ba=m:=⟨ba.toNat,by omega⟩
   rw[a_ (by simp [aC];omega),ch (by unfold aC;omega)]
   have sR:cA (wZ .i64 (m:Int) (aC x.ah)) 0=!decide (m<2 ^ x.ah.length):=by rw[←Qmj hx (by omega)];rfl
   rw[sR];by_cases hm:m<2 ^ x.ah.length
   ·rw[a_ (by simp [hm]),if_pos ⟨QZ,hp,by omega⟩,Int.toNat_natCast]
    have Z2:m<1024:=by omega
    obtain⟨e,he,vb⟩:=We hx hm;rw[he,ai];by_cases he0:e=0
    ·rw[a_ (by simpa using he0),FJ (WZ Z2),ai]
     have hlen:=Fk (l:=Z6 m) 63;have QiP:=V8 (x:=x) Z2 hm 63;rw[Nat.min_eq_right (by omega)]at QiP
     have tZ:∀i∈Aw (Z6 m) 63,0≤i∧i<x.ah.length:=fun i hi=>by
      obtain⟨k,rfl,_,hk⟩:=JZ hi;rw[←Ot Z2]at hk;refine⟨by omega,?_⟩
      have:k<x.ah.length:=Nat.lt_of_not_le fun QW=>by
       have:m.testBit k=false:=Nat.testBit_lt_two_pow (Nat.lt_of_lt_of_le hm (Nat.pow_le_pow_right (by omega) QW))
       rw[this]at hk;cases hk
      omega
     generalize Aw (Z6 m) 63=M at *;have EJ:aK (fun s:Int×Int=>oL x kind (m:Int) M s.1 s.2) (0,0)=some ((BJ x m).length:Int):=by
      rw[Tc (B:=fun s:Int×Int=>oL x kind (m:Int) M s.1 s.2) (l:=M) (by omega) (fun s a=>(.inl (s+((gN x a).length:Int)):Int⊕Int)) id (fun i s=>0≤s∧s≤2*i) (fun s i a h hi=>⟨by
       obtain⟨q0,q1⟩:=tZ a (List.mem_of_getElem? h);have hl:=(List.getElem?_eq_some_iff.1 h).1;have hv:=u0 (x:=x) (o:=a);show oL x kind (m:Int) M s i=_;unfold oL;rw[cB h,Ez hx q0 q1,ai,gP h (by omega)]
       unfold aC;rw[ig (by omega) (by omega)],fun s' h'=>by
       cases h';have hv:=u0 (x:=x) (o:=a);omega⟩) (fun s _=>by
       show oL x kind (m:Int) M s M.length=_;unfold oL;rw[bW];rfl) ⟨by omega,by omega⟩,QdB,QiP]
      unfold BJ;simp
     rw[bY EJ];obtain⟨ty,hT⟩:=tyI hf ht;have YZ:=hT.rest;have Uq:=hT.XV;rw[hT.di,ai];have hz:aW.mk x kind (m:Int) ((BJ x m).length:Int) (al.mk 0 0 0 (ay.mk 0 0 [] [])) false=IC x kind m ((BJ x m).length:Int) none:=rfl;rw[hz];have D0:oN (IC x kind m ((BJ x m).length:Int) none) ty.bm 0=some (EL (EL [] (aF.mk ty.bm 0)) (aF.mk (ty.bm+ty.de) 0),IC x kind m ((BJ x m).length:Int) none):=
      OY (L:=[]) hT Xs Qbm (Nat.zero_le _) (d:=ty.bm) (e:=0) (by omega)
     rw[D0,ai];have k1:=EM (L:=[]) (a:=aF.mk ty.bm 0);have k2:=EM (L:=EL [] (aF.mk ty.bm 0)) (a:=aF.mk (ty.bm+ty.de) 0);obtain⟨f,hfe,s',rfl,hb⟩:=Ss hf hk ht.1 hT hm sU (l:=[]) (s:=none) (aE:=ty.aE) (L:=EL (EL [] (aF.mk ty.bm 0)) (aF.mk (ty.bm+ty.de) 0)) SU (fun v h=>by cases h) (by unfold sU;omega) (fun k h=>by cases h)
      (by simp only [List.length_nil] at k1 ⊢; omega) (fun a ha=>by
       rw[tU,tU]at ha;rcases ha with(ha|rfl)|rfl
       ·cases ha
       ·exact⟨by simp only;omega,by simp only;omega,by simp only;omega,by simp only;omega⟩
       ·exact⟨by simp only;omega,by simp only;omega,by simp only;omega,by simp only;omega⟩)
      (fun w hw _=>⟨rfl,fun q hq mA c=>by
       have hq0:q=[]:=List.eq_nil_of_length_eq_zero hq;subst hq0;have hlb:pL x.bG ty (bh x (rW (bK kind) w)) 0 []=uA ty 0:=rfl;rw[hlb,tU,tU];unfold uA;have hmx:max ty.bm 0=ty.bm:=by omega
       rw[hmx];cases c with
       |false =>
        refine .inl (.inr ?_);unfold jh uY;simp
       |true =>
        refine .inr ?_
        unfold jh uY;simp⟩)
     show aS (kR sU (IC x kind m ((BJ x m).length:Int) none) [] ty.aE _) _=_;rw[hfe,ai,←W9 (s:=s') (by rw[QG];exact hb)]
     cases s' <;> rfl
    ·rw[bl (by simpa using he0)]
     have WO:Zc x (bK kind) m=none:=by
      refine(W9 (s:=none) (DV.none fun q hq=>?_)).symm
      rw[QG]at hq;obtain⟨t,hv,_⟩:=hq;exact he0 (vb _ (Pr hf (Qdo hk) hv) hv.2.2)
     rw[WO];rfl
   ·rw[bl (by simp;omega),if_neg (by omega)]
    rfl
  ·rw[bl (by simp [aC];omega),if_neg (by omega)]
   rfl
 ·have QZ:¬(0≤(bK kind).aR∧(bK kind).aR<x.types.length):=ht;rw[bl (by simp [aC];omega),if_neg (fun h=>QZ h.1)]
  rfl
def itQ(a:Int):Nat→Int
 |0=>a
 |k+1=>uw .i64 (itQ a k) 2
theorem Qcx(hm:m<9223372036854775808):∀k,itQ (m:Int) k=((m / 2 ^ k:Nat):Int)
 |0=>by simp [itQ]
 |k+1=>by
  unfold itQ;rw[Qcx hm k];have hd2:=Nat.div_le_self m (2 ^ (k+1));have e2:((m / 2 ^ k:Nat):Int).tdiv 2=((m / 2 ^ (k+1):Nat):Int):=by
   rw[Int.tdiv_eq_ediv_of_nonneg (Int.natCast_nonneg _),Nat.pow_succ,←Nat.div_div_eq_div_mul];rfl
  generalize m / 2 ^ (k+1)=q at hd2 e2;rw[Qg3 (by rw[e2];omega) (by rw[e2];omega),e2]
theorem YB(hf:u5 x){ba:Int}(hs:wh ba):qV x ba=some (decide (0<ba∧ba<((2 ^ x.ah.length:Nat):Int))):=by
 have h3:=hf.few;unfold qV;have hl:aK (fun s:Int×Int=>gk x ba s.1 s.2) (ba,0)=some (itQ ba x.ah.length):=dj x.ah.length (fun k=>(itQ ba k,(k:Int))) (B:=fun s:Int×Int=>gk x ba s.1 s.2) (by omega) (fun k hk=>by
  show gk x ba (itQ ba k) (k:Int)=_;unfold gk;rw[bl (by simp [aC];omega),inc hk (by omega)]
  simp [itQ]) (by
  show gk x ba (itQ ba x.ah.length) (x.ah.length:Int)=_;unfold gk;rw[a_ (by simp [aC])])
 rw[bY hl];congr 1;rw[Bool.eq_iff_iff,Bool.and_eq_true,qi,pJ,decide_eq_true_iff];by_cases hp:0<ba
 ·obtain⟨m,rfl⟩:∃m:Nat,ba=m:=⟨ba.toNat,by omega⟩
  rw[Qcx (by have:=hs.2;omega)]
  have h2:=Nat.two_pow_pos x.ah.length;constructor
  ·rintro⟨_,h⟩;have:m / 2 ^ x.ah.length=0:=by omega
   rcases(Nat.div_eq_zero_iff).1 this with h'|h' <;> omega
  ·rintro⟨h,h'⟩;refine⟨h,?_⟩;rw[Nat.div_eq_of_lt (by omega)]
   rfl
 ·omega
theorem Uz(hf:u5 x)(hk:wh kind){ba:Int}(hs:wh ba):tB x kind ba=some (EA x (bK kind) ba):=by
 have h8:=Qel hf;unfold tB EA;rw[YB hf hs,ai];by_cases ht:0≤kind∧kind<x.types.length
 ·have QZ:0≤(bK kind).aR∧(bK kind).aR<x.types.length:=ht;rw[a_ (by simp [aC];omega)]
  by_cases hp:0<ba∧ba<((2 ^ x.ah.length:Nat):Int)
  ·rw[bl (decide_eq_true hp),if_pos ⟨QZ,hp⟩];obtain⟨m,rfl⟩:∃m:Nat,ba=m:=⟨ba.toNat,by omega⟩
   rw[Int.toNat_natCast];obtain⟨f,hfe,s',rfl,hb⟩:=Rf hf hk (show m<1024 by omega) sU (l:=[]) (s:=none) SU (by unfold sU;omega) (fun k h=>by cases h)
   have hz:yu x (al.mk kind (m:Int) 0 (ay.mk 0 0 [] [])) false []=ke sU x (G_ kind m none).1 (G_ kind m none).2 []:=rfl;rw[hz,hfe,ai,←W9 (s:=s') (by rw[QG];exact hb)]
   cases s' <;> rfl
  ·rw[a_ (decide_eq_false hp),if_neg fun h=>hp h.2]
   rfl
 ·have QZ:¬(0≤(bK kind).aR∧(bK kind).aR<x.types.length):=ht;rw[bl (by simp [aC];omega),if_neg (fun h=>QZ h.1)]
  rfl
end
section
variable {x : ae} {b r : ay} {l t : List ab} {m n : Nat} {v : ab} {s : Option Ky} {kind ba : Int} {a c : al}
theorem Qef{k:Ky}(h:Zc x b m=some k):CB x b m k:=by
 unfold Zc at h;split at h
 ·rename_i he;exact(he.choose_spec.1 k h).resolve_left fun h=>by cases h
 ·cases h
theorem QeG{k:Ky}(h:CB x b m k):∃t,k.2=b.ar++t∧(b.aP.length>b.ar.length→t=[])∧At x b m k.2∧k=NB x b k.2:=by
 unfold CB at h;split at h
 ·rename_i hgt;obtain⟨h1,h2⟩:=h;have e:k.2=b.ar:=by rw[h2];rfl
  exact⟨[],by rw[e];simp,fun _=>rfl,by rw[e];exact h1,by rw[e];exact h2⟩
 ·rename_i hle;obtain⟨t,h1,h2⟩:=h;have e:k.2=b.ar++t:=by rw[h2];rfl
  exact⟨t,e,fun h=>absurd h hle,by rw[e];exact h1,by rw[e];exact h2⟩
structure Qe9 (c:al):Prop where
 ar:c.bH.ar.length≤1048576
 aP:c.bH.aP.length≤1048576
theorem Qdw(hf:u5 x)(hR:mM b)(hg:xx x b.ar):Qe9 (EA x b ba).1:=by
 unfold EA;split
 ·cases ho:Zc x b ba.toNat with
  |none=>exact⟨Nat.zero_le _,Nat.zero_le _⟩
  |some k =>
   obtain⟨t,_,_,h3,_⟩:=QeG (Qef ho);exact⟨h3.1,hR.aP⟩
 ·exact⟨Nat.zero_le _,Nat.zero_le _⟩
theorem Qmd(h:Qe9 c):tC c c=some true:=by
 have hr:=h.aP;have hv:=h.ar;unfold tC wH;rw[a_ (by simp),a_ (by simp)]
 have l1:=eh (B:=fun s=>ju c c s) hr (fun _=>false) (y:=(.inr false:Unit⊕Bool)) (N:=.inl ()) (fun i a e=>by
  show ju c c i=_;unfold ju;rw[cB e,bt e,ai,bl (by simp),gP e hr]
  rfl) (by
  show ju c c c.bH.aP.length=_;unfold ju;rw[bW])
 have l2:=eh (B:=fun s=>jr c.bH.ar c.bH.ar s) hv (fun _=>false) (y:=(.inr false:Unit⊕Bool)) (N:=.inl ()) (fun i a e=>by
  show jr c.bH.ar c.bH.ar i=_;unfold jr;rw[cB e,bt e,ai,bl (by simp),gP e hv]
  rfl) (by
  show jr c.bH.ar c.bH.ar c.bH.ar.length=_;unfold jr;rw[bW])
 simp only[List.any_eq_true,Bool.false_eq_true,and_false,exists_false,if_false]at l1 l2;rw[bY l1,en,bY l2,en,ai]
def Db(x:ae)(b:ay)(fit:Nat→Bool):Nat→List al
 |0=>[]
 |j+1=>Db x b fit j++if(fit (j+1)&&bP (EA x b ((j+1:Nat):Int)).2 0)=true then [(EA x b ((j+1:Nat):Int)).1]else []
theorem PH{fit:Nat→Bool}:∀j,(Db x b fit j).length≤j
 |0=>Nat.le_refl _
 |j+1=>by
  have:=PH (fit:=fit) j;unfold Db;rw[List.length_append];split <;> simp <;> omega
theorem UY(hf:u5 x)(hR:mM b)(hg:xx x b.ar){fit:Nat→Bool}:∀j,∀c∈Db x b fit j,Qe9 c
 |0,c,h=>by cases h
 |j+1,c,h=>by
  unfold Db at h;rcases List.mem_append.1 h with h|h
  ·exact UY hf hR hg j c h
  ·split at h
   ·rw[List.mem_singleton.1 h];exact Qdw hf hR hg
   ·cases h
theorem UZ(hf:u5 x){fit:Nat→Bool}{B:List al×Int→Option ((List al×Int)⊕(List al))}(L0:List al)(h0:L0.length≤1000)
  (ry:∀(j:Nat) (L:List al),j+1<2 ^ x.ah.length→L.length≤2000→B (L,((j+1:Nat):Int))=some (.inl (L++(if(fit (j+1)&&bP (EA x b ((j+1:Nat):Int)).2 0)=true then [(EA x b ((j+1:Nat):Int)).1]else []),((j+2:Nat):Int))))
  (xG:∀L:List al,B (L,((2 ^ x.ah.length:Nat):Int))=some (.inr L)):aK B (L0,1)=some (L0++Db x b fit (2 ^ x.ah.length-1)):=by
 have h8:=Qel hf;have h2:=Nat.two_pow_pos x.ah.length;have e0:(L0,(1:Int))=(fun j:Nat=>(L0++Db x b fit j,((j+1:Nat):Int))) 0:=by simp [Db]
 rw[e0];refine dj (2 ^ x.ah.length-1) (fun j:Nat=>(L0++Db x b fit j,((j+1:Nat):Int))) (by omega) (fun j hj=>?_) ?_
 ·have hl:=PH (x:=x) (b:=b) (fit:=fit) j;rw[ry j _ (by omega) (by rw[List.length_append];omega)]
  show some (Sum.inl (_,_))=some (Sum.inl (L0++(Db x b fit j++_),_));rw[List.append_assoc]
 ·rw[show 2 ^ x.ah.length-1+1=2 ^ x.ah.length by omega]
  exact xG _
def ru(x:ae):Nat→List al
 |0=>[]
 |k+1=>ru x k++Db x (bK (k:Int)) (fun _=>true) (2 ^ x.ah.length-1)
theorem IT(hf:u5 x):∀k,(ru x k).length≤7*k
 |0=>Nat.le_refl _
 |k+1=>by
  have h8:=Qel hf;have h1:=IT hf k;have h2:=PH (x:=x) (b:=bK (k:Int)) (fit:=fun _=>true) (2 ^ x.ah.length-1)
  unfold ru;rw[List.length_append];omega
theorem kI6{k:Nat}(h:k≤6):wh (k:Int):=⟨by omega,by omega⟩
theorem Yo(hf:u5 x):∀k,k≤6→∀c∈ru x k,Qe9 c
 |0,_,c,h=>by cases h
 |k+1,hk,c,h=>by
  unfold ru at h;rcases List.mem_append.1 h with h|h
  ·exact Yo hf k (by omega) c h
  ·exact UY hf (Qdo (kI6 (by omega))) SU _ c h
theorem okC{L:List al}(h:L.length≤1000000):e_ L.length 88:=cW (by omega)
theorem Ye(hf:u5 x):IX x=some (ru x x.types.length,0):=by
 have hx:=hf.ok;have h8:=Qel hf;have h6:=hx.types;have dN:=hx.ah;unfold IX;have hl:aK (fun s:List al×Int=>qA x s.1 s.2) ([],0)=some (ru x x.types.length):=dj x.types.length (fun k=>(ru x k,(k:Int))) (B:=fun s:List al×Int=>qA x s.1 s.2) (by omega) (fun k hk=>by
  have hlen:=IT hf k;show qA x (ru x k) (k:Int)=_;unfold qA;rw[bl (by simp [aC];omega),inc hk (by omega)]
  rw[bY (UZ (b:=bK (k:Int)) (fit:=fun _=>true) hf (B:=fun s:List al×Int=>sM x (ru x k) (k:Int) s.1 s.2) (ru x k) (by omega) (fun j L hj hL=>by
   show sM x (ru x k) (k:Int) L ((j+1:Nat):Int)=_;unfold sM;rw[ch (by unfold aC;omega),Qmj hx (by omega),bl (decide_eq_true hj),Wn hf (kI6 (by omega)),ai,ch (okC (by simp;omega)),ig (by omega) (by omega),zn,Bool.true_and]
   rw[show(((j+1:Nat):Int)+1)=((j+2:Nat):Int) by omega]
   split <;> simp) (fun L=>by
   show sM x (ru x k) (k:Int) L ((2 ^ x.ah.length:Nat):Int)=_;unfold sM;rw[ch (by unfold aC;omega),Qmj hx (Nat.two_pow_pos _),a_ (decide_eq_false (by omega))]))]
  rfl) (by
  show qA x (ru x x.types.length) (x.types.length:Int)=_;unfold qA;rw[a_ (by simp [aC])])
 rw[bY hl]
theorem O4(hf:u5 x):sa x=some (ru x x.types.length,0):=by
 have hx:=hf.ok;have h8:=Qel hf;have h3:=hf.few;have h6:=hx.types;have dN:=hx.ah;unfold sa;have Qp0:aK (fun s:Int×Int=>iW x s.1 s.2) (1,0)=some ((2 ^ x.ah.length:Nat):Int):=QgI hf (B:=fun s:Int×Int=>iW x s.1 s.2) (fun k a hk=>by
  show iW x a (k:Int)=_;unfold iW;rw[bl (by simp [aC];omega),inc hk (by omega)]
  have:m_ .i64 a 2=m_ .i64 2 a:=by unfold m_;rw[Int.mul_comm]
  rw[this]) (fun a=>by
  show iW x a (x.ah.length:Int)=_;unfold iW;rw[a_ (by simp [aC])])
 rw[bY Qp0];have hl:aK (fun s:List al×Int=>iX x ((2 ^ x.ah.length:Nat):Int) s.1 s.2) ([],0)=some (ru x x.types.length):=dj x.types.length (fun k=>(ru x k,(k:Int))) (B:=fun s:List al×Int=>iX x ((2 ^ x.ah.length:Nat):Int) s.1 s.2) (by omega) (fun k hk=>by
  have hlen:=IT hf k;show iX x ((2 ^ x.ah.length:Nat):Int) (ru x k) (k:Int)=_;unfold iX;rw[bl (by simp [aC];omega),inc hk (by omega)]
  rw[bY (UZ (b:=bK (k:Int)) (fit:=fun _=>true) hf (B:=fun s:List al×Int=>kj x ((2 ^ x.ah.length:Nat):Int) (ru x k) (k:Int) s.1 s.2) (ru x k) (by omega) (fun j L hj hL=>by
   show kj x ((2 ^ x.ah.length:Nat):Int) (ru x k) (k:Int) L ((j+1:Nat):Int)=_;unfold kj;rw[bl (by simp only[fS];exact Int.ofNat_lt.2 hj),Uz hf (kI6 (by omega)) ⟨by omega,by omega⟩,ai,ch (okC (by simp;omega)),ig (by omega) (by omega),zn,Bool.true_and]
   rw[show(((j+1:Nat):Int)+1)=((j+2:Nat):Int) by omega]
   split <;> simp) (fun L=>by
   show kj x ((2 ^ x.ah.length:Nat):Int) (ru x k) (k:Int) L ((2 ^ x.ah.length:Nat):Int)=_;unfold kj;rw[a_ (by simp)]))]
  rfl) (by
  show iX x ((2 ^ x.ah.length:Nat):Int) (ru x x.types.length) (x.types.length:Int)=_;unfold iX;rw[a_ (by simp [aC])])
 rw[bY hl]
end
end
end Go.Proofs.YtbilkblifgaflaaGreatDoor
