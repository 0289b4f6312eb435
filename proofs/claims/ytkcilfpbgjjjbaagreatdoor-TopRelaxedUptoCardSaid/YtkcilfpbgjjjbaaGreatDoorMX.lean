/- Part MX. -/
import Derived.Test.YtkcilfpbgjjjbaaGreatDoorMI
import Derived.Test.YtkcilfpbgjjjbaaGreatDoorMR
set_option linter.unusedSimpArgs false
set_option linter.unusedVariables false
set_option linter.unusedSectionVars false
namespace Go.Proofs.YtkcilfpbgjjjbaaGreatDoor
noncomputable section
def zM(a b:ab):Bool:=bh a.aP b.aP||(dk a.aP b.aP&&(!a.drop&&b.drop))
theorem Qv{a b:ab}:zM a b=true↔a.aP<b.aP\/(a.aP=b.aP/\a.drop=false/\b.drop=true):=by
 unfold zM;simp
theorem Xk{a:ab}:zM a a=false:=by
 rw[QfN];intro h;rw[Qv]at h;rcases h with h|⟨_,h1,h2⟩
 ·omega
 ·rw[h1]at h2;cases h2
theorem Qfh{a b c:ab}(h1:zM a b=true)(h2:zM b c=true):zM a c=true:=by
 rw[Qv]at *;rcases h1 with h1|⟨h1,h3,h4⟩ <;> rcases h2 with h2|⟨h2,h5,h6⟩
 ·exact .inl (by omega)
 ·exact .inl (by omega)
 ·exact .inl (by omega)
 ·rw[h4]at h5;cases h5
theorem QkC(a b:ab):a=b\/zM a b=true\/zM b a=true:=by
 rcases Int.lt_trichotomy a.aP b.aP with h|h|h
 ·exact .inr (.inl (Qv.2 (.inl h)))
 ·cases ha:a.drop <;> cases hb:b.drop
  ·exact .inl (by cases a;cases b;simp_all)
  ·exact .inr (.inl (Qv.2 (.inr ⟨h,ha,hb⟩)))
  ·exact .inr (.inr (Qv.2 (.inr ⟨h.symm,hb,ha⟩)))
  ·exact .inl (by cases a;cases b;simp_all)
 ·exact .inr (.inr (Qv.2 (.inl h)))
def A9:List ab->List ab->Bool
 | [],[]=>false
 | [],_ ::_=>true
 |_ ::_,[]=>false
 |a ::l,b ::m=>zM a b||(decide (a=b)&&A9 l m)
theorem Vm:∀{l:List ab},A9 l l=false
 | []=>rfl
 |a ::l=>by unfold A9;rw[Xk,Vm];simp
theorem Qs:∀{a b c:List ab},A9 a b=true->A9 b c=true->A9 a c=true
 | [],[],_,h,_=>by cases h
 |_ ::_,[],_,h,_=>by cases h
 | [],_ ::_,[],_,h=>by cases h
 | [],_ ::_,_ ::_,_,_=>rfl
 |_ ::_,_ ::_,[],_,h=>by cases h
 |x ::a,y ::b,z ::c,h1,h2=>by
  unfold A9 at *;simp only[QeZ,ma,QbB]at *;rcases h1 with h1|⟨rfl,h1⟩
  ·rcases h2 with h2|⟨rfl,h2⟩
   ·exact .inl (Qfh h1 h2)
   ·exact .inl h1
  ·rcases h2 with h2|⟨rfl,h2⟩
   ·exact .inl h2
   ·exact .inr ⟨rfl,Qs h1 h2⟩
theorem Vn:∀(a b:List ab),a=b\/A9 a b=true\/A9 b a=true
 | [],[]=>.inl rfl
 | [],_ ::_=>.inr (.inl rfl)
 |_ ::_,[]=>.inr (.inr rfl)
 |x ::a,y ::b=>by
  unfold A9;simp only[QeZ,ma,QbB];rcases QkC x y with rfl|h|h
  ·rcases Vn a b with rfl|h|h
   ·exact .inl rfl
   ·exact .inr (.inl (.inr ⟨rfl,h⟩))
   ·exact .inr (.inr (.inr ⟨rfl,h⟩))
  ·exact .inr (.inl (.inl h))
  ·exact .inr (.inr (.inl h))
abbrev Ky:=Int×List ab
def TY(k q:Ky):Prop:=k.1<q.1\/(k.1=q.1/\A9 k.2 q.2=true)
theorem RS{k:Ky}:¬TY k k:=by
 rintro(h|⟨_,h⟩)
 ·omega
 ·rw[Vm]at h;cases h
theorem Vk{a b c:Ky}(h1:TY a b)(h2:TY b c):TY a c:=by
 rcases h1 with h1|⟨h1,h3⟩ <;> rcases h2 with h2|⟨h2,h4⟩
 ·exact .inl (by omega)
 ·exact .inl (by omega)
 ·exact .inl (by omega)
 ·exact .inr ⟨by omega,Qs h3 h4⟩
theorem QdC(a b:Ky):a=b\/TY a b\/TY b a:=by
 rcases Int.lt_trichotomy a.1 b.1 with h|h|h
 ·exact .inr (.inl (.inl h))
 ·rcases Vn a.2 b.2 with h'|h'|h'
  ·exact .inl (Prod.ext h h')
  ·exact .inr (.inl (.inr ⟨h,h'⟩))
  ·exact .inr (.inr (.inr ⟨h.symm,h'⟩))
 ·exact .inr (.inr (.inl h))
theorem Qe8{a b c:Ky}(h1:¬TY a b)(h2:¬TY b c):¬TY a c:=λh=>by
 rcases QdC b c with rfl|h3|h3
 ·exact h1 h
 ·exact h2 h3
 ·exact h1 (Vk h h3)
def K7(S:Ky->Prop)(s t:O Ky):Prop:=(∀k,t=some k->s=some k\/S k)/\(∀k,(s=some k\/S k)->∃k',t=some k'/\¬TY k k')
theorem K7.none{S:Ky->Prop}{s:O Ky}(h:∀k,¬S k):K7 S s s:=
 ⟨λk e=>.inl e,λk e=>e.elim (λe=>⟨k,e,RS⟩) λe=>absurd e (h k)⟩
theorem K7.comp{S T:Ky->Prop}{s t u:O Ky}(h1:K7 S s t)(h2:K7 T t u):K7 (λk=>S k\/T k) s u:=by
 refine⟨λk e=>?_,λk e=>?_⟩
 ·rcases h2.1 k e with e|e
  ·rcases h1.1 k e with e|e
   ·exact .inl e
   ·exact .inr (.inl e)
  ·exact .inr (.inr e)
 ·have go:(s=some k\/S k)->∃k',u=some k'/\¬TY k k':=λe=>by
   obtain⟨a,ha,hl⟩:=h1.2 k e;obtain⟨b,hb,hm⟩:=h2.2 a (.inl ha);exact⟨b,hb,Qe8 hl hm⟩
  rcases e with e|e|e
  ·exact go (.inl e)
  ·exact go (.inr e)
  ·exact h2.2 k (.inr e)
theorem K7.congr{S T:Ky->Prop}{s t:O Ky}(h:K7 S s t)(he:∀k,S k↔T k):K7 T s t:=
 ⟨λk e=>(h.1 k e).imp id (he k).1,λk e=>h.2 k (e.imp id (he k).2)⟩
theorem K7.uniq{S:Ky->Prop}{s t u:O Ky}(h1:K7 S s t)(h2:K7 S s u):t=u:=by
 cases t with
 |none =>
  cases u with
  |none=>rfl
  |some k=>obtain⟨k',e,_⟩:=h1.2 k (h2.1 k rfl);cases e
 |some k =>
  obtain⟨k',e,h3⟩:=h2.2 k (h1.1 k rfl);obtain⟨k'',e',h4⟩:=h1.2 k' (h2.1 k' e);cases e';rcases QdC k k' with rfl|h|h
  ·exact e.symm
  ·exact absurd h h3
  ·exact absurd h h4
theorem K7.one{S:Ky->Prop}{k:Ky}(hS:∀q,S q↔q=k){s t:O Ky}(h:(t=some k/\∀q,s=some q->¬TY q k)\/(t=s/\∃q,s=some q/\¬TY k q)):K7 S s t:=by
 rcases h with⟨rfl,h⟩|⟨rfl,q,rfl,h⟩
 ·refine⟨λq e=>.inr ((hS q).2 (QaL e).symm),λq e=>⟨k,rfl,?_⟩⟩
  rcases e with e|e
  ·exact h q e
  ·rw[(hS q).1 e];exact RS
 ·refine⟨λq e=>.inl e,λq' e=>?_⟩
  rcases e with e|e
  ·exact⟨q',e,RS⟩
  ·rw[(hS q').1 e];exact⟨q,rfl,h⟩
theorem K7.more{α:Type}{T:α->Ky->Prop}{l:List α}{i:Nat}{a:α}{s t u:O Ky}(h:K7 (λk=>∃b∈l.take i,T b k) s t)(ha:l[i]?=some a)(h2:K7 (T a) t u):K7 (λk=>∃b∈l.take (i+1),T b k) s u:=by
 refine(h.comp h2).congr λk=>?_
 rw[take_one ha];constructor
 ·rintro(⟨b,hb,h⟩|h)
  ·exact⟨b,Qf9 _ hb,h⟩
  ·exact⟨a,by simp,h⟩
 ·rintro⟨b,hb,h⟩;rcases QaI.1 hb with hb|hb
  ·exact .inl ⟨b,hb,h⟩
  ·rw[Qaz.1 hb]at h;exact .inr h
def IG(v:ab):List ab->List ab
 | []=>[]
 |w ::r=>if w=v then []else w ::IG v r
def Qcc(x:ae)(l:List ab)(o:Int):Bool:=x.before.all λp=>!dk p.x1 o||(gv x p.x0).all λw=>l.any (o7 w)
def D4(x:ae)(l:List ab)(v:ab):Bool:=!l.any (o7 v)&&((IG v (gv x v.aP)).all (λw=>l.any (o7 w))&&Qcc x l v.aP)
def L6(x:ae)(i:Nat):Bool:=match x.ai[i]? with
 |some o=>o.off
 |none=>true
def sE(x:ae)(m:Nat)(l:List ab):Nat->List ab
 |0=>[]
 |n+1=>sE x m l n++if(m.testBit n&&!L6 x n)=true then(gv x (n:Int)).filter (D4 x l)else []
def Ls(x:ae)(m:Nat)(l:List ab):Nat->List ab
 |0=>[]
 |n+1=>Ls x m l n++if m.testBit n=true then(gv x (n:Int)).filter (λv=>!l.any (o7 v))else []
structure Ee (x:ae) (l:List ab):Prop where
 nodup:l.Nodup
 W_:∀v∈l,0<=v.aP/\v.aP<x.ai.length
section
variable {x : ae} {l t : List ab} {m : Nat} {v w : ab}
theorem s_{o:Int}(h:v∈gv x o):v.aP=o:=by
 unfold gv at h;split at h
 ·rcases QaI.1 h with h|h <;>(split at h <;> simp at h;rw[h])
 ·cases h
theorem QcC{o:Int}:(gv x o).Pairwise λa b=>zM a b=true:=by
 unfold gv;split
 ·split <;> split <;> simp [zM]
 ·exact List.Pairwise.nil
theorem Pg{n:Nat}:v∈sE x m l n↔∃i,i<n/\m.testBit i=true/\L6 x i=false/\v∈gv x (i:Int)/\D4 x l v=true:=by
 induction n with
 |zero=>simp [sE]
 |succ n ih =>
  unfold sE;rw[QaI,ih];constructor
  ·rintro(⟨i,h1,h2⟩|h)
   ·exact⟨i,by omega,h2⟩
   ·split at h
    ·rename_i hb;simp only[ma,QbD]at hb;obtain⟨h1,h2⟩:=Qf2.1 h;exact⟨n,by omega,hb.1,hb.2,h1,h2⟩
    ·cases h
  ·rintro⟨i,h1,h2,h3,h4,h5⟩;rcases Qjh (Nat.le_of_lt_succ h1)with h|rfl
   ·exact .inl ⟨i,h,h2,h3,h4,h5⟩
   ·refine .inr ?_
    rw[if_pos (by rw[h2,h3];rfl)]
    exact Qf2.2 ⟨h4,h5⟩
theorem Qiw:(!l.any (o7 v))=true↔v ∉ l:=by rw[QbD,QfN,Ne,GI]
theorem Vw{n:Nat}:v∈Ls x m l n↔∃i,i<n/\m.testBit i=true/\v∈gv x (i:Int)/\(v∈l->False):=by
 induction n with
 |zero=>simp [Ls]
 |succ n ih =>
  unfold Ls;rw[QaI,ih];constructor
  ·rintro(⟨i,h1,h2⟩|h)
   ·exact⟨i,by omega,h2⟩
   ·split at h
    ·rename_i hb;obtain⟨h1,h2⟩:=Qf2.1 h;exact⟨n,by omega,hb,h1,Qiw.1 h2⟩
    ·cases h
  ·rintro⟨i,h1,h2,h3,h4⟩;rcases Qjh (Nat.le_of_lt_succ h1)with h|rfl
   ·exact .inl ⟨i,h,h2,h3,h4⟩
   ·refine .inr ?_
    rw[if_pos h2];exact Qf2.2 ⟨h3,Qiw.2 h4⟩
theorem Oa:∀n,(Ls x m l n).Pairwise λa b=>zM a b=true
 |0=>List.Pairwise.nil
 |n+1=>by
  unfold Ls;rw[List.pairwise_append];refine⟨Oa n,?_,λa ha b hb=>?_⟩
  ·split
   ·exact QcC.sublist List.filter_sublist
   ·exact List.Pairwise.nil
  ·obtain⟨i,h1,_,h2,_⟩:=Vw.1 ha;split at hb
   ·have h3:=s_ h2;have h4:=s_ (Qf2.1 hb).1;exact Qv.2 (.inl (by omega))
   ·cases hb
theorem Qcd(h:D4 x l v=true):v ∉ l:=by
 unfold D4 at h;simp only[ma,QbD]at h;intro hv;rw[GI.2 hv]at h;cases h.1
theorem Ee.add(h:Ee x l)(hv:v ∉ l)(h0:0<=v.aP/\v.aP<x.ai.length):Ee x (l++[v]):=by
 refine⟨List.nodup_append.2 ⟨h.nodup,by simp,λa ha b hb=>?_⟩,λw hw=>?_⟩
 ·rw[Qaz.1 hb];exact λe=>hv (e▸ha)
 ·rcases QaI.1 hw with hw|hw
  ·exact h.W_ w hw
  ·rw[Qaz.1 hw];exact h0
theorem Qfm(h:Ee x l)(hv:v∈sE x m l x.ai.length):Ee x (l++[v]):=by
 obtain⟨i,h1,_,_,h2,h3⟩:=Pg.1 hv;have:=s_ h2;exact h.add (Qcd h3) (by omega)
theorem Ee.len(h:Ee x l):l.length<=2*x.ai.length:=by
 have hm:(l.map λv:ab=>2*v.aP.toNat+(if v.drop=true then 1 else 0)).Nodup:=by
  unfold List.Nodup;rw[List.pairwise_map];refine h.nodup.imp_of_mem λ{a b} ha hb lN he=>lN ?_
  have h1:=h.W_ a ha;have h2:=h.W_ b hb;cases a with
  |mk ao ad =>
   cases b with
   |mk bo bd =>
    simp only at h1 h2 he;have hd:ad=bd/\ao=bo:=by
     cases ad <;> cases bd <;> simp at he ⊢ <;> omega
    rw[hd.1,hd.2]
 have:=NI (2*x.ai.length) _ hm λa ha=>by
  obtain⟨v,hv,rfl⟩:=QdX.1 ha;have h1:=h.W_ v hv;split <;> omega
 simpa using this
theorem kg.Es(h:kg x l):Ee x l:=⟨h.nodup,λv hv=>rG h.W_ hv⟩
theorem kg.all(h:kg x l){o:Int}(ho:dc l o=true)(hw:w∈gv x o):w∈l:=by
 obtain⟨v,hv,rfl⟩:=rD.1 ho;have hp:=h.pair v hv;unfold wa at hp;rw[ma]at hp;have hr:=hp.2;cases G8:gv x v.aP with
 |nil=>rw[G8]at hw;cases hw
 |cons a r =>
  rw[G8]at hr hw;cases r with
  |nil =>
   simp only[KH,gX]at hr;rw[Qaz.1 hw];exact S3.1 hr
  |cons b r =>
   obtain⟨rfl,_⟩:=TO G8;simp only[KH,gX,ma,ew]at hr;rcases Qbt.1 hw with rfl|hw
   ·exact S3.1 hr.1
   ·rw[Qaz.1 hw];exact S3.1 (by omega)
theorem kg.own(h:kg x l)(hv:v∈l):v∈gv x v.aP:=by
 have hp:=h.pair v hv;unfold wa at hp;rw[ma]at hp;exact GI.1 hp.1
theorem Qns(h:(l++v ::t).Nodup):sq (o7 v) (l++v ::t)=(l.length:Int):=by
 have h0:=S3.2 (show v∈l++v ::t by simp)
 obtain⟨k,hk⟩:∃k:Nat,sq (o7 v) (l++v ::t)=k:=⟨(sq (o7 v) (l++v ::t)).toNat,by omega⟩
 obtain⟨h1,h2⟩:=DK hk;rw[hk];rcases Qkq k l.length with h3|h3|h3
 ·rw[Qdz h3]at h1;exact absurd rfl ((List.nodup_append.1 h).2.2 v (QaG h1) v (by simp))
 ·rw[h3]
 ·exact absurd (by rw[Qe3 (fa _)];simp) (h2 l.length h3)
theorem Qqk(h:sq (o7 w) (l++t)<(l.length:Int))(h0:0<=sq (o7 w) (l++t)):w∈l:=by
 obtain⟨k,hk⟩:∃k:Nat,sq (o7 w) (l++t)=k:=⟨(sq (o7 w) (l++t)).toNat,by omega⟩
 obtain⟨h1,_⟩:=DK hk;rw[Qdz (by omega)]at h1
 exact QaG h1
theorem kg.head(h:kg x (l++v ::t))(hw:w∈IG v (gv x v.aP)):w∈l:=by
 have hp:=h.pair v (by simp)
 unfold wa at hp;rw[ma]at hp;obtain⟨h1,hr⟩:=hp;have hv:=GI.1 h1;have hix:=Qns h.nodup;cases G8:gv x v.aP with
 |nil=>rw[G8]at hw;cases hw
 |cons a r =>
  rw[G8]at hr hw hv;cases r with
  |nil =>
   rw[IG,if_pos (Qaz.1 hv).symm]at hw;cases hw
  |cons b r =>
   obtain⟨rfl,lN⟩:=TO G8;by_cases ha:a=v
   ·rw[IG,if_pos ha]at hw;cases hw
   ·have hb:b=v:=by
     rcases Qbt.1 hv with h|h
     ·exact absurd h.symm ha
     ·exact(Qaz.1 h).symm
    rw[IG,if_neg ha,IG,if_pos hb]at hw;rw[Qaz.1 hw];simp only[KH,gX,ma,ew]at hr;rw[hb,hix]at hr;exact Qqk hr.2 hr.1
theorem Qez(h:kg x (l++v ::t)){p:aW}(hp:p∈x.before)(ho:p.x1=v.aP)(hw:w∈gv x p.x0):w∈l:=by
 have hb:dc (l++v ::t) p.x1=true:=rD.2 ⟨v,by simp,ho.symm⟩
 have h1:Ic (l++v ::t) p=false:=by simpa using QeP.1 h.before p hp
 unfold Ic at h1;rw[hb,Qe1]at h1;simp only[Bool.or_eq_false_iff,Bool.not_eq_false']at h1;obtain⟨h2,h3⟩:=h1;have hm:=h.all h2 hw;rcases QaI.1 hm with hm|hm
 ·exact hm
 ·exfalso;unfold Lm at h3;cases e:Np (LN p.x1) (l++v ::t)with
  |none =>
   have:=Nq e v (by simp)
   rw[zj.2 ho.symm]at this;cases this
  |some k =>
   rw[e]at h3;simp only at h3;have hk:k<=l.length:=Nat.le_of_not_lt λiq=>by
    have:=(xF e).2.2 l.length iq;rw[List.getElem_append_right (fa _)]at this;simp only[Qkh,List.getElem_cons_zero]at this;rw[zj.2 ho.symm]at this;cases this
   have:dc ((l++v ::t).drop k) p.x0=true:=rD.2 ⟨w,by rw[Qnm hk];exact QhL _ hm,s_ hw⟩
   rw[this]at h3;cases h3
theorem kg.ready(h:kg x (l++v ::t)):D4 x l v=true:=by
 unfold D4;have hn:v ∉ l:=λhv=>(List.nodup_append.1 h.nodup).2.2 v hv v (by simp) rfl
 have e1:l.any (o7 v)=false:=by rw[QfN,Ne,GI];exact hn
 rw[e1,Qlo,Qe1,ma,Qc8];refine⟨λw hw=>GI.2 (h.head hw),?_⟩
 unfold Qcc;rw[Qc8];intro p hp;by_cases ho:p.x1=v.aP
 ·rw[QeZ];exact .inr (Qc8.2 λw hw=>GI.2 (Qez h hp ho hw))
 ·rw[QeZ];exact .inl (by simpa using ho)
theorem QkH(h:kg x (l++v ::t))(hm:∀i:Nat,m.testBit i=dc (l++v ::t) (i:Int)):v∈sE x m l x.ai.length:=by
 have hv:v∈l++v ::t:=by simp
 have qc:=rG h.W_ hv;obtain⟨n,hn⟩:∃n:Nat,v.aP=n:=⟨v.aP.toNat,by omega⟩
 have AM:=QeP.1 h.off v hv;refine Pg.2 ⟨n,by omega,?_,?_,?_,h.ready⟩
 ·rw[hm,<-hn];exact rD.2 ⟨v,hv,rfl⟩
 ·unfold L7 at AM;unfold L6;rw[hn,QaC]at AM;rw[dr (show n<x.ai.length by omega)]at AM ⊢
  simpa using AM
 ·rw[<-hn];exact h.own hv
end
theorem Zx{α E:Type}{l:List α}(hl:l.length<=1048576)(p:α->Bool)(N:List α->E){B:List α×Int->O ((List α×Int)⊕E)}(s0:List α)
  (qc:∀(s:List α) (i:Nat) (a:α),l[i]?=some a->s.length<=s0.length+i->B (s,(i:Int))=some (.inl (if p a=true then s++[a]else s,(i:Int)+1)))
  (Bp:∀s,B (s,(l.length:Int))=some (.inr (N s))):aL B (s0,0)=some (N (s0++l.filter p)):=by
 rw[Ta (B:=B) hl (λs a=>.inl (if p a=true then s++[a]else s)) N (λi s=>s.length<=s0.length+i) (λs i a h hi=>⟨qc s i a h hi,λs' h'=>by
  cases h';split
  ·simp;omega
  ·omega⟩) (λs _=>Bp s) (fa _)]
 congr 1;have key:∀(l s:List α),IA (λs a=>(.inl (if p a=true then s++[a]else s):List α⊕E)) N s l=N (s++l.filter p):=by
  intro l;induction l with
  |nil=>intro s;simp [IA]
  |cons a r ih =>
   intro s;rw[U6 rfl,ih,Qkc];split <;> simp
 exact key l s0
section
variable {x : ae} {l : List ab} {m : Nat} {v : ab}
theorem Qkx{a:ab}:(dk a.aP v.aP&&(GL a.drop v.drop&&true))=o7 v a:=by
 rw[Qdg,Qq];cases v;cases a;simp
theorem QjN{r:List ab}:(!r.any (λa=>bh (sq (o7 a) l) 0))=r.all (λw=>l.any (o7 w)):=by
 rw[List.all_eq_not_any_not];congr 1;congr 1
 funext a
 rw[RV,sJ]
theorem Qdm:∀{r:List ab},(match Np (λa=>o7 v a||!l.any (o7 a)) r with
  |some k=>(match r[k]? with|some a=>if o7 v a=true then(.inl ():Unit⊕Bool)else .inr false|none=>.inl ())
  |none=>.inl ())=if(IG v r).all (λw=>l.any (o7 w))=true then .inl ()else .inr false
 | []=>rfl
 |a ::r=>by
  unfold Np IG;by_cases ha:o7 v a=true
  ·rw[if_pos (by rw[ha];rfl),if_pos (Qq.1 ha)]
   simp only[Qmc];rw[if_pos ha];rfl
  ·rw[if_neg (show ¬a=v from λh=>ha (Qq.2 h))]
   by_cases hl:l.any (o7 a)=true
   ·rw[if_neg (by rw[hl];simpa using ha),List.all_cons,hl,Qe1,<-Qdm (r:=r)]
    cases Np (λa=>o7 v a||!l.any (o7 a)) r <;> rfl
   ·rw[if_pos (by simp [hl])]
    simp only[Qmc];rw[if_neg ha,List.all_cons,if_neg (by simp [hl])]
theorem QiK(hx:dn x)(hl:l.length<=1048576)(h0:0<=v.aP)(h1:v.aP<x.ai.length):uH x l v=some (D4 x l v):=by
 unfold uH D4;rw[BJ hl,af,sJ];cases hv:l.any (o7 v)with
 |true=>rfl
 |false =>
  rw[dX,BA hx h0 h1,af,Qlo,Qe1];have h2:=uK (x:=x) (o:=v.aP);have l1:=Bw (B:=λs=>gR x l v (gv x v.aP) s) (l:=gv x v.aP) (by omega) (λa=>o7 v a||!l.any (o7 a)) (λk=>(match(gv x v.aP)[k]? with|some a=>if o7 v a=true then(.inl ():Unit⊕Bool)else .inr false|none=>.inl ())) (N:=.inl ()) (λi a h=>by
   show gR x l v (gv x v.aP) i=_;unfold gR;rw[cO h,Qkx,BJ hl,af,RV,sJ,ml h (by omega),h]
   cases hv:o7 v a with
   |true=>rw[if_pos (by rfl)];simp only[hv];rfl
   |false =>
    cases hq:l.any (o7 a)with
    |true=>rfl
    |false=>rw[if_pos (by rfl)];simp only[hv];rfl) (by
   show gR x l v (gv x v.aP) (gv x v.aP).length=_;unfold gR;rw[cG])
  have l1':aL (λs=>gR x l v (gv x v.aP) s) 0=some (if(IG v (gv x v.aP)).all (λw=>l.any (o7 w))=true then .inl ()else .inr false):=l1.trans (QaB some Qdm)
  rw[l1',af];by_cases hh:(IG v (gv x v.aP)).all (λw=>l.any (o7 w))=true
  ·rw[if_pos hh,c5,hh,Qe1];have hb:=hx.before;have l2:=fD (B:=λs=>jc x l v s) (l:=x.before) (by omega) (λp=>!(!dk p.x1 v.aP||(gv x p.x0).all λw=>l.any (o7 w))) (y:=(.inr false:Unit⊕Bool)) (N:=.inl ()) (λi p h=>by
    obtain⟨p0,p1,p2,p3,p4⟩:=hx.MQ p (QaG h);show jc x l v i=_;unfold jc;rw[cO h,ml h (by omega)]
    have lN:cp p.x1 v.aP=!dk p.x1 v.aP:=rfl;rw[lN];cases dk p.x1 v.aP with
    |false=>rfl
    |true =>
     rw[QfW,dX,BA hx p0 p1,af,QhE];have h3:=uK (x:=x) (o:=p.x0);have l3:=fD (B:=λs=>jd x l v i (gv x p.x0) s) (l:=gv x p.x0) (by omega) (λw=>bh (sq (o7 w) l) 0) (y:=(.inr false:Unit⊕Bool)) (N:=.inl ()) (λj w hw=>by
      show jd x l v i (gv x p.x0) j=_;unfold jd;rw[cO hw,BJ hl,af,ml hw (by omega),Ec]) (by
      show jd x l v i (gv x p.x0) (gv x p.x0).length=_;unfold jd;rw[cG])
     rw[cN l3,<-QjN];cases(gv x p.x0).any (λw=>bh (sq (o7 w) l) 0) <;> rfl) (by
    show jc x l v x.before.length=_;unfold jc;rw[cG])
   rw[cN l2];unfold Qcc;rw[List.all_eq_not_any_not];cases x.before.any (λp=>!(!dk p.x1 v.aP||(gv x p.x0).all λw=>l.any (o7 w))) <;> rfl
  ·rw[if_neg hh,iJ];rw[QfN.2 hh,Qln]
theorem Po:∀n,(sE x m l n).length<=2*n
 |0=>fa _
 |n+1=>by
  have h1:=Po n;unfold sE;rw[Qay];split
  ·have h2:=QmD (D4 x l) (gv x (n:Int));have h3:=uK (x:=x) (o:=(n:Int));omega
  ·simp;omega
theorem QjS{i:Nat}(hm:m<1024)(hi:i<=62):dk (MO .i64 (AZ .i64 (m:Int) (i:Int)) 1) 0=!m.testBit i:=by
 rw[QfD (by omega),show(1:Int)=((1:Nat):Int)from rfl]
 have hd:=Qf3 m (2 ^ i);rw[QgJ (by omega) (by omega),QmV,Ql6]
 generalize m / 2 ^ i=q;rw[Qdg,kp,QbD,QeQ];omega
theorem QjJ(hx:dn x)(hl:l.length<=1048576)(hm:m<1024):wk x (m:Int) l=some (sE x m l x.ai.length):=by
 have dO:=hx.ai;unfold wk;have this:aL (λq:List ab×Int=>iK x (m:Int) l q.1 q.2) ([],0)=some (sE x m l x.ai.length):=gQ x.ai.length (λk=>(sE x m l k,(k:Int))) (B:=λq:List ab×Int=>iK x (m:Int) l q.1 q.2) (e:=sE x m l x.ai.length) (by omega) (λk hk=>by
  obtain⟨o,ho⟩:∃o,x.ai[k]?=some o:=⟨_,dr hk⟩;show iK x (m:Int) l (sE x m l k) (k:Int)=_;have hlen:=Po (x:=x) (m:=m) (l:=l) k;unfold iK;rw[cO ho,aR (by simp;omega),eU (by omega),QjS hm (by omega),ml ho (by omega)]
  have AM:L6 x k=o.off:=by unfold L6;rw[ho]
  show _=some (Sum.inl (sE x m l k++(if(m.testBit k&&!L6 x k)=true then _ else _),((k+1:Nat):Int)))
  rw[AM];cases hb:m.testBit k with
  |false=>simp
  |true =>
   cases hf:o.off with
   |true=>simp
   |false =>
    rw[QfW,QhE,dX,BA hx (by omega) (by omega),af]
    have h2:=uK (x:=x) (o:=(k:Int));rw[cN (Zx (B:=λq:List ab×Int=>jT x (m:Int) l (k:Int) (gv x (k:Int)) q.1 q.2) (l:=gv x (k:Int)) (by omega) (D4 x l) id (sE x m l k) (λs i a h hs=>by
     have ha:=s_ (QaG h);show jT x (m:Int) l (k:Int) (gv x (k:Int)) s i=_;unfold jT;rw[cO h,QiK hx hl (by omega) (by omega),af,ml h (by omega),eU (eV (by have:=(pB.1 h).1;simp;omega)),Ec]
     split <;> rfl) (λs=>by
     show jT x (m:Int) l (k:Int) (gv x (k:Int)) s (gv x (k:Int)).length=_;unfold jT;rw[cG];rfl))]
    simp) (by
  show iK x (m:Int) l (sE x m l x.ai.length) (x.ai.length:Int)=_;unfold iK;rw[cG])
 rw[cN this]
end
def Wv(a b:Int):Int:=if a<b then -1 else if b<a then 1 else 0
def Qa5(a b:ab):Int:=if Wv a.aP b.aP≠0 then Wv a.aP b.aP else Wv (if a.drop=true then 1 else 0) (if b.drop=true then 1 else 0)
theorem Qc5(a b:Int):gw a b=some (Wv a b):=by
 unfold gw rz Wv;rw[af,af,show cp a a=false by simp,show cp b b=false by simp,dX,dX,Ec,Ec]
 simp only[ew,oH]
theorem Sr{a b:Int}:Wv a b=0↔a=b:=by unfold Wv;split <;>(try split) <;> omega
theorem Qc6{a b:Int}:Wv a b<0↔a<b:=by unfold Wv;split <;>(try split) <;> omega
theorem Qg6(a b:Int):Ak [a,b]=some (if a≠0 then a else b):=by
 unfold Ak;have g0:ko [a,b] 0=some (if a≠0 then .inr (.inr a)else .inl 1):=by
  unfold ko;rw[show br (bh 0 (ay [a,b])) (aQ (bn [a,b] 0) λx0=>br (cp x0 0) (some (.inr (.inr x0))) (some (.inl (aV .i64 0 1)))) (some (.inr (.inl ())))=br (cp a 0) (some (.inr (.inr a):Int⊕(Unit⊕Int))) (some (.inl 1))from rfl,Ec]
  simp only[uA]
 have g1:ko [a,b] 1=some (if b≠0 then .inr (.inr b)else .inl 2):=by
  unfold ko;rw[show br (bh 1 (ay [a,b])) (aQ (bn [a,b] 1) λx0=>br (cp x0 0) (some (.inr (.inr x0))) (some (.inl (aV .i64 1 1)))) (some (.inr (.inl ())))=br (cp b 0) (some (.inr (.inr b):Int⊕(Unit⊕Int))) (some (.inl 2))from rfl,Ec]
  simp only[uA]
 have g2:ko [a,b] 2=some (.inr (.inl ())):=rfl;have key:aL (λs=>ko [a,b] s) 0=some (if a≠0 then .inr a else if b≠0 then .inr b else .inl ()):=by
  refine Ar 3 (by decide) ?_
  simp only[sC];rw[g0];by_cases ha:a≠0
  ·rw[if_pos ha,if_pos ha]
  ·rw[if_neg ha,if_neg ha];simp only;rw[g1];by_cases hb:b≠0
   ·rw[if_pos hb,if_pos hb]
   ·rw[if_neg hb,if_neg hb];simp only;rw[g2]
 rw[cN key];by_cases ha:a≠0
 ·rw[if_pos ha,if_pos ha,iJ]
 ·rw[if_neg ha,if_neg ha];by_cases hb:b≠0
  ·rw[if_pos hb,iJ]
  ·rw[if_neg hb,c5];congr 1;omega
theorem QjY(a b:ab):rZ a b=some (Qa5 a b):=by
 have h1:∀v:ab,mc v=some (if v.drop=true then 1 else 0):=λv=>by unfold mc;rw[Ec]
 unfold rZ Qa5;rw[Qc5,af,h1,af,h1,af,Qc5,af,Qg6,af]
theorem Qg7{a b:ab}:Qa5 a b=0↔a=b:=by
 unfold Qa5;cases a;cases b;simp only[ne_eq,Sr,ab.mk.injEq];split
 ·rename_i h;rw[Sr];exact⟨λh'=>absurd h' h,λh'=>absurd h'.1 h⟩
 ·rename_i h;rw[Sr];rename_i d _ e;cases d <;> cases e <;> simp_all
theorem QjZ{a b:ab}:bh (Qa5 a b) 0=zM a b:=by
 rw[Qdg,ew,Qv];unfold Qa5;split
 ·rename_i h;rw[Qc6];rw[Ne,Sr]at h;exact⟨λh'=>.inl h',λh'=>h'.elim id λh'=>absurd h'.1 h⟩
 ·rename_i h;simp only[ne_eq,Sr,Classical.not_not]at h;rw[Qc6];cases a.drop <;> cases b.drop <;> simp <;> omega
theorem LP:∀{k:Nat} {a b:List ab},(∀j,j<k->∃u,a[j]?=some u/\b[j]?=some u)->A9 a b=A9 (a.drop k) (b.drop k)
 |0,_,_,_=>rfl
 |k+1,a,b,h=>by
  obtain⟨u,h1,h2⟩:=h 0 (by omega)
  cases a with
  |nil=>simp at h1
  |cons x a =>
   cases b with
   |nil=>simp at h2
   |cons y b =>
    simp at h1 h2;subst h1;subst h2;rw[A9,Xk,List.drop_succ_cons,List.drop_succ_cons,<-LP (k:=k) (a:=a) (b:=b) λj hj=>by simpa using h (j+1) (by omega)]
    simp
def Qhe(a b:List ab)(k:Nat):Bool:=match a[k]?,b[k]? with
 |some u,some w=>!decide (u=w)
 |some _,none=>true
 |_,_=>false
theorem Qc9{a b:List ab}{k:Nat}(h:k<a.length)(hd:Qhe a b k=false):∃u,a[k]?=some u/\b[k]?=some u:=by
 unfold Qhe at hd;rw[dr h]at hd ⊢;cases hb:b[k]? with
 |none=>rw[hb]at hd;cases hd
 |some w =>
  rw[hb]at hd;simp only[Bool.not_eq_false',QbB]at hd;exact⟨_,rfl,by rw[hd]⟩
theorem QjH{a b:List ab}(ha:a.length<=1048576)(hb:b.length<=1048576):wj a b=some (A9 a b):=by
 unfold wj cL;rcases Qcq (B:=λs=>bq a b s) (n:=a.length) ha (Qhe a b) (λk=>(.inr (match a[k]?,b[k]? with|some u,some w=>Qa5 u w|_,_=>1):Unit⊕Int)) (N:=.inl ()) (λi hi=>by
  have e:a[i]?=some a[i]:=dr hi;show bq a b i=_;unfold bq Qhe;rw[cO e,ml e ha,e];generalize a[i]=u at e;cases Fz:b[i]? with
  |none =>
   rw[bk (by simp only[gX,ay];have:=List.getElem?_eq_none_iff.1 Fz;omega)]
   rfl
  |some w =>
   rw[aR (by have:=(pB.1 Fz).1;simp [ay];omega),bB Fz,af,QjY,af,Ec]
   by_cases hq:u=w
   ·rw[if_neg (by simp only[uA,Classical.not_not,ne_eq];exact Qg7.2 hq),if_neg (by simp [hq])]
   ·rw[if_pos (by simp only[uA,ne_eq];exact λh=>hq (Qg7.1 h)),if_pos (by simp [hq])]) (by
  show bq a b a.length=_;unfold bq;rw[cG])with⟨k,h1,h2,h3,h4⟩|⟨h1,h4⟩
 ·rw[cN h4,iJ,af];rw[LP (k:=k) λj hj=>Qc9 (by omega) (h3 j hj)]
  unfold Qhe at h2;rw[Qfa h1];rw[dr h1]at h2 ⊢;cases Fz:b[k]? with
  |none =>
   rw[QiZ (List.getElem?_eq_none_iff.1 Fz)];rfl
  |some w =>
   obtain⟨g1,g2⟩:=pB.1 Fz;rw[Fz]at h2;simp only[QbD,QeQ]at h2;rw[Qfa g1,A9,g2];simp only;rw[QjZ,QbV h2,Qln,Bool.or_false]
 ·rw[cN h4,c5];rw[LP (k:=a.length) λj hj=>Qc9 hj (h1 j hj),Qjk,Ec,af]
  by_cases hl:a.length<b.length
  ·rw[if_pos (by simp [ay];omega),Qfa hl];rfl
  ·rw[if_neg (by simp [ay];omega),QiZ (by omega)];rfl
def rW(b:aD)(l:List ab):aD:=aD.mk b.bt b.aE b.aH l
def zO(x:ae)(r:aD):Int×Int:=(mW x r).getD (0,1)
def QiB(l:List ab)(m:Nat):Prop:=∀i:Nat,m.testBit i=dc l (i:Int)
def GV(x:ae)(b:aD)(m:Nat)(l:List ab):Prop:=l.length<=1048576/\(zO x (rW b l)).2=0/\QiB l m
def Yh(x:ae)(b:aD)(l:List ab):Ky:=((zO x (rW b l)).1,l)
def Il(x:ae)(b:aD)(m:Nat)(l:List ab)(k:Ky):Prop:=∃t,GV x b m (l++t)/\k=Yh x b (l++t)
def Qoc:aD:=aD.mk 0 0 [] []
def Qob:aM:=aM.mk 0 0 0 Qoc
def ON(b:aD)(m:Nat)(k:Ky):aM:=aM.mk b.bt (m:Int) k.1 (rW b k.2)
instance(k q:Ky):Decidable (TY k q):=inferInstanceAs (Decidable (_\/_))
def Wh(s:O Ky):Prop:=∀k,s=some k->k.2.length<=1048576
structure DC (x:ae):Prop where
 ok:dn x
 rr:x.ai.length<=3
section
variable {x : ae} {b r : aD} {l t : List ab} {m n : Nat} {v : ab} {s : O Ky}
theorem Ee.six(h:Ee x l)(hf:DC x):l.length<=6:=by
 have:=h.len;have:=hf.rr;omega
theorem XE(hx:dn x)(hR:vz r)(h9:Mu r):mW x r=some (zO x r)/\True:=by
 obtain⟨w,h1,h2⟩:=QaT hx hR h9;have:zO x r=w:=by unfold zO;rw[h1];rfl
 rw[this];exact⟨h1,h2⟩
theorem QiH(hx:dn x)(hR:vz r)(h9:Mu r)(h:(zO x r).2=0):(YU x r).2.2=0:=by
 obtain⟨e1,_⟩:=RC hx hR h9;obtain⟨p1,_⟩:=XE hx hR h9;unfold mW at p1;rw[e1,af]at p1;by_cases h0:(YU x r).2.2=0
 ·exact h0
 ·rw[bk (by simpa using h0)]at p1
  have:=QaL p1;rw[<-this]at h;exact h
theorem QnJ(hx:dn x)(hR:vz r)(h9:Mu r)(h:(zO x r).2=0):kg x r.ak:=by
 obtain⟨_,_,_,_,e5⟩:=RC hx hR h9;obtain⟨_,q,hE⟩:=e5 (QiH hx hR h9 h);exact RZ hE.seq
theorem QqH(hR:vz b)(hl:l.length<=8):vz (rW b l)/\Mu (rW b l):=by
 refine⟨⟨hR.bt,hR.aE,hR.aH,?_⟩,?_⟩
 ·show l.length<=_;omega
 ·unfold Mu;show ¬(9<l.length/\l.length<=20);omega
theorem QnI(hf:DC x)(hR:vz b)(hl:l.length<=1048576)(h:(zO x (rW b l)).2=0):kg x l:=by
 have hx:=hf.ok;by_cases h9:9<l.length/\l.length<=20
 ·exfalso;have hs:Ol x l≠0:=λh0=>by
   have:=(RZ h0).Es.six hf;omega
  have hp:mW x (rW b l)=some (0,if 0<=b.bt/\b.bt<x.types.length then Ol x l else 2):=by
   have fK:¬Ol x (rW b l).ak=0:=hs;unfold mW mV;by_cases ht:0<=b.bt/\b.bt<x.types.length
   ·have ht':0<=(rW b l).bt/\(rW b l).bt<x.types.length:=ht;rw[aR (by simp [ay];omega),Sa hx (show(rW b l).ak.length<=1048576 from hl),af,bk (by simpa using fK),af,bk (by simpa using fK),if_pos ht]
    rfl
   ·have ht':¬(0<=(rW b l).bt/\(rW b l).bt<x.types.length):=ht;rw[bk (by simp [ay];omega),af,bk (by decide),if_neg ht]
  unfold zO at h;rw[hp]at h;simp only[QbG]at h;split at h
  ·exact hs h
  ·cases h
 ·exact QnJ (r:=rW b l) hx ⟨hR.bt,hR.aE,hR.aH,hl⟩ h9 h
theorem Qeo{a c:aM}(ha:a.eG.ak.length<=1048576)(hc:c.eG.ak.length<=1048576):wZ a c=some (decide (TY (a.p_,a.eG.ak) (c.p_,c.eG.ak))):=by
 unfold wZ;rw[QjH ha hc,af,Ec];by_cases h:a.p_=c.p_
 ·rw[if_neg (by simpa using h)]
  congr 1;rw[Qdg,QbB];unfold TY;simp only;exact⟨λh'=>.inr ⟨h,h'⟩,λh'=>h'.elim (λh'=>by omega) λh'=>h'.2⟩
 ·rw[if_pos (by simpa using h)]
  congr 1;rw[Qdg,QbB,ew];unfold TY;simp only;exact⟨λh'=>.inl h',λh'=>h'.elim id λh'=>absurd h'.1 h⟩
theorem QeF(hv:∀t,GV x b m (l++t)->t=[])(k:Ky):(GV x b m l/\k=Yh x b l)↔Il x b m l k:=by
 constructor
 ·rintro⟨h1,h2⟩;exact⟨[],by rw[Qf1];exact h1,by rw[Qf1];exact h2⟩
 ·rintro⟨t,h1,h2⟩;have:=hv t h1;subst this;rw[Qf1]at h1 h2;exact⟨h1,h2⟩
theorem QeG{vs:List ab}(hv:∀t,GV x b m (l++t)->∃v t',t=v ::t'/\v∈vs)(k:Ky):(∃v∈vs,Il x b m (l++[v]) k)↔Il x b m l k:=by
 constructor
 ·rintro⟨v,_,t,h1,h2⟩;rw[Qds]at h1 h2;exact⟨[v]++t,h1,h2⟩
 ·rintro⟨t,h1,h2⟩;obtain⟨v,t',rfl,hm⟩:=hv t h1;exact⟨v,hm,t',by rw[Qds];exact h1,by rw[Qds];exact h2⟩
theorem Wh.bst{S:Ky->Prop}{s':O Ky}(hs:Wh s)(h:K7 S s s')(hS:∀k,S k->k.2.length<=1048576):Wh s':=λk e=>(h.1 k e).elim (hs k) (hS k)
theorem R6(hf:DC x)(hR:vz b)(h:GV x b m l):kg x l:=QnI hf hR h.1 h.2.1
theorem Qja(hf:DC x)(hR:vz b)(h:GV x b m (l++v ::t)):v∈sE x m l x.ai.length:=QkH (R6 hf hR h) h.2.2
end
section
variable {x : ae} {b r : aD} {l t : List ab} {m n : Nat} {v : ab} {s : O Ky}
theorem Yx(k:Ky)(h:Il x b m l k):k.2.length<=1048576:=by
 obtain⟨t,h1,rfl⟩:=h;exact h1.1
theorem Yy{vs:List ab}(k:Ky)(h:∃v∈vs,Il x b m (l++[v]) k):k.2.length<=1048576:=by
 obtain⟨v,_,h⟩:=h;exact Yx k h
end
def bK(kind:Int):aD:=aD.mk kind 0 [] []
section
variable {x : ae} {b r : aD} {l t : List ab} {m n : Nat} {v : ab} {s : O Ky} {kind : Int}
theorem Qmi(hk:w_ kind):vz (bK kind):=⟨hk,⟨by show(-9223372036854775808:Int)<=0;decide,by show(0:Int)<=9223372036854775807;decide⟩,QaD _,QaD _⟩
def wH(v a:aB):Bool:=dk v.ready a.ready&&(dk v.gL a.gL&&true)
theorem QlK{v a:aB}:wH v a=true↔a=v:=by
 unfold wH;cases v;cases a;simp;exact⟨λ⟨h1,h2⟩=>⟨h1.symm,h2.symm⟩,λ⟨h1,h2⟩=>⟨h1.symm,h2.symm⟩⟩
theorem QoX{L:List aB}{a:aB}:L.any (wH a)=true↔a∈L:=by
 rw[Qf0];exact⟨λ⟨c,h,h'⟩=>QlK.1 h'▸h,λh=>⟨a,h,QlK.2 rfl⟩⟩
theorem QdD{L:List aB}{a:aB}(hL:L.length<=1000000):oG L a=some (if L.any (wH a)=true then L else L++[a]):=by
 have:=Bw (l:=L) (by omega) (wH a) (λk=>(.inr (k:Int):Unit⊕Int)) (N:=.inl ()) (B:=λs=>cM L a s) (λi c h=>by
  show cM L a i=_;unfold cM;rw[cO h,ml h (by omega),Ec];rfl) (by
  show cM L a L.length=_;unfold cM;rw[cG])
 have e:eQ L a=some (sq (wH a) L):=by
  unfold eQ;rw[cN this];unfold sq;cases Np (wH a) L <;> rfl
 unfold oG fp;rw[e,af,af,sJ,eU (eV (by simp;omega)),Ec]
def Ew(L:List aB)(a:aB):List aB:=if L.any (wH a)=true then L else L++[a]
theorem tK{L:List aB}{a c:aB}:c∈Ew L a↔c∈L\/c=a:=by
 unfold Ew;split
 ·rename_i h;rw[QoX]at h;exact⟨λh'=>.inl h',λh'=>h'.elim id λe=>e▸h⟩
 ·simp
theorem Ey{L:List aB}{a:aB}:(Ew L a).length<=L.length+1:=by
 unfold Ew;split <;> simp
def StI(a:aB):Prop:=0<=a.ready/\a.ready<=12288/\0<=a.gL/\a.gL<=4096
end
theorem R4:∀{a b:List ab},a.Nodup->(∀v∈a,v∈b)->a.length<=b.length
 | [],_,_,_=>QaD _
 |v ::r,b,hn,hs=>by
  have hv:=hs v (Qbm ..);have QS:=Qjn.1 hn;have:=R4 (a:=r) (b:=b.erase v) QS.2 λw hw=>(List.mem_erase_of_ne λe:w=v=>QS.1 (e▸hw)).2 (hs w (QaK _ hw))
  rw[List.length_erase_of_mem hv]at this;have:=List.length_pos_of_mem hv;rw[QaA];omega
theorem Qk2{a b:List ab}(hn:a.Nodup)(hs:∀v∈a,v∈b)(hl:b.length<=a.length):∀v∈b,v∈a:=λv hv=>by
 refine QhJ λh=>?_
 have:=R4 (a:=v ::a) (b:=b) (Qjn.2 ⟨h,hn⟩) λw hw=>by
  rcases Qbt.1 hw with rfl|hw
  ·exact hv
  ·exact hs w hw
 rw[QaA]at this;omega
def jN(m:Nat):List ab:=((List.range 10).filter λi=>m.testBit i).map λi:Nat=>ab.mk (i:Int) false
theorem Nx{m:Nat}(hm:m<1024)(i:Nat):m.testBit i=dc (jN m) (i:Int):=by
 rw[Qdg,rD];constructor
 ·intro h;have hi:i<10:=Qk3 λRO=>by
   have:m.testBit i=false:=Qjt (Qby hm (QaE (by decide) (Qb2 (n:=2) (by omega) RO)))
   rw[this]at h;cases h
  exact⟨ab.mk (i:Int) false,QdX.2 ⟨i,Qf2.2 ⟨Qf4.2 hi,h⟩,rfl⟩,rfl⟩
 ·rintro⟨v,hv,he⟩;obtain⟨j,hj,rfl⟩:=QdX.1 hv;have:j=i:=Int.ofNat.inj he;rw[<-this];exact(Qf2.1 hj).2
theorem Xh{m:Nat}(hm:m<1024):GH (jN m) (m:Int):=⟨m,rfl,hm,Nx hm⟩
section
variable {x : ae} {b r : aD} {l t : List ab} {m n : Nat} {v : ab} {s : O Ky} {kind : Int}
def BQ(x:ae)(m:Nat):List ab:=Ls x m [] x.ai.length
theorem NC:v∈BQ x m↔∃i,i<x.ai.length/\m.testBit i=true/\v∈gv x (i:Int):=by
 unfold BQ;rw[Vw];simp
theorem QaW:(BQ x m).Nodup:=(Oa _).imp λ{a b} h e=>by subst e;rw[Xk]at h;cases h
theorem Qd7(h:kg x l)(ho:QiB l m):∀v,v∈l↔v∈BQ x m:=λv=>by
 rw[NC];constructor
 ·intro hv;have qc:=rG h.W_ hv;refine⟨v.aP.toNat,by omega,?_,?_⟩
  ·rw[ho,Qj8 qc.1];exact rD.2 ⟨v,hv,rfl⟩
  ·rw[Qj8 qc.1];exact h.own hv
 ·rintro⟨i,h1,h2,h3⟩;rw[ho]at h2;exact h.all h2 h3
theorem QkX(h:kg x l)(ho:QiB l m):l.length=(BQ x m).length:=Nat.le_antisymm (R4 h.nodup λv hv=>(Qd7 h ho v).1 hv) (R4 QaW λv hv=>(Qd7 h ho v).2 hv)
theorem Qla(hx:dn x){i:Nat}(hi:i<x.ai.length):∃v,v∈gv x (i:Int):=by
 have e:x.ai[i]?=some x.ai[i]:=dr hi;have hO:=hx.ord _ (QaH hi);unfold gv;rw[QaC,e];simp only;have h1:=hO.pick;have h2:=hO.drop;have h3:=hO.one;unfold Sc at h1 h2;by_cases hp:0<=x.ai[i].pick.place
 ·rw[if_pos hp];exact⟨_,Qf9 _ (Qbm ..)⟩
 ·rw[if_pos (show 0<=x.ai[i].drop.place by omega)]
  exact⟨_,QhL _ (Qbm ..)⟩
theorem Qhv(hx:dn x)(hm:m<2 ^ x.ai.length)(hg:Ee x l)(hs:∀v∈l,v∈BQ x m)(hl:l.length=(BQ x m).length):QiB l m:=λi=>by
 rw[Qdg,rD];constructor
 ·intro hb;have hi:i<x.ai.length:=Qk3 λRO=>by
   have:m.testBit i=false:=Qjt (Qby hm (Qb2 (by omega) RO))
   rw[this]at hb;cases hb
  obtain⟨v,hv⟩:=Qla hx hi;exact⟨v,Qk2 hg.nodup hs (by omega) v (NC.2 ⟨i,hi,hb,hv⟩),s_ hv⟩
 ·rintro⟨v,hv,he⟩;obtain⟨j,_,h2,h3⟩:=NC.1 (hs v hv);have:=s_ h3;have:j=i:=by omega
  rw[<-this];exact h2
theorem Wf(hx:dn x)(hm:m<2 ^ x.ai.length):post (oU x (m:Int)) λe=>∀l,kg x l->QiB l m->e=0:=by
 have dO:=hx.ai;have Zg:m<1024:=Qby hm (QaE (Qb2 (n:=2) (by omega) dO) (by decide))
 have tot:post (oU x (m:Int)) λ_=>True:=by
  have Qsf:=hx.dx;have Qpo:=hx.before;have hS:=Xh Zg;have hlen:=EM (l:=jN m) 63;have rF:∀i∈AX (jN m) 63,0<=i/\i<x.ai.length:=λi hi=>by
   obtain⟨k,rfl,_,hk⟩:=I3 hi;rw[<-Nx Zg]at hk;refine⟨by omega,?_⟩
   have:k<x.ai.length:=Qk3 λRO=>by
    have:m.testBit k=false:=Qjt (Qby hm (Qb2 (by omega) RO))
    rw[this]at hk;cases hk
   omega
  unfold oU;rw[aR (by simp),Fl hS,af]
  generalize AX (jN m) 63=M at *;rw[cN (fD (B:=λq=>eJ x (m:Int) M q) (l:=M) (by omega) (λi=>cT i (ay x.ai)) (y:=(.inr 2:Unit⊕Int)) (N:=.inl ()) (λi a hh=>by
   show eJ x (m:Int) M i=_;unfold eJ;rw[cO hh,ml hh (by omega),Ec]) (by
   show eJ x (m:Int) M M.length=_;unfold eJ;rw[cG]))]
  split
  ·exact aI.2 trivial
  rw[c5,cN (fD (B:=λq=>eK x (m:Int) M q) (l:=M) (by omega) (λi=>L6 x i.toNat) (y:=(.inr 9:Unit⊕Int)) (N:=.inl ()) (λi a hh=>by
   obtain⟨q0,q1⟩:=rF a (QaG hh);show eK x (m:Int) M i=_;unfold eK L6;rw[cO hh,Db q0 q1,af,ml hh (by omega),Ec,dr (by omega)]) (by
   show eK x (m:Int) M M.length=_;unfold eK;rw[cG]))]
  split
  ·exact aI.2 trivial
  rw[c5,cN (fD (B:=λq=>eM x (m:Int) M q) (l:=x.dx) (by omega) (wB (jN m)) (y:=(.inr 20:Unit⊕Int)) (N:=.inl ()) (λi a hh=>by
   obtain⟨p0,p1,p2,p3,p4⟩:=hx.QaZ a (QaG hh);show eM x (m:Int) M i=_;unfold eM wB;rw[cO hh,hS.Has p0 (by omega),af,hS.Has p2 (by omega),af,ml hh (by omega)]
   cases dc (jN m) a.x0 <;> cases dc (jN m) a.x1 <;> rfl) (by
   show eM x (m:Int) M x.dx.length=_;unfold eM;rw[cG]))]
  split
  ·exact aI.2 trivial
  rw[c5,cN (fD (B:=λq=>eN x (m:Int) M q) (l:=x.before) (by omega) (λa=>dc (jN m) a.x1&&!dc (jN m) a.x0) (y:=(.inr 21:Unit⊕Int)) (N:=.inl ()) (λi a hh=>by
   obtain⟨p0,p1,p2,p3,p4⟩:=hx.MQ a (QaG hh);show eN x (m:Int) M i=_;unfold eN;rw[cO hh,hS.Has p2 (by omega),af,hS.Has p0 (by omega),af,ml hh (by omega)]
   cases dc (jN m) a.x0 <;> cases dc (jN m) a.x1 <;> rfl) (by
   show eN x (m:Int) M x.before.length=_;unfold eN;rw[cG]))]
  split
  ·exact aI.2 trivial
  obtain⟨c,hc,f,rfl,hf⟩:=Qh hx;rw[c5,hc,af,cN (fD (B:=λq=>eO M (dR x.ai.length λi=>((f i:Nat):Int)) q) (l:=M) (by omega) (λi=>(f i.toNat).testBit i.toNat) (y:=(.inr 21:Unit⊕Int)) (N:=.inl ()) (λi a hh=>by
   obtain⟨q0,q1⟩:=rF a (QaG hh);obtain⟨k,rfl⟩:∃k:Nat,a=k:=⟨a.toNat,by omega⟩
   show eO M (dR x.ai.length λi=>((f i:Nat):Int)) i=_
   unfold eO;have iq:=hf.lt k;have QmY:iN ((f k:Nat):Int) (k:Int)=some ((f k).testBit k):=by
    have:=(Xh iq).Has (i:=(k:Int)) (by omega) (by omega)
    rw[this,<-Nx iq]
   rw[cO hh,Ki q0 q1,af,QaC,QmY,af,ml hh (by omega),Ec]) (by
   show eO M (dR x.ai.length λi=>((f i:Nat):Int)) M.length=_
   unfold eO;rw[cG]))]
  split <;> exact aI.2 trivial
 obtain⟨e,he,-⟩:=tot;refine⟨e,he,λl hq ho=>?_⟩
 have:=QaX hx hq (s:=(m:Int)) ⟨m,rfl,Zg,ho⟩;rw[he]at this;exact QaL this
end
def HQ(x:ae)(kind:Int)(m:Nat)(pV:Int)(s:O Ky):aT:=match s with
 |none=>aT.mk x kind (m:Int) pV Qob false
 |some k=>aT.mk x kind (m:Int) pV (ON (bK kind) m k) true
def Ib(x:ae)(ty:av)(aY:Int)(st:aS)(a:aB):Int×Int×Int:=goN x.bV ty.aJ aY st.place a.ready
def LH(x:ae)(ty:av)(aY:Int)(st:aS)(a:aB):Prop:=(Ib x ty aY st a).2.2=0/\a.gL+(Ib x ty aY st a).1-a.ready<=ty.eu/\(Ib x ty aY st a).1<=st.bI
def M5(x:ae)(ty:av)(aY:Int)(st:aS)(a:aB):Int:=max (Ib x ty aY st a).1 st.bA+st.dG
def Qcs(x:ae)(ty:av)(aY:Int)(st:aS)(a:aB):Int:=a.gL+(Ib x ty aY st a).1-a.ready
section
variable {x : ae} {b r : aD} {l t : List ab} {m n : Nat} {v : ab} {s : O Ky} {kind aY pV : Int} {ty : av} {st : aS}
theorem XT:(HQ x kind m pV s).x=x:=by unfold HQ;split <;> rfl
theorem Qcr:(HQ x kind m pV s).kind=kind:=by unfold HQ;split <;> rfl
theorem QnW:(HQ x kind m pV s).b9=m:=by unfold HQ;split <;> rfl
theorem QnX:(HQ x kind m pV s).pV=pV:=by unfold HQ;split <;> rfl
structure TyI (x:ae) (kind:Int) (ty:av):Prop where
 j7:bn x.types kind=some ty
 eu:1<=ty.eu/\ty.eu<=4096
 rest:0<=ty.bJ/\ty.bJ<=4096
 pL:0<=ty.bA/\ty.bA<=4096
theorem UE(hs:Tr st){a:Int}(h0:0<=a)(ha:a<=1048576):tR st a=some (if st.bI<a then(0,14)else(max a st.bA+st.dG,0)):=by
 have h1:=hs.VF;have h2:=hs.Ti;have h3:=hs.bI;have h4:=hs.QE;have h5:=hs.VU;unfold tR vg;rw[z7,GJ];simp only[oH];by_cases h:st.bI<a
 ·rw[if_pos (by omega),if_pos h,af,bk (by decide)]
 ·rw[if_neg (by omega),if_neg h,af]
  show br (cp 0 0) _ (some (aV .i64 (max a st.bA) st.dG,0))=_;rw[aR (by decide),dZ (by omega) (by omega)]
theorem NS{L:List aB}(hT:TyI x kind ty){s0:aT}(hx:s0.x=x)(hk:s0.kind=kind)(hL:L.length<=10000){d e:Int}(hd:0<=d/\d<=8192):
  lC s0 L d e=some (Ew (Ew L (aB.mk d e)) (aB.mk (d+ty.bJ) 0),s0):=by
 have h1:=hT.rest;have h2:=Ey (L:=L) (a:=aB.mk d e);unfold lC;rw[QdD (by omega),af,hx,hk,hT.j7,af,dZ (by omega) (by omega)]
 rw[show(if L.any (wH (aB.mk d e))=true then L else L++[aB.mk d e])=Ew L (aB.mk d e)from rfl,QdD (by omega),af]
 rfl
theorem QcE(hf:DC x)(hT:TyI x kind ty)(hs:Tr st){s0:aT}(hx:s0.x=x)(hk:s0.kind=kind){L:List aB}(hL:L.length<=1000)(hb:∀a∈L,StI a):
  post (qo s0 aY L st) λr=>r.2=s0/\r.1.length<=2*L.length/\(∀a∈r.1,StI a)/\
   ∀a∈L,LH x ty aY st a->aB.mk (M5 x ty aY st a) (Qcs x ty aY st a)∈r.1/\aB.mk (M5 x ty aY st a+ty.bJ) 0∈r.1:=by
 have hR:=hT.rest;have hD:=hT.eu;have h1:=hs.VF;have h2:=hs.Ti;have h3:=hs.bI;have h4:=hs.QE;have h5:=hs.VU;unfold qo;rw[hx,hk,hT.j7,af];refine bw (R:=λr:List aB×aT=>r.2=s0/\r.1.length<=2*L.length/\(∀a∈r.1,StI a)/\
   ∀a∈L,LH x ty aY st a->aB.mk (M5 x ty aY st a) (Qcs x ty aY st a)∈r.1/\aB.mk (M5 x ty aY st a+ty.bJ) 0∈r.1) ?_ λr h=>aI.2 h
 refine dP (λq:List aB×aT×Int=>∃i:Nat,q.2.1=s0/\q.2.2=(i:Int)/\i<=L.length/\q.1.length<=2*i/\(∀a∈q.1,StI a)/\
   ∀a∈L.take i,LH x ty aY st a->aB.mk (M5 x ty aY st a) (Qcs x ty aY st a)∈q.1/\aB.mk (M5 x ty aY st a+ty.bJ) 0∈q.1) (λq=>L.length-q.2.2.toNat) ⟨0,rfl,rfl,QaD _,fa _,(λa h=>by cases h),(λa h=>by cases h)⟩ (by simp;omega) ?_
 rintro⟨out,sx,_⟩ ⟨i,hsx,rfl,hi,hl,ir,qc⟩;obtain rfl:s0=sx:=hsx.symm;replace hl:out.length<=2*i:=hl;show post (mB aY L st ty out s0 (i:Int)) _;unfold mB;rcases sh i L.length with iq|RO
 ·have e:L[i]?=some L[i]:=dr iq;have rF:=QaH iq;generalize L[i]=a at e rF;obtain⟨a1,a2,a3,a4⟩:=hb a rF;have Qm1:QW a.ready:=⟨a1,by omega⟩
  have TX:=take_one e;have skip:¬LH x ty aY st a->post (some (Sum.inl (out,s0,(i:Int)+1):(List aB×aT×Int)⊕(List aB×aT))) λz=>(∀s',z=.inl s'->(∃i:Nat,s'.2.1=s0/\s'.2.2=(i:Int)/\i<=L.length/\s'.1.length<=2*i/\(∀a∈s'.1,StI a)/\
   ∀a∈L.take i,LH x ty aY st a->aB.mk (M5 x ty aY st a) (Qcs x ty aY st a)∈s'.1/\aB.mk (M5 x ty aY st a+ty.bJ) 0∈s'.1)/\L.length-s'.2.2.toNat<L.length-((i:Int)).toNat)/\∀e,z=.inr e->e.2=s0/\e.1.length<=2*L.length/\(∀a∈e.1,StI a)/\
   ∀a∈L,LH x ty aY st a->aB.mk (M5 x ty aY st a) (Qcs x ty aY st a)∈e.1/\aB.mk (M5 x ty aY st a+ty.bJ) 0∈e.1:=λhng=>by
   refine cZ ⟨⟨i+1,rfl,rfl,iq,by simp only;omega,ir,λc hc hg=>?_⟩,by simp;omega⟩
   rw[TX]at hc;rcases QaI.1 hc with hc|hc
   ·exact qc c hc hg
   ·rw[Qaz.1 hc]at hg;exact absurd hg hng
  rw[cO e,hx,go_eq hf.ok.bV _ _ _ Qm1,af,ml e (by omega)]
  have hA:goN x.bV ty.aJ aY st.place a.ready=Ib x ty aY st a:=rfl;rw[hA];refine bg (λh=>skip λhg=>?_) (λh=>?_)
  ·simp only[Yj,uA]at h;obtain⟨g1,g2,g3⟩:=hg;have AW:=AK hf.ok.bV Qm1 g1;rw[hA]at AW;rcases h with h|h
   ·exact h g1
   ·rw[dZ (by omega) (by omega),nd (by omega) (by omega),oH]at h
    omega
  ·simp only[Ja,vu]at h;have AW:=AK hf.ok.bV Qm1 (show(Ib x ty aY st a).2.2=0 by omega)
   rw[hA]at AW;have h6:=h.2;rw[dZ (by omega) (by omega),nd (by omega) (by omega),iu]at h6
   rw[UE hs (by omega) (by omega),af]
   by_cases hc:st.bI<(Ib x ty aY st a).1
   ·rw[if_pos hc,bk (by decide)]
    exact skip λhg=>by have:=hg.2.2;omega
   ·rw[if_neg hc]
    dsimp only
    rw[aR (by decide),dZ (by omega) (by omega),nd (by omega) (by omega),NS hT hx hk (by omega) (by omega),af]
    have k1:=Ey (L:=out) (a:=aB.mk (max (Ib x ty aY st a).1 st.bA+st.dG) (a.gL+(Ib x ty aY st a).1-a.ready));have k2:=Ey (L:=Ew out (aB.mk (max (Ib x ty aY st a).1 st.bA+st.dG) (a.gL+(Ib x ty aY st a).1-a.ready))) (a:=aB.mk (max (Ib x ty aY st a).1 st.bA+st.dG+ty.bJ) 0);refine cZ ⟨⟨i+1,rfl,rfl,iq,by simp only;omega,λc DH=>?_,λc DH hg=>?_⟩,by simp;omega⟩
    ·rw[tK,tK]at DH;rcases DH with(DH|rfl)|rfl
     ·exact ir c DH
     ·exact⟨by simp only;omega,by simp only;omega,by simp only;omega,by simp only;omega⟩
     ·exact⟨by simp only;omega,by simp only;omega,by simp only;omega,by simp only;omega⟩
    ·rw[tK,tK,tK,tK];rw[TX]at DH;rcases QaI.1 DH with DH|DH
     ·obtain⟨q1,q2⟩:=qc c DH hg;exact⟨.inl (.inl q1),.inl (.inl q2)⟩
     ·rw[Qaz.1 DH];exact⟨.inl (.inr rfl),.inr rfl⟩
 ·obtain rfl:i=L.length:=by omega
  rw[cG];refine dd ⟨rfl,hl,ir,?_⟩;rw[QbC]at qc;exact qc
theorem ZG{bV:aC}{aA:List aS}{aE:Int}{q:List Bool}(h:okB bV ty aA aE q):∀d k,d+k=q.length->okB bV ty aA aE (q.take k)
 |0,k,hk=>by rw[QeR (by omega)];exact h
 |d+1,k,hk=>by
  have h1:=ZG h d (k+1) (by omega)
  have e:q[k]?=some (q[k]'(by omega)):=dr _
  rw[take_one e]at h1;exact(tr.1 h1).1
def Qjx(x:ae)(kind:Int)(m:Nat)(ty:av)(l:List ab)(aY:Int)(L:List aB):Prop:=
 ∀w,GV x (bK kind) m w->(∃u,w=l++u)->aY=jy ty (aU x (rW (bK kind) w)) l.length/\
  ∀q:List Bool,q.length=l.length->okB x.bV ty (aU x (rW (bK kind) w)) 0 q->∀c,aB.mk (im ty (nm x.bV ty (aU x (rW (bK kind) w)) 0 q) c) (sr (nm x.bV ty (aU x (rW (bK kind) w)) 0 q) c)∈L
theorem QcB(hf:DC x)(hk:w_ kind)(h:GV x (bK kind) m l):kg x l/\vz (rW (bK kind) l)/\Mu (rW (bK kind) l)/\∃q,Qer x (rW (bK kind) l) (YU x (rW (bK kind) l)).1 q:=by
 have hR:=Qmi hk;have hq:=R6 hf hR h;have h6:=hq.Es.six hf;obtain⟨hR2,h9⟩:=QqH hR (show l.length<=8 by omega)
 obtain⟨_,q,hE⟩:=(RC hf.ok hR2 h9).2.2.2.2 (QiH hf.ok hR2 h9 h.2.1);exact⟨hq,hR2,h9,q,hE⟩
theorem QqS(hT:TyI x kind ty)(h0:0<=kind):bG x (rW (bK kind) l)=ty:=by
 have h:=hT.j7;unfold bn at h;rw[if_pos h0]at h;unfold bG;show x.types.getD kind.toNat Qen=ty;rw[Qbo,h];rfl
theorem Qi2{w:List ab}(h:q8 x v=some st)(hw:w=l++v ::t):(aU x (rW b w))[l.length]?=some st:=by
 subst hw;unfold aU;show((l++v ::t).map λv=>(q8 x v).getD Lv)[l.length]?=some st
 rw[Qc0,Qe3 (fa _),Qkh,Qmc];simp [h]
theorem Qhb(hf:DC x)(hk:w_ kind)(h0:0<=kind)(hT:TyI x kind ty)(hv:q8 x v=some st){L L':List aB}(hc:Qjx x kind m ty l aY L)
  (hn:∀a∈L,LH x ty aY st a->aB.mk (M5 x ty aY st a) (Qcs x ty aY st a)∈L'/\aB.mk (M5 x ty aY st a+ty.bJ) 0∈L'):Qjx x kind m ty (l++[v]) st.place L':=by
 rintro w hw ⟨u,hu⟩;rw[Qds,List.singleton_append]at hu;obtain⟨Qpy,Qm4⟩:=hc w hw ⟨v ::u,hu⟩;obtain⟨hq,hR2,h9,qE,hE⟩:=QcB hf hk hw;have ir:=Qi2 (b:=bK kind) hv hu;have hTr:=PX hf.ok hE.ZP;rw[QqS hT h0]at hTr;generalize aU x (rW (bK kind) w)=aA at *;have iq:l.length<aA.length:=(pB.1 ir).1;have hsk:c9 ty aA l.length=st:=by
  have:=Ou (t:=ty) iq;rw[ir]at this;exact(QaL this).symm
 refine⟨?_,λq hql y5 c=>?_⟩
 ·rw[Qay,QeU];show st.place=(aA.getD l.length Lv).place;rw[Qbo,ir];rfl
 ·rw[Qay,QeU]at hql;have eq:q[l.length]?=some (q[l.length]'(by omega)):=dr _
  generalize q[l.length]'(by omega)=d at eq
  have W7:q=q.take l.length++[d]:=by rw[<-take_one eq,QeR (by omega)]
  have yr:(q.take l.length).length=l.length:=by rw[Qdo];omega
  generalize q.take l.length=p at W7 yr;subst W7;obtain⟨g1,g2⟩:=tr.1 y5;have lR:=B7 y5;have rF:=Qm4 p yr g1 d;rw[yr]at g2 lR;generalize nm x.bV ty aA 0 p=lb at *;rw[lR];clear lR;unfold AG ZF at g2 ⊢;rw[hsk,<-Qpy]at g2 ⊢;have hA:goN x.bV ty.aJ aY st.place (im ty lb d)=Ib x ty aY st (aB.mk (im ty lb d) (sr lb d)):=rfl;rw[hA]at g2 ⊢;generalize Qp4:aB.mk (im ty lb d) (sr lb d)=a at *;have e1:a.ready=im ty lb d:=by rw[<-Qp4]
  have e2:a.gL=sr lb d:=by rw[<-Qp4]
  by_cases c1:(Ib x ty aY st a).2.2≠0
  ·rw[if_pos c1]at g2;cases g2
  rw[if_neg c1]at g2 ⊢;by_cases c2:st.bI<(Ib x ty aY st a).1
  ·rw[if_pos c2]at g2;rw[if_pos iq]at g2;cases g2
  rw[if_neg c2]at g2 ⊢;by_cases c3:ty.eu<sr lb d+(Ib x ty aY st a).1-im ty lb d
  ·rw[if_pos c3]at g2;cases g2
  rw[if_neg c3]at g2 ⊢;obtain⟨m1,m2⟩:=hn a rF ⟨by omega,by omega,by omega⟩
  unfold M5 Qcs at m1;unfold M5 at m2;rw[e1,e2]at m1;cases c with
  |false =>
   have e:∀Vl:aj,im ty Vl false=Vl.ready/\sr Vl false=Vl.cz:=λVl=>⟨by unfold im;simp,by unfold sr;simp⟩
   rw[(e _).1,(e _).2];exact m1
  |true =>
   have e:∀Vl:aj,im ty Vl true=Vl.ready+ty.bJ/\sr Vl true=0:=λVl=>⟨by unfold im;simp,by unfold sr;simp⟩
   rw[(e _).1,(e _).2];exact m2
theorem Qmo(hf:DC x)(hk:w_ kind)(h0:0<=kind)(hT:TyI x kind ty){L:List aB}(hc:Qjx x kind m ty l aY L){u:List ab}(hw:GV x (bK kind) m (l++u)):L≠[]:=by
 obtain⟨hq,hR2,h9,qE,hE⟩:=QcB hf hk hw;have Nk:=hE.full;rw[QqS hT h0]at Nk;have hlen:=Nk.1;rw[tN]at hlen;have k_:(rW (bK kind) (l++u)).ak.length=l.length+u.length:=by
  show(l++u).length=_;rw[Qay]
 have y5:=ZG Nk.2.2 (qE.length-l.length) l.length (by omega)
 have:=(hc _ hw ⟨u,rfl⟩).2 (qE.take l.length) (by rw[Qdo];omega) y5 true
 exact λh=>by rw[h]at this;cases this
end
section
variable {x : ae} {b r : aD} {l t : List ab} {m n : Nat} {v : ab} {s : O Ky} {kind aY pV : Int} {ty : av} {st : aS}
theorem QfR{o:Int}(h0:0<=o)(h:v∈gv x o):∃st,q8 x v=some st:=by
 have ho:=s_ h;unfold gv at h;unfold q8;rw[ho,if_pos h0];split at h
 ·rename_i q hq;rw[hq];simp only;rcases QaI.1 h with h|h
  ·split at h
   ·rename_i hp;rw[Qaz.1 h];exact⟨_,if_pos hp⟩
   ·cases h
  ·split at h
   ·rename_i hp;rw[Qaz.1 h];exact⟨_,if_pos hp⟩
   ·cases h
 ·cases h
theorem QjW:fl l=some l:=by
 unfold fl;rw[show wm l 0 (ay l)=some l by
  unfold wm ay;rw[if_pos (by omega)]
  simp,af]
theorem Sn(hf:DC x)(hk:w_ kind)(h0:0<=kind)(hT:TyI x kind ty)(hm:m<2 ^ x.ai.length):∀(n:Nat) {l:List ab} {s:O Ky} {aY:Int} {L:List aB},Ee x l->(∀v∈l,v∈BQ x m)->6<l.length+n->Wh s->
  L.length<=2 ^ (l.length+1)->(∀a∈L,StI a)->Qjx x kind m ty l aY L->
  post (jB n (HQ x kind m ((BQ x m).length:Int) s) l aY L) λf=>∃s',f=HQ x kind m ((BQ x m).length:Int) s'/\K7 (Il x (bK kind) m l) s s'
 |0,l,s,aY,L,hg,_,hn,_,_,_,_=>by have:=hg.six hf;omega
 |n+1,l,s,aY,L,hg,o6,hn,hs,hL,AU,WS=>by
  have hx:=hf.ok;have hR:=Qmi hk;have h6:=hg.six hf;have h3:=hf.rr;have Zg:m<1024:=Qby hm (QaE (Qb2 (n:=2) (by omega) h3) (by decide))
  have hlen:∀t,GV x (bK kind) m (l++t)->l.length+t.length=(BQ x m).length:=λt ht=>by
   have:=QkX (R6 hf hR ht) ht.2.2;rw[Qay]at this;exact this
  show post (po (jB n) (HQ x kind m ((BQ x m).length:Int) s) l aY L) _;unfold po;rw[QnX,XT,Qcr,QnW];refine bg (λh=>?_) (λh=>?_)
  ·have hll:l.length=(BQ x m).length:=by simp only[kp,ay]at h;omega
   have QpH:∀t,GV x (bK kind) m (l++t)->t=[]:=λt ht=>Qdx (by have:=hlen t ht;omega)
   suffices hh:post _ λf=>∃s',f=HQ x kind m ((BQ x m).length:Int) s'/\K7 (λk=>GV x (bK kind) m l/\k=Yh x (bK kind) l) s s' from
    hh.mono λf ⟨s',h1,h2⟩=>⟨s',h1,h2.congr (QeF QpH)⟩
   obtain⟨hR2,h9⟩:=QqH hR (show l.length<=8 by omega)
   obtain⟨p1,_⟩:=XE hx hR2 h9;have hrw:aD.mk kind 0 [] l=rW (bK kind) l:=rfl;rw[hrw,p1,af];refine bg (λh1=>?_) (λh1=>aI.2 ⟨s,rfl,K7.none λq hq=>?_⟩)
   ·rw[kp]at h1;have hv:GV x (bK kind) m l:=⟨by omega,h1,Qhv hx hm hg o6 hll⟩
    have hS:∀q,(GV x (bK kind) m l/\q=Yh x (bK kind) l)↔q=Yh x (bK kind) l:=λq=>⟨λh=>h.2,λh=>⟨hv,h⟩⟩
    have G6:aM.mk kind (m:Int) (zO x (rW (bK kind) l)).1 (rW (bK kind) l)=ON (bK kind) m (Yh x (bK kind) l):=rfl;rw[G6];unfold iY;cases s with
    |none=>exact aI.2 ⟨some (Yh x (bK kind) l),rfl,K7.one hS (.inl ⟨rfl,λq h=>by cases h⟩)⟩
    |some q =>
     have hq:=hs q rfl;show post (aQ (br true (aQ (wZ (ON (bK kind) m (Yh x (bK kind) l)) (ON (bK kind) m q)) λr2=>_) _) _) _
     rw[dT,Qeo (show l.length<=1048576 by omega) hq,af,Ec,af]
     by_cases h2:decide (TY (Yh x (bK kind) l) q)=true
     ·have h3:TY (Yh x (bK kind) l) q:=QbF h2;refine aI.2 ⟨some (Yh x (bK kind) l),?_,K7.one hS (.inl ⟨rfl,λq' e h4=>by cases e;exact RS (Vk h3 h4)⟩)⟩
      rw[if_pos (show decide (TY ((ON (bK kind) m (Yh x (bK kind) l)).p_,(ON (bK kind) m (Yh x (bK kind) l)).eG.ak) ((ON (bK kind) m q).p_,(ON (bK kind) m q).eG.ak))=true from h2)];rfl
     ·have h3:¬TY (Yh x (bK kind) l) q:=of_decide_eq_false (by simpa using h2)
      refine aI.2 ⟨some q,?_,K7.one hS (.inr ⟨rfl,q,rfl,h3⟩)⟩;rw[if_neg (show ¬decide (TY ((ON (bK kind) m (Yh x (bK kind) l)).p_,(ON (bK kind) m (Yh x (bK kind) l)).eG.ak) ((ON (bK kind) m q).p_,(ON (bK kind) m q).eG.ak))=true from h2)];rfl
   ·exact(rC.1 h1) hq.1.2.1
  ·rw[QjJ hx (by omega) Zg,af]
   have hnl:=Po (x:=x) (m:=m) (l:=l) x.ai.length;refine xk ?_
   refine dP (λq:aT×Int=>∃(i:Nat) (s':O Ky),q=(HQ x kind m ((BQ x m).length:Int) s',(i:Int))/\i<=(sE x m l x.ai.length).length/\K7 (λk=>∃v∈(sE x m l x.ai.length).take i,Il x (bK kind) m (l++[v]) k) s s') (λq=>(sE x m l x.ai.length).length-q.2.toNat) ⟨0,s,rfl,QaD _,K7.none λk hk=>by simp at hk⟩ (by simp;omega) ?_
   rintro _ ⟨i,s',rfl,hi,hb⟩;show post (nQ (jB n) l aY L (sE x m l x.ai.length) (HQ x kind m ((BQ x m).length:Int) s') (i:Int)) _;unfold nQ;rcases sh i (sE x m l x.ai.length).length with iq|RO
   ·have e:(sE x m l x.ai.length)[i]?=some (sE x m l x.ai.length)[i]:=dr iq;have rF:=QaH iq;generalize(sE x m l x.ai.length)[i]=v at e rF;have hg2:=Qfm hg rF;obtain⟨j,j1,j2,j3,j4,j5⟩:=Pg.1 rF;obtain⟨st,ir⟩:=QfR (by omega) j4
    have QhC:=TG hx ir;have Qr_:Tr st:=⟨QhC.2.2.1,QhC.2.2.2.1,QhC.2.2.2.2.1,QhC.2.2.2.2.2.1,QhC.2.2.2.2.2.2⟩;have QvL:(2:Nat) ^ (l.length+1)<=2 ^ 7:=Qb2 (by omega) (by omega)
    rw[cO e,XT,D2,ir,af];show post (br (cp 0 0) _ _) _;rw[aR (by decide),ml e (by omega)]
    refine bw (QcE hf hT Qr_ XT Qcr (by omega) AU) λr4 ⟨q1,q2,q3,q4⟩=>?_
    have Qlu:=Qhb hf hk h0 hT ir WS q4;rw[q1];refine bg (λlN=>?_) (λhem=>?_)
    ·rw[QjW,af,eU (eV (by simp;omega))]
     refine bw (Sn hf hk h0 hT hm n hg2 (λw hw=>?_) (by simp;omega) (hs.bst hb (Yy (l:=l))) ?_ q3 Qlu) λf ⟨s2,h1,h2⟩=>?_
     ·rcases QaI.1 hw with hw|hw
      ·exact o6 w hw
      ·rw[Qaz.1 hw];exact NC.2 ⟨j,j1,j2,j4⟩
     ·rw[Qay,QeU,Qdw];omega
     ·subst h1;exact cZ ⟨⟨i+1,s2,rfl,iq,hb.more (T:=λv k=>Il x (bK kind) m (l++[v]) k) e h2⟩,by simp;omega⟩
    ·refine cZ ⟨⟨i+1,s',rfl,iq,hb.more (T:=λv k=>Il x (bK kind) m (l++[v]) k) e (K7.none λk hk2=>?_)⟩,by simp;omega⟩
     obtain⟨t',h1,_⟩:=hk2;refine Qmo hf hk h0 hT Qlu h1 (Qdx ?_);simp only[iu,ay]at hem;omega
   ·obtain rfl:i=(sE x m l x.ai.length).length:=by omega
    rw[cG];refine dd (aI.2 ⟨s',rfl,hb.congr λk=>?_⟩)
    rw[QbC];refine QeG (λt ht=>?_) k
    cases t with
    |nil =>
     have:=hlen [] ht;simp only[rC,ay]at h;simp only[QbH]at this;omega
    |cons v t'=>exact⟨v,t',rfl,Qja hf hR ht⟩
def JH(x:ae)(b:aD)(m:Nat)(k:Ky):Prop:=if b.aH.length>b.ak.length then GV x b m b.ak/\k=Yh x b b.ak else Il x b m b.ak k
open Classical in
def Qb5(x:ae)(b:aD)(m:Nat):O Ky:=if h:∃s,K7 (JH x b m) none s then h.choose else none
theorem QdO(h:K7 (JH x b m) none s):s=Qb5 x b m:=by
 have he:∃s,K7 (JH x b m) none s:=⟨s,h⟩;unfold Qb5;rw[dif_pos he];exact h.uniq he.choose_spec
def QrO(b:aD)(m:Nat)(s:O Ky):aM×Int:=match s with
 |none=>(Qob,24)
 |some k=>(ON b m k,0)
def MT(x:ae)(b:aD)(b9:Int):aM×Int:=
 if(0<=b.bt/\b.bt<x.types.length)/\0<b9/\b9<((2 ^ x.ai.length:Nat):Int)then QrO b b9.toNat (Qb5 x b b9.toNat)else(Qob,2)
theorem QnZ(hx:dn x)(hm:0<m):dk (AZ .i64 (m:Int) (ay x.ai)) 0=decide (m<2 ^ x.ai.length):=by
 have dO:=hx.ai;unfold ay;rw[QfD (by omega),Qdg,kp,QbB]
 have h2:=Nat.two_pow_pos x.ai.length;constructor
 ·intro h;have:m / 2 ^ x.ai.length=0:=by omega
  rcases(Nat.div_eq_zero_iff).1 this with h'|h'
  ·omega
  ·exact h'
 ·intro h;rw[Nat.div_eq_of_lt h];rfl
theorem QiF(hf:DC x):2 ^ x.ai.length<=8:=QaE (Qb2 (n:=2) (by omega) hf.rr) (by decide)
end
section
variable {x : ae} {b r : aD} {l t : List ab} {m n : Nat} {v : ab} {s : O Ky} {kind aY pV : Int} {ty : av} {st : aS}
theorem QfL{α:Type}{f:α->Int}{a:α}{l:List α}:jZ f (a ::l)=f a+jZ f l:=by simp [jZ]
theorem QeM{M:List Int}{f:Int->Int}:∀s:Int,IA (λs a=>(.inl (s+f a):Int⊕Int)) id s M=s+jZ f M:=by
 induction M with
 |nil=>intro s;rw[TI,IA];simp
 |cons a r ih=>intro s;rw[U6 rfl,ih,QfL];omega
theorem V7(hm:m<1024)(hb:m<2 ^ x.ai.length):∀k,jZ (λa=>((gv x a).length:Int)) (AX (jN m) k)=((Ls x m [] (min k x.ai.length)).length:Int)
 |0=>by simp [AX,jZ,Ls]
 |k+1=>by
  have ih:=V7 hm hb k;unfold AX;rw[Fa,ih,<-Nx hm];rcases sh k x.ai.length with h|h
  ·rw[Qh8 (by omega),Qh8 (by omega)]
   show _=((Ls x m [] k++_).length:Int);rw[Qay];cases m.testBit k with
   |false=>simp [jZ]
   |true =>
    have H4:(gv x (k:Int)).filter (λv=>!([]:List ab).any (o7 v))=gv x (k:Int):=QlF.2 λ_ _=>rfl
    rw[if_pos rfl,if_pos rfl,Fb,H4];simp
  ·have hz:m.testBit k=false:=Qjt (Qby hb (Qb2 (by omega) h))
   rw[Nat.min_eq_right (by omega),Nat.min_eq_right (by omega),hz]
   simp [jZ]
theorem tyI(hf:DC x)(h:0<=kind/\kind<x.types.length):∃ty,TyI x kind ty:=by
 have hT:=hf.ok.Ed _ (QaH (show kind.toNat<x.types.length by omega))
 exact⟨_,Db h.1 h.2,hT.eu,hT.rest,hT.pL.1,by have:=hT.pL;have:=hT.bI;omega⟩
theorem Qhy:Ee x []:=⟨by simp,λv h=>by cases h⟩
theorem VZ:JH x (bK kind) m=Il x (bK kind) m []:=by
 funext k
 unfold JH;rw[if_neg (by show ¬(0>0);omega)]
 rfl
theorem Wn(hf:DC x)(hk:w_ kind){b9:Int}:Eh x kind b9=some (MT x (bK kind) b9):=by
 have hx:=hf.ok;have h8:=QiF hf;have dO:=hx.ai;unfold Eh MT;by_cases ht:0<=kind/\kind<x.types.length
 ·have ht':0<=(bK kind).bt/\(bK kind).bt<x.types.length:=ht;by_cases hp:0<b9
  ·obtain⟨m,rfl⟩:∃m:Nat,b9=m:=⟨b9.toNat,by omega⟩
   rw[aR (by simp [ay];omega),eU (by unfold ay;omega)]
   have lN:cp (AZ .i64 (m:Int) (ay x.ai)) 0=!decide (m<2 ^ x.ai.length):=by rw[<-QnZ hx (by omega)];rfl
   rw[lN];by_cases hm:m<2 ^ x.ai.length
   ·rw[aR (by simp [hm]),if_pos ⟨ht',hp,by omega⟩,QaC]
    have Zg:m<1024:=by omega
    obtain⟨e,he,o6⟩:=Wf hx hm;rw[he,af];by_cases he0:e=0
    ·rw[aR (by simpa using he0),Fl (Xh Zg),af]
     have hlen:=EM (l:=jN m) 63;have Uf:=V7 (x:=x) Zg hm 63;rw[Nat.min_eq_right (by omega)]at Uf
     have rF:∀i∈AX (jN m) 63,0<=i/\i<x.ai.length:=λi hi=>by
      obtain⟨k,rfl,_,hk⟩:=I3 hi;rw[<-Nx Zg]at hk;refine⟨by omega,?_⟩
      have:k<x.ai.length:=Qk3 λRO=>by
       have:m.testBit k=false:=Qjt (Qby hm (Qb2 (by omega) RO))
       rw[this]at hk;cases hk
      omega
     generalize AX (jN m) 63=M at *;have Ao:aL (λs:Int×Int=>ow x kind (m:Int) M s.1 s.2) (0,0)=some ((BQ x m).length:Int):=by
      rw[Ta (B:=λs:Int×Int=>ow x kind (m:Int) M s.1 s.2) (l:=M) (by omega) (λs a=>(.inl (s+((gv x a).length:Int)):Int⊕Int)) id (λi s=>0<=s/\s<=2*i) (λs i a h hi=>⟨by
       obtain⟨q0,q1⟩:=rF a (QaG h);have hl:=(pB.1 h).1;have hv:=uK (x:=x) (o:=a);show ow x kind (m:Int) M s i=_;unfold ow;rw[cO h,BA hx q0 q1,af,ml h (by omega)]
       unfold ay;rw[dZ (by omega) (by omega)],λs' h'=>by
       cases h';have hv:=uK (x:=x) (o:=a);omega⟩) (λs _=>by
       show ow x kind (m:Int) M s M.length=_;unfold ow;rw[cG];rfl) ⟨by omega,by omega⟩,QeM,Uf]
      unfold BQ;simp
     rw[cN Ao];obtain⟨ty,hT⟩:=tyI hf ht;have Zi:=hT.rest;have QeY:=hT.pL;rw[hT.j7,af];have hz:aT.mk x kind (m:Int) ((BQ x m).length:Int) (aM.mk 0 0 0 (aD.mk 0 0 [] [])) false=HQ x kind m ((BQ x m).length:Int) none:=rfl;rw[hz];have y9:oz (HQ x kind m ((BQ x m).length:Int) none) ty.bA 0=some (Ew (Ew [] (aB.mk ty.bA 0)) (aB.mk (ty.bA+ty.bJ) 0),HQ x kind m ((BQ x m).length:Int) none):=
      NS (L:=[]) hT XT Qcr (QaD _) (d:=ty.bA) (e:=0) (by omega)
     rw[y9,af];have k1:=Ey (L:=[]) (a:=aB.mk ty.bA 0);have k2:=Ey (L:=Ew [] (aB.mk ty.bA 0)) (a:=aB.mk (ty.bA+ty.bJ) 0);obtain⟨f,hfe,s',rfl,hb⟩:=Sn hf hk ht.1 hT hm Df (l:=[]) (s:=none) (aY:=ty.aY) (L:=Ew (Ew [] (aB.mk ty.bA 0)) (aB.mk (ty.bA+ty.bJ) 0)) Qhy (λv h=>by cases h) (by unfold Df;omega) (λk h=>by cases h)
      (by simp only [QbH] at k1 ⊢; omega) (λa ha=>by
       rw[tK,tK]at ha;rcases ha with(ha|rfl)|rfl
       ·cases ha
       ·exact⟨by simp only;omega,by simp only;omega,by simp only;omega,by simp only;omega⟩
       ·exact⟨by simp only;omega,by simp only;omega,by simp only;omega,by simp only;omega⟩)
      (λw hw _=>⟨rfl,λq hq y5 c=>by
       have hq0:q=[]:=Qdx hq;subst hq0;have lR:nm x.bV ty (aU x (rW (bK kind) w)) 0 []=sF ty 0:=rfl;rw[lR,tK,tK];unfold sF;have hmx:max ty.bA 0=ty.bA:=by omega
       rw[hmx];cases c with
       |false =>
        refine .inl (.inr ?_);unfold im sr;simp
       |true =>
        refine .inr ?_
        unfold im sr;simp⟩)
     show aQ (jB Df (HQ x kind m ((BQ x m).length:Int) none) [] ty.aY _) _=_;rw[hfe,af,<-QdO (s:=s') (by rw[VZ];exact hb)]
     cases s' <;> rfl
    ·rw[bk (by simpa using he0)]
     have SW:Qb5 x (bK kind) m=none:=by
      refine(QdO (s:=none) (K7.none λq hq=>?_)).symm
      rw[VZ]at hq;obtain⟨t,hv,_⟩:=hq;exact he0 (o6 _ (R6 hf (Qmi hk) hv) hv.2.2)
     rw[SW];rfl
   ·rw[bk (by simp;omega),if_neg (by omega)]
    rfl
  ·rw[bk (by simp [ay];omega),if_neg (by omega)]
   rfl
 ·have ht':¬(0<=(bK kind).bt/\(bK kind).bt<x.types.length):=ht;rw[bk (by simp [ay];omega),if_neg (λh=>ht' h.1)]
  rfl
end
section
variable {x : ae} {b r : aD} {l t : List ab} {m n : Nat} {v : ab} {s : O Ky} {kind b9 : Int} {a c : aM}
theorem Qfs{k:Ky}(h:Qb5 x b m=some k):JH x b m k:=by
 unfold Qb5 at h;split at h
 ·rename_i he;exact(he.choose_spec.1 k h).resolve_left λh=>by cases h
 ·cases h
theorem QfJ{k:Ky}(h:JH x b m k):∃t,k.2=b.ak++t/\(b.aH.length>b.ak.length->t=[])/\GV x b m k.2/\k=Yh x b k.2:=by
 unfold JH at h;split at h
 ·rename_i hgt;obtain⟨h1,h2⟩:=h;have e:k.2=b.ak:=by rw[h2];rfl
  exact⟨[],by rw[e];simp,λ_=>rfl,by rw[e];exact h1,by rw[e];exact h2⟩
 ·rename_i hle;obtain⟨t,h1,h2⟩:=h;have e:k.2=b.ak++t:=by rw[h2];rfl
  exact⟨t,e,λh=>absurd h hle,by rw[e];exact h1,by rw[e];exact h2⟩
def Im(x:ae)(b:aD)(fit:Nat->Bool):Nat->List aM
 |0=>[]
 |j+1=>Im x b fit j++if(fit (j+1)&&dk (MT x b ((j+1:Nat):Int)).2 0)=true then [(MT x b ((j+1:Nat):Int)).1]else []
theorem OO{fit:Nat->Bool}:∀j,(Im x b fit j).length<=j
 |0=>fa _
 |j+1=>by
  have:=OO (fit:=fit) j;unfold Im;rw[Qay];split <;> simp <;> omega
theorem QeJ(hf:DC x){fit:Nat->Bool}{B:List aM×Int->O ((List aM×Int)⊕(List aM))}(L0:List aM)(h0:L0.length<=1000)
  (qc:∀(j:Nat) (L:List aM),j+1<2 ^ x.ai.length->L.length<=2000->B (L,((j+1:Nat):Int))=some (.inl (L++(if(fit (j+1)&&dk (MT x b ((j+1:Nat):Int)).2 0)=true then [(MT x b ((j+1:Nat):Int)).1]else []),((j+2:Nat):Int))))
  (Bp:∀L:List aM,B (L,((2 ^ x.ai.length:Nat):Int))=some (.inr L)):aL B (L0,1)=some (L0++Im x b fit (2 ^ x.ai.length-1)):=by
 have h8:=QiF hf;have h2:=Nat.two_pow_pos x.ai.length;have e0:(L0,(1:Int))=(λj:Nat=>(L0++Im x b fit j,((j+1:Nat):Int))) 0:=by simp [Im]
 rw[e0];refine gQ (2 ^ x.ai.length-1) (λj:Nat=>(L0++Im x b fit j,((j+1:Nat):Int))) (by omega) (λj hj=>?_) ?_
 ·have hl:=OO (x:=x) (b:=b) (fit:=fit) j;rw[qc j _ (by omega) (by rw[Qay];omega)]
  show some (Sum.inl (_,_))=some (Sum.inl (L0++(Im x b fit j++_),_));rw[Qds]
 ·rw[show 2 ^ x.ai.length-1+1=2 ^ x.ai.length by omega]
  exact Bp _
def Kk(x:ae):Nat->List aM
 |0=>[]
 |k+1=>Kk x k++Im x (bK (k:Int)) (λ_=>true) (2 ^ x.ai.length-1)
theorem Se(hf:DC x):∀k,(Kk x k).length<=7*k
 |0=>fa _
 |k+1=>by
  have h8:=QiF hf;have h1:=Se hf k;have h2:=OO (x:=x) (b:=bK (k:Int)) (fit:=λ_=>true) (2 ^ x.ai.length-1)
  unfold Kk;rw[Qay];omega
theorem kI6{k:Nat}(h:k<=6):w_ (k:Int):=⟨by omega,by omega⟩
theorem okC{L:List aM}(h:L.length<=1000000):fQ L.length 88:=eV (by omega)
theorem Yu(hf:DC x):Ie x=some (Kk x x.types.length,0):=by
 have hx:=hf.ok;have h8:=QiF hf;have h6:=hx.types;have dO:=hx.ai;unfold Ie;have hl:aL (λs:List aM×Int=>qn x s.1 s.2) ([],0)=some (Kk x x.types.length):=gQ x.types.length (λk=>(Kk x k,(k:Int))) (B:=λs:List aM×Int=>qn x s.1 s.2) (by omega) (λk hk=>by
  have hlen:=Se hf k;show qn x (Kk x k) (k:Int)=_;unfold qn;rw[bk (by simp [ay];omega),inc hk (by omega)]
  rw[cN (QeJ (b:=bK (k:Int)) (fit:=λ_=>true) hf (B:=λs:List aM×Int=>sy x (Kk x k) (k:Int) s.1 s.2) (Kk x k) (by omega) (λj L hj hL=>by
   show sy x (Kk x k) (k:Int) L ((j+1:Nat):Int)=_;unfold sy;rw[eU (by unfold ay;omega),QnZ hx (by omega),bk (Qdl hj),Wn hf (kI6 (by omega)),af,eU (okC (by simp;omega)),dZ (by omega) (by omega),Ec,Qe1]
   rw[show(((j+1:Nat):Int)+1)=((j+2:Nat):Int) by omega]
   split <;> simp) (λL=>by
   show sy x (Kk x k) (k:Int) L ((2 ^ x.ai.length:Nat):Int)=_;unfold sy;rw[eU (by unfold ay;omega),QnZ hx (Nat.two_pow_pos _),aR (QbV (by omega))]))]
  rfl) (by
  show qn x (Kk x x.types.length) (x.types.length:Int)=_;unfold qn;rw[aR (by simp [ay])])
 rw[cN hl]
end
end
end Go.Proofs.YtkcilfpbgjjjbaaGreatDoor
