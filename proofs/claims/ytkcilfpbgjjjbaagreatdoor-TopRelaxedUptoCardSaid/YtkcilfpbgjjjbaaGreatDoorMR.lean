/- Part MR. -/
import Derived.Test.YtkcilfpbgjjjbaaGreatDoorMI
import Derived.Test.YtkcilfpbgjjjbaaGreatDoorMP
import Derived.Test.YtkcilfpbgjjjbaaGreatDoorMQ
import Derived.Test.YtkcilfpbgjjjbaaGreatDoorMT
set_option linter.unusedSimpArgs false
set_option linter.unusedVariables false
set_option linter.unusedSectionVars false
namespace Go.Proofs.YtkcilfpbgjjjbaaGreatDoor
noncomputable section
def Np{α:Type}(p:α->Bool):List α->O Nat
 | []=>none
 |a ::r=>if p a=true then some 0 else(Np p r).map (·+1)
section
variable {α : Type} {p : α -> Bool}
theorem xF{l:List α}{k:Nat}(h:Np p l=some k):∃hk:k<l.length,p l[k]=true/\∀j (hj:j<k),p (l[j]'(by omega))=false:=by
 induction l generalizing k with
 |nil=>cases h
 |cons a r ih =>
  unfold Np at h;split at h
  ·cases h;exact⟨by simp,by simpa,λj hj=>by omega⟩
  ·rename_i ha;rw[Option.map_eq_some_iff]at h;obtain⟨m,hm,rfl⟩:=h;obtain⟨h1,h2,h3⟩:=ih hm;refine⟨by simp;omega,by simpa using h2,λj hj=>?_⟩
   cases j with
   |zero=>simpa using ha
   |succ j=>simpa using h3 j (by omega)
theorem Nq{l:List α}(h:Np p l=none):∀a∈l,p a=false:=by
 induction l with
 |nil=>simp
 |cons a r ih =>
  unfold Np at h;split at h
  ·cases h
  ·rename_i ha;rw[Option.map_eq_none_iff]at h;intro b hb;rcases Qbt.1 hb with rfl|hb
   ·simpa using ha
   ·exact ih h b hb
def sq(p:α->Bool)(l:List α):Int:=match Np p l with
 |some k=>k
 |none=>-1
theorem Qnr{l:List α}:0<=sq p l↔∃a∈l,p a=true:=by
 unfold sq;cases h:Np p l with
 |some k =>
  obtain⟨h1,h2,_⟩:=xF h;exact⟨λ_=>⟨_,QaH h1,h2⟩,λ_=>QmP k⟩
 |none=>exact⟨λh'=>by simp at h',λ⟨a,ha,hp⟩=>by rw[Nq h a ha]at hp;cases hp⟩
theorem Xc{l:List α}:-1<=sq p l/\sq p l<l.length:=by
 unfold sq;cases h:Np p l with
 |some k=>have:=(xF h).1;simp only;omega
 |none=>simp only;omega
theorem sJ{l:List α}:cT (sq p l) 0=l.any p:=by
 rw[Qdg,gX,Qnr,Qf0]
end
section
variable {E : Type} {B : Int -> O (Int ⊕ E)}
theorem Qcq{n:Nat}(hn:n<=1048576)(p:Nat->Bool)(Y:Nat->E){N:E}
  (qc:∀i:Nat,i<n->B (i:Int)=some (if p i=true then .inr (Y i)else .inl ((i:Int)+1))) (Bp:B (n:Int)=some (.inr N)):
  (∃k,k<n/\p k=true/\(∀j,j<k->p j=false)/\aL B 0=some (Y k))\/((∀j,j<n->p j=false)/\aL B 0=some N):=by
 have main:post (aL B 0) λe=>(∃k,k<n/\p k=true/\(∀j,j<k->p j=false)/\e=Y k)\/((∀j,j<n->p j=false)/\e=N):=by
  refine dP (λi=>∃k:Nat,i=(k:Int)/\k<=n/\∀j,j<k->p j=false) (λi=>n-i.toNat) ⟨0,rfl,QaD _,λj hj=>by omega⟩ (by simp;omega) ?_
  rintro _ ⟨k,rfl,hk,hf⟩;rcases sh k n with h|h
  ·rw[qc k h];split
   ·rename_i hp;exact dd (.inl ⟨k,h,hp,hf,rfl⟩)
   ·rename_i hp;refine cZ ⟨⟨k+1,by simp,by omega,λj hj=>?_⟩,by simp;omega⟩
    rcases Qjh (Nat.le_of_lt_succ hj)with hj|rfl
    ·exact hf j hj
    ·simpa using hp
  ·obtain rfl:k=n:=by omega
   rw[Bp];exact dd (.inr ⟨hf,rfl⟩)
 obtain⟨e,he,h⟩:=main;rcases h with⟨k,h1,h2,h3,rfl⟩|⟨h1,rfl⟩
 ·exact .inl ⟨k,h1,h2,h3,he⟩
 ·exact .inr ⟨h1,he⟩
theorem Jp{n:Nat}(hn:n<=1048576)(p:Nat->Bool){y N:E}{b:Bool}(hb:b=true↔∃k,k<n/\p k=true)
  (qc:∀i:Nat,i<n->B (i:Int)=some (if p i=true then .inr y else .inl ((i:Int)+1))) (Bp:B (n:Int)=some (.inr N)):
  aL B 0=some (if b=true then y else N):=by
 rcases Qcq hn p (λ_=>y) qc Bp with⟨k,h1,h2,_,h4⟩|⟨h1,h4⟩
 ·rw[h4,if_pos (hb.2 ⟨k,h1,h2⟩)]
 ·rw[h4,if_neg λh=>by obtain⟨k,h5,h6⟩:=hb.1 h;rw[h1 k h5]at h6;cases h6]
theorem fD{α:Type}{l:List α}(hl:l.length<=1048576)(p:α->Bool){y N:E}
  (qc:∀(i:Nat) a,l[i]?=some a->B (i:Int)=some (if p a=true then .inr y else .inl ((i:Int)+1))) (Bp:B (l.length:Int)=some (.inr N)):
  aL B 0=some (if l.any p=true then y else N):=by
 refine Jp hl (λi=>match l[i]? with|some a=>p a|none=>false) ?_ (λi hi=>?_) Bp
 ·rw[Qf0];constructor
  ·rintro⟨a,ha,hp⟩;obtain⟨k,hk,rfl⟩:=List.getElem_of_mem ha;exact⟨k,hk,by rw[dr hk];exact hp⟩
  ·rintro⟨k,hk,hp⟩;rw[dr hk]at hp;exact⟨_,QaH hk,hp⟩
 ·rw[dr hi];exact qc i _ (dr hi)
theorem Bw{α:Type}{l:List α}(hl:l.length<=1048576)(p:α->Bool)(Y:Nat->E){N:E}
  (qc:∀(i:Nat) a,l[i]?=some a->B (i:Int)=some (if p a=true then .inr (Y i)else .inl ((i:Int)+1))) (Bp:B (l.length:Int)=some (.inr N)):
  aL B 0=some (match Np p l with|some k=>Y k|none=>N):=by
 have h:=Qcq (B:=B) hl (λi=>match l[i]? with|some a=>p a|none=>false) Y (N:=N) (λi hi=>by
  rw[dr hi];exact qc i _ (dr hi)) Bp
 have j7:∀j (hj:j<l.length),(match l[j]? with|some a=>p a|none=>false)=p l[j]:=λj hj=>by rw[dr hj]
 rcases h with⟨k,h1,h2,h3,h4⟩|⟨h1,h4⟩
 ·cases hx:Np p l with
  |none=>rw[j7 k h1,Nq hx _ (QaH h1)]at h2;cases h2
  |some m =>
   obtain⟨g1,g2,g3⟩:=xF hx;rcases Qkq k m with h|h|h
   ·rw[j7 k h1,g3 k h]at h2;cases h2
   ·rw[h4,h]
   ·have:=h3 m h;simp only[j7 m g1]at this;rw[g2]at this;cases this
 ·cases hx:Np p l with
  |none=>rw[h4]
  |some m =>
   obtain⟨g1,g2,g3⟩:=xF hx;have:=h1 m g1;simp only[j7 m g1]at this;rw[g2]at this;cases this
end
theorem wrapN{m:Nat}(h:m<9223372036854775808):IntKind.i64.wrap (m:Int)=m:=IntWalk.i64_in _ ⟨by omega,by omega⟩
theorem QfD{m i:Nat}(hi:i<=64):AZ .i64 (m:Int) (i:Int)=((m / 2 ^ i:Nat):Int):=by
 unfold AZ;rw[show min (i:Int).toNat IntKind.i64.bits=i by simp [IntKind.bits];omega,show(2:Int) ^ i=((2 ^ i:Nat):Int) by simp,Int.fdiv_eq_ediv_of_nonneg _ (QmP _)]
 rfl
theorem Qaa{i:Nat}(hi:i<=62):uh .i64 1 (i:Int)=((2 ^ i:Nat):Int):=by
 have h2:2 ^ i<=2 ^ 62:=Qb2 (by omega) hi
 unfold uh;rw[show min (i:Int).toNat IntKind.i64.bits=i by simp [IntKind.bits];omega,Int.one_mul,show(2:Int) ^ i=((2 ^ i:Nat):Int) by simp]
 exact wrapN (by omega)
theorem orN{a b:Nat}(ha:a<9223372036854775808)(hb:b<9223372036854775808):QA .i64 (a:Int) (b:Int)=((a |||b:Nat):Int):=by
 unfold QA;have h:=Qkt (n:=63) ha hb;have e:(BitVec.ofInt IntKind.i64.bits (a:Int) |||BitVec.ofInt IntKind.i64.bits (b:Int)).toNat=a |||b:=by
  rw[BitVec.toNat_or];show(BitVec.ofInt 64 (a:Int)).toNat |||(BitVec.ofInt 64 (b:Int)).toNat=_;rw[Qjf,Qjf,Qkp,Qkp,QfS (by omega),QfS (by omega)]
 rw[e];exact wrapN (by omega)
theorem QgJ{a b:Nat}(ha:a<9223372036854775808)(hb:b<9223372036854775808):MO .i64 (a:Int) (b:Int)=((a &&& b:Nat):Int):=by
 unfold MO;have h:=Ql3 (n:=a) (m:=b);have e:(BitVec.ofInt IntKind.i64.bits (a:Int) &&& BitVec.ofInt IntKind.i64.bits (b:Int)).toNat=a &&& b:=by
  rw[BitVec.toNat_and];show(BitVec.ofInt 64 (a:Int)).toNat &&& (BitVec.ofInt 64 (b:Int)).toNat=_;rw[Qjf,Qjf,Qkp,Qkp,QfS (by omega),QfS (by omega)]
 rw[e];exact wrapN (by omega)
theorem Wk{a b:Nat}(ha:a<9223372036854775808)(hb:b<9223372036854775808):uO .i64 (a:Int) (b:Int)=0↔∀i,a.testBit i=true->b.testBit i=true:=by
 show IntKind.i64.wrap (((BitVec.ofInt 64 (a:Int) &&& ~~~BitVec.ofInt 64 (b:Int)).toNat:Nat):Int)=0↔_;rw[Qjf,Qjf];have hle:(BitVec.ofNat 64 a &&& ~~~BitVec.ofNat 64 b).toNat<9223372036854775808:=by
  rw[BitVec.toNat_and,Qkp,QfS (by omega)]
  exact QmU Ql3 ha
 rw[wrapN hle];have bit:∀i,(BitVec.ofNat 64 a &&& ~~~BitVec.ofNat 64 b).toNat.testBit i=(a.testBit i&&!b.testBit i):=λi=>by
  rw[BitVec.testBit_toNat,BitVec.getLsbD_and,BitVec.getLsbD_not,QmG,QmG];rcases sh i 64 with h|h
  ·simp [h]
  ·have:a.testBit i=false:=Qjt (Qby ha (QaE (by decide) (Qb2 (n:=2) (by omega) h)))
   simp [this]
 constructor
 ·intro h i hi;have:=bit i;rw[show(BitVec.ofNat 64 a &&& ~~~BitVec.ofNat 64 b).toNat=0 by omega,Nat.zero_testBit,hi]at this
  simpa using this.symm
 ·intro h;have:(BitVec.ofNat 64 a &&& ~~~BitVec.ofNat 64 b).toNat=0:=Nat.eq_of_testBit_eq λi=>by
   rw[bit,Nat.zero_testBit];cases hi:a.testBit i with
   |false=>rfl
   |true=>rw[h i hi];rfl
  omega
theorem QgD{t:av}{cF:Int}(ht:0<=t.cF/\t.cF<=1073741823)(hs:0<=cF/\cF<=1073741823):∃b,sI t cF=some b/\True:=by
 obtain⟨a,ha⟩:∃a:Nat,cF=a:=⟨cF.toNat,by omega⟩
 obtain⟨c,hc⟩:∃c:Nat,t.cF=c:=⟨t.cF.toNat,by omega⟩
 subst ha;refine⟨dk (uO .i64 (a:Int) (c:Int)) 0,?_,trivial⟩;unfold sI;rw[hc];rw[show cT (c:Int) 0=true by simp,show cT (a:Int) 0=true by simp]
 rfl
theorem Ec{α:Type}{b:Bool}{x y:α}:br b (some x) (some y)=some (if b=true then x else y):=by cases b <;> rfl
theorem cO{α β:Type}{l:List α}{i:Nat}{a:α}(h:l[i]?=some a)(f:α->O β)(z:O β):br (bh (i:Int) (ay l)) (aQ (bn l i) f) z=f a:=by
 have:=(pB.1 h).1;rw[bk (by simp [ay];omega),bB h,af]
theorem cG{α β:Type}{l:List α}{y z:O β}:br (bh (l.length:Int) (ay l)) y z=z:=aR (by simp [ay])
theorem ml{α:Type}{l:List α}{i:Nat}{a:α}(h:l[i]?=some a)(hl:l.length<=1048576):aV .i64 (i:Int) 1=(i:Int)+1:=inc (pB.1 h).1 hl
def S2(x:ae)(v:ab):Bool:=decide (0<=v.aP/\v.aP<x.ai.length)
def L7(x:ae)(v:ab):Bool:=match x.ai[v.aP.toNat]? with
 |some o=>o.off
 |none=>false
def LN(o:Int)(v:ab):Bool:=dk v.aP o
def dc(l:List ab)(o:Int):Bool:=l.any (LN o)
def o7(v a:ab):Bool:=dk v.aP a.aP&&(GL v.drop a.drop&&true)
def gv(x:ae)(o:Int):List ab:=match x.ai[o.toNat]? with
 |some q=>(if 0<=q.pick.place then [ab.mk o false]else [])++(if 0<=q.drop.place then [ab.mk o true]else [])
 |none=>[]
def KH(l:List ab):List ab->Bool
 | []=>true
 | [a]=>cT (sq (o7 a) l) 0
 |a ::b ::_=>cT (sq (o7 a) l) 0&&bh (sq (o7 a) l) (sq (o7 b) l)
def wa(x:ae)(l:List ab)(v:ab):Bool:=(gv x v.aP).any (o7 v)&&KH l (gv x v.aP)
def wB(l:List ab)(p:aW):Bool:=dc l p.x0&&dc l p.x1
def Lm(l:List ab)(p:aW):Bool:=match Np (LN p.x1) l with
 |some k=>dc (l.drop k) p.x0
 |none=>false
def Ic(l:List ab)(p:aW):Bool:=dc l p.x1&&(!dc l p.x0||Lm l p)
instance(l:List ab):Decidable l.Nodup:=inferInstanceAs (Decidable (List.Nodup l))
def Ol(x:ae)(l:List ab):Int:=
 if l.length=0 then 2 else if l.any (λv=>!S2 x v)=true then 2 else if l.any (L7 x)=true then 9 else if ¬l.Nodup then 6 else
 if l.any (λv=>!wa x l v)=true then 19 else if x.dx.any (wB l)=true then 20 else if x.before.any (Ic l)=true then 21 else 0
section
variable {x : ae} {l : List ab}
theorem Qq{v a:ab}:o7 v a=true↔a=v:=by
 unfold o7;cases v;cases a;simp;exact⟨λ⟨h1,h2⟩=>⟨h1.symm,h2.symm⟩,λ⟨h1,h2⟩=>⟨h1.symm,h2.symm⟩⟩
theorem zj{o:Int}{v:ab}:LN o v=true↔v.aP=o:=by simp [LN]
theorem rD{o:Int}:dc l o=true↔∃v∈l,v.aP=o:=by simp [dc,Qf0,LN]
theorem GI{v:ab}:l.any (o7 v)=true↔v∈l:=by
 rw[Qf0];exact⟨λ⟨a,h,h'⟩=>Qq.1 h'▸h,λh=>⟨v,h,Qq.2 rfl⟩⟩
theorem S3{v:ab}:0<=sq (o7 v) l↔v∈l:=by rw[<-gX,sJ,GI]
theorem DK{v:ab}{k:Nat}(h:sq (o7 v) l=k):l[k]?=some v/\∀j,j<k->l[j]?≠some v:=by
 unfold sq at h;cases hx:Np (o7 v) l with
 |none=>rw[hx]at h;simp only at h;omega
 |some m =>
  rw[hx]at h;simp only at h;obtain rfl:m=k:=by omega
  obtain⟨h1,h2,h3⟩:=xF hx;refine⟨by rw[dr h1,Qq.1 h2],λj hj he=>?_⟩
  have:=h3 j hj;rw[dr (show j<l.length by omega)]at he
  rw[Qq.2 (QaL he)]at this;cases this
theorem BJ(hl:l.length<=1048576)(v:ab):jo l v=some (sq (o7 v) l):=by
 have:=Bw hl (o7 v) (λk=>(.inr (k:Int):Unit⊕Int)) (N:=.inl ()) (B:=λs=>cS l v s) (λi a h=>by
  show cS l v i=_;unfold cS;rw[cO h,ml h hl,Ec];rfl) (by
  show cS l v l.length=_;unfold cS;rw[cG])
 unfold jo d_;rw[cN this];unfold sq;cases Np (o7 v) l <;> rfl
theorem Qh2(hl:l.length<=1048576)(v:ab):d_ l v=some (sq (o7 v) l):=by
 have:=BJ hl v;unfold jo at this;obtain⟨a,h,h'⟩:=Yv this;rw[h,h']
theorem contains_eq(hl:l.length<=1048576)(v:ab):eD l v=some (l.any (o7 v)):=by
 unfold eD;rw[Qh2 hl,af,sJ]
theorem nodup_iff:¬l.Nodup↔∃k,k<l.length/\∃j,j<k/\l[j]?=l[k]?:=by
 unfold List.Nodup;rw[List.pairwise_iff_getElem];constructor
 ·intro h;refine QhJ λhn=>h λi j hi hj Qm he=>hn ⟨j,hj,i,Qm,?_⟩
  rw[dr hi,dr hj,he]
 ·rintro⟨k,hk,j,hj,he⟩ h;rw[dr hk,dr (show j<l.length by omega)]at he
  exact h j k (by omega) hk hj (QaL he)
theorem yV{v:ab}{k:Nat}(hk:k<=l.length):v∈l.take k↔∃j,j<k/\l[j]?=some v:=by
 rw[QeT];constructor
 ·rintro⟨j,h⟩;rw[QdL]at h;split at h
  ·exact⟨j,‹_›,h⟩
  ·cases h
 ·rintro⟨j,hj,h⟩;exact⟨j,by rw[QdL,if_pos hj,h]⟩
theorem Qi7(hl:l.length<=1048576):uI l=some (decide (¬l.Nodup)):=by
 have:=Jp (B:=λs=>je l s) hl (λk=>match l[k]? with|some v=>(l.take k).any (o7 v)|none=>false) (y:=(.inr true:Unit⊕Bool)) (N:=.inl ()) (b:=decide (¬l.Nodup)) (by
  rw[QbB,nodup_iff];constructor
  ·rintro⟨k,hk,j,hj,he⟩;refine⟨k,hk,?_⟩;rw[dr hk]at he ⊢;exact GI.2 ((yV (by omega)).2 ⟨j,hj,he⟩)
  ·rintro⟨k,hk,h⟩;rw[dr hk]at h;obtain⟨j,hj,he⟩:=(yV (by omega)).1 (GI.1 h)
   exact⟨k,hk,j,hj,by rw[he,dr hk]⟩) (λi hi=>by
  have h:l[i]?=some l[i]:=dr hi;show je l i=_;unfold je;rw[cO h,show wm l 0 (i:Int)=some (l.take i) by unfold wm;rw[if_pos (by omega)];simp,af,BJ (by rw[Qdo];omega),af,ml h hl,sJ,Ec]
  rw[h]) (by
  show je l l.length=_;unfold je;rw[cG])
 unfold uI;rw[cN this];split <;> simp_all
theorem uK{o:Int}:(gv x o).length<=2:=by
 unfold gv;split
 ·split <;> split <;> simp
 ·simp
theorem BA(hx:dn x){o:Int}(h0:0<=o)(h1:o<x.ai.length):mr x.ai o=some (gv x o):=by
 have e:x.ai[o.toNat]?=some (x.ai[o.toNat]'(by omega)):=dr _
 generalize x.ai[o.toNat]'(by omega)=q at e
 have hg:bn x.ai o=some q:=by unfold bn;rw[if_pos h0,e]
 unfold mr xj;rw[af,bk (by simp [ay];omega),hg,af]
 unfold gv;rw[e];have hJ:∀l1:List ab,l1.length<=1->qi x.ai o l1=some (l1++if 0<=q.drop.place then [ab.mk o true]else []):=λl1 hl=>by
  unfold qi;rw[hg,af,eU (by unfold fQ;simp;omega),GJ]
  simp only[gX];split <;> simp
 rw[hJ _ (by simp),hJ _ (by simp),eU (by unfold fQ;simp),Ec]
 simp only[gX];split <;> rfl
theorem TO{o:Int}{a b:ab}{r:List ab}(h:gv x o=a ::b ::r):r=[]/\a≠b:=by
 have h2:=uK (x:=x) (o:=o);rw[h]at h2;have hr:r=[]:=by cases r with
  |nil=>rfl
  |cons c r=>simp at h2
 refine⟨hr,?_⟩;subst hr;unfold gv at h;split at h
 ·split at h <;> split at h <;> simp at h
  obtain⟨rfl,rfl⟩:=h;simp
 ·cases h
theorem QfA(hl:l.length<=1048576){r:List ab}(hr:r.length<=2)(v:Int):aL (λs=>dV x l v r s.1 s.2) ((-1),0)=some (if KH l r=true then .inl ()else .inr false):=by
 have out:∀(p:Int),dV x l v r p r.length=some (.inr (.inl ())):=λp=>by
  unfold dV;rw[cG]
 have go:∀(k:Nat) (a:ab) (p:Int),r[k]?=some a->dV x l v r p k=some (if gB (sq (o7 a) l) p=true then .inr (.inr false)else .inl (sq (o7 a) l,(k:Int)+1)):=λk a p h=>by
  unfold dV;rw[cO h,BJ hl,af,ml h (by omega),Ec]
 match r,hr with
 | [],_=>exact Ar 1 (by decide) (by simp only[sC];rw[show dV x l v [] (-1) 0=_ from out (-1)];rfl)
 | [a],_ =>
  refine Ar 2 (by decide) ?_
  have g:=go 0 a (-1) rfl;simp only[sC];rw[show dV x l v [a] (-1) 0=_ from g];have hb:=Xc (p:=o7 a) (l:=l);by_cases h:gB (sq (o7 a) l) (-1)=true
  ·rw[if_pos h,if_neg];simp only[KH,gX];simp only[xa]at h;omega
  ·rw[if_neg h,if_pos]
   ·simp only;rw[show dV x l v [a] (sq (o7 a) l) ((0:Nat)+1:Int)=_ from out _]
   ·simp only[KH,gX];simp only[xa]at h;omega
 | [a,b],_ =>
  refine Ar 3 (by decide) ?_
  have g:=go 0 a (-1) rfl;have g1:=go 1 b (sq (o7 a) l) rfl;simp only[sC];rw[show dV x l v [a,b] (-1) 0=_ from g];have hb:=Xc (p:=o7 a) (l:=l);by_cases h:gB (sq (o7 a) l) (-1)=true
  ·rw[if_pos h,if_neg];simp only[KH,gX,ma];simp only[xa]at h;omega
  ·rw[if_neg h];simp only;rw[show dV x l v [a,b] (sq (o7 a) l) ((0:Nat)+1:Int)=_ from g1];simp only[xa]at h;by_cases h':gB (sq (o7 b) l) (sq (o7 a) l)=true
   ·rw[if_pos h',if_neg];simp only[KH,gX,ew,ma];simp only[xa]at h';omega
   ·rw[if_neg h',if_pos]
    ·simp only;rw[show dV x l v [a,b] (sq (o7 b) l) ((1:Nat)+1:Int)=_ from out _]
    ·simp only[KH,gX,ew,ma];simp only[xa]at h';omega
theorem rG(h:l.any (λv=>!S2 x v)=false){v:ab}(hv:v∈l):0<=v.aP/\v.aP<x.ai.length:=by
 have:=QeP.1 h v hv;simpa [S2]using this
theorem Qft(hx:dn x)(hl:l.length<=1048576)(ho:l.any (λv=>!S2 x v)=false):tC x l=some (!l.any (λv=>!wa x l v)):=by
 have:=fD (B:=λs=>ig x l s) hl (λv=>!wa x l v) (y:=(.inr false:Unit⊕Bool)) (N:=.inl ()) (λi a h=>by
  obtain⟨h0,h1⟩:=rG ho (QaG h);show ig x l i=_;unfold ig;have hv:=uK (x:=x) (o:=a.aP);rw[cO h,BA hx h0 h1,af,contains_eq (by omega),af,QfA hl hv,af,ml h hl]
  unfold wa;cases(gv x a.aP).any (o7 a) <;> cases KH l (gv x a.aP) <;> rfl) (by
  show ig x l l.length=_;unfold ig;rw[cG])
 unfold tC;rw[cN this];cases l.any (λv=>!wa x l v) <;> rfl
theorem RV{a b:Int}:bh a b=!cT a b:=by rw[Qdg];simp
end
section
variable {x : ae} {l : List ab}
theorem Qhu(hl:l.length<=1048576)(o:Int):dI l o=some (sq (LN o) l):=by
 have:=Bw hl (LN o) (λk=>(.inr (k:Int):Unit⊕Int)) (N:=.inl ()) (B:=λs=>bW l o s) (λi a h=>by
  show bW l o i=_;unfold bW yR;rw[cO h,af,ml h hl,Ec];rfl) (by
  show bW l o l.length=_;unfold bW;rw[cG])
 unfold dI;rw[cN this];unfold sq;cases Np (LN o) l <;> rfl
theorem Y2(hl:l.length<=1048576)(o:Int):dq l o=some (sq (LN o) l):=by
 have:=Bw hl (LN o) (λk=>(.inr (k:Int):Unit⊕Int)) (N:=.inl ()) (B:=λs=>bQ l o s) (λi a h=>by
  show bQ l o i=_;unfold bQ ue;rw[cO h,af,ml h hl,Ec];rfl) (by
  show bQ l o l.length=_;unfold bQ;rw[cG])
 unfold dq;rw[cN this];unfold sq;cases Np (LN o) l <;> rfl
theorem R1(hl:l.length<=1048576)(o:Int):qN l o=some (dc l o):=by
 unfold qN ec;rw[Qhu hl,af,af,sJ];rfl
theorem Y3(hl:l.length<=1048576):dh l x=some (l.any λv=>!S2 x v):=by
 have:=Bw hl (λv=>!S2 x v) (λk=>(.inr (k:Int):Unit⊕Int)) (N:=.inl ()) (B:=λs=>bR l x s) (λi a h=>by
  show bR l x i=_;unfold bR u6;rw[cO h,af,ml h hl,Ec];rw[show(bh a.aP 0||cT a.aP (ay x.ai))=!S2 x a by
   unfold S2 ay;rw[Qdg];simp]) (by
  show bR l x l.length=_;unfold bR;rw[cG])
 have e:dz l x=some (sq (λv=>!S2 x v) l):=by
  unfold dz;rw[cN this];unfold sq;cases Np (λv=>!S2 x v) l <;> rfl
 unfold dh;rw[e,af,sJ]
theorem RX{v:ab}(h0:0<=v.aP)(h1:v.aP<x.ai.length):∃o,bn x.ai v.aP=some o/\o∈x.ai/\L7 x v=o.off/\x.ai[v.aP.toNat]?=some o:=by
 have e:x.ai[v.aP.toNat]?=some (x.ai[v.aP.toNat]'(by omega)):=dr _
 refine⟨_,Db h0 h1,QaH _,?_,e⟩;unfold L7;rw[e]
theorem Y4(hl:l.length<=1048576)(ho:l.any (λv=>!S2 x v)=false):di l x=some (l.any (L7 x)):=by
 have:=Bw hl (L7 x) (λk=>(.inr (k:Int):Unit⊕Int)) (N:=.inl ()) (B:=λs=>bU l x s) (λi a h=>by
  obtain⟨h0,h1⟩:=rG ho (QaG h);obtain⟨o,g1,g2,g3,_⟩:=RX h0 h1;show bU l x i=_;unfold bU u7;rw[cO h,g1,af,af,ml h hl,Ec,g3]) (by
  show bU l x l.length=_;unfold bU;rw[cG])
 have e:dA l x=some (sq (L7 x) l):=by
  unfold dA;rw[cN this];unfold sq;cases Np (L7 x) l <;> rfl
 unfold di;rw[e,af,sJ]
theorem Qcp(hl:l.length<=1048576)(p:aW):tB l p.x0 p.x1=some (!Ic l p):=by
 unfold tB;rw[Y2 hl,af,R1 hl,af];unfold Ic;have hh:dc l p.x1=cT (sq (LN p.x1) l) 0:=sJ.symm;rw[hh];unfold Lm sq;cases h:Np (LN p.x1) l with
 |none=>rfl
 |some k =>
  have hk:=(xF h).1;simp only;rw[aR (by simp),show wm l (k:Int) (ay l)=some (l.drop k) by
   unfold wm ay;rw[if_pos (by omega)];congr 1;rw[QeR];· rfl
   ·simp]
  rw[af,R1 (by simp;omega),af,show cT (k:Int) 0=true by simp]
  cases dc l p.x0 <;> cases dc (l.drop k) p.x0 <;> rfl
theorem Sa{r:aD}(hx:dn x)(hl:r.ak.length<=1048576):rY x r=some (Ol x r.ak):=by
 unfold rY Ol;by_cases h0:r.ak.length=0
 ·rw[bk (by simp [ay,h0]),if_pos h0]
 rw[aR (by simp only[ay,rC];omega),if_neg h0,Y3 hl,af]
 by_cases h1:r.ak.any (λv=>!S2 x v)=true
 ·rw[bk h1,if_pos h1]
 have h1':r.ak.any (λv=>!S2 x v)=false:=by simpa using h1
 rw[aR h1',if_neg h1,Y4 hl h1',af];by_cases h2:r.ak.any (L7 x)=true
 ·rw[bk h2,if_pos h2]
 rw[aR (by simpa using h2),if_neg h2,Qi7 hl,af]
 by_cases h3:¬r.ak.Nodup
 ·rw[bk (Qdl h3),if_pos h3]
 rw[aR (QbV h3),if_neg h3,Qft hx hl h1',af];by_cases h4:r.ak.any (λv=>!wa x r.ak v)=true
 ·rw[aR (by rw[h4];rfl),if_pos h4]
 rw[bk (by simpa using h4),if_neg h4]
 have ha:=hx.dx;have hb:=hx.before;rw[cN (fD (B:=λs=>i_ x r s) (l:=x.dx) (by omega) (wB r.ak) (y:=(.inr 20:Unit⊕Int)) (N:=.inl ()) (λi a h=>by
  show i_ x r i=_;unfold i_;rw[cO h,R1 hl,af,R1 hl,af,ml h (by omega)]
  unfold wB;cases dc r.ak a.x0 <;> cases dc r.ak a.x1 <;> rfl) (by
  show i_ x r x.dx.length=_;unfold i_;rw[cG]))]
 by_cases h5:x.dx.any (wB r.ak)=true
 ·rw[if_pos h5,if_pos h5];rfl
 rw[if_neg h5,if_neg h5,c5];rw[cN (fD (B:=λs=>ja x r s) (l:=x.before) (by omega) (Ic r.ak) (y:=(.inr 21:Unit⊕Int)) (N:=.inl ()) (λi a h=>by
  show ja x r i=_;unfold ja;rw[cO h,Qcp hl,af,ml h (by omega)]
  cases Ic r.ak a <;> rfl) (by
  show ja x r x.before.length=_;unfold ja;rw[cG]))]
 by_cases h6:x.before.any (Ic r.ak)=true
 ·rw[if_pos h6,if_pos h6];rfl
 ·rw[if_neg h6,if_neg h6];rfl
structure GH (l:List ab) (s:Int):Prop where
 ex:∃m:Nat,s=m/\m<1024/\∀i:Nat,m.testBit i=dc l (i:Int)
end
def ot:Nat->(Nat->Int)->Int
 |0,_=>0
 |n+1,f=>ot n f+f n
theorem Gz{f g:Nat->Int}:∀n,(∀i,i<n->f i=g i)->ot n f=ot n g
 |0,_=>rfl
 |n+1,h=>by unfold ot;rw[Gz n λi hi=>h i (by omega),h n (by omega)]
theorem JK{f g:Nat->Int}{o:Nat}:∀n,o<n->(∀i,i≠o->g i=f i)->ot n g=ot n f+(g o-f o)
 |0,h,_=>by omega
 |n+1,h,hg=>by
  unfold ot;rcases Qjh (Nat.le_of_lt_succ h)with h'|rfl
  ·rw[JK n h' hg,hg n (by omega)];omega
  ·rw[Gz _ λi hi=>hg i (by omega)];omega
theorem V3{f:Nat->Int}{n:Nat}: ∀m,n<=m->(∀i,n<=i->f i = 0)->ot m f = ot n f
  | 0, h, _ => by obtain rfl : n = 0 := by omega
                  rfl
  | m + 1, h, hf => by
    rcases Qjh h with h' |rfl
    · unfold ot;rw[V3 m (by omega) hf,hf m (by omega)]
      cases n <;> simp [ot]
    · rfl
theorem Ov{f:Nat->Int}{c:Int}(hc:0<=c):∀n,(∀i,0<=f i/\f i<=c)->0<=ot n f/\ot n f<=n*c
 |0,_=>by simp [ot]
 |n+1,h=>by
  have h1:=Ov hc n h;have h2:=h n;unfold ot;rw[show((n+1:Nat):Int)*c=n*c+c by rw[Qjo,Qkl];simp]
  omega
def dR(D:Nat)(f:Nat->Int):List Int:=(List.range D).map f
theorem fJ{D:Nat}{f:Nat->Int}:(dR D f).length=D:=by simp [dR]
theorem nf{D:Nat}{f:Nat->Int}{k:Nat}(h:k<D):(dR D f)[k]?=some (f k):=by simp [dR,h]
theorem qZ{D:Nat}{f g:Nat->Int}(h:∀d,d<D->f d=g d):dR D f=dR D g:=by
 unfold dR;exact List.map_congr_left λd hd=>h d (Qf4.1 hd)
theorem Qao{D:Nat}{f:Nat->Int}{k:Nat}{y:Int}(h:k<D):jq (dR D f) (k:Int) y=dR D (λd=>if d=k then y else f d):=by
 unfold jq;refine Qga λi=>?_
 rw[List.getElem?_set];simp only[QaC,fJ];split
 ·rename_i he;subst he;exact((nf (f:=λd=>if d=k then y else f d) h).trans (by simp)).symm
 ·rename_i he;rcases sh i D with h'|h'
  ·rw[nf h',nf h',if_neg (by omega)]
  ·rw[Qbp (by rw[fJ];omega),Qbp (by rw[fJ];omega)]
theorem Qk_{l:List Int}:l=dR l.length (λd=>l.getD d 0):=by
 refine Qga λi=>?_
 rcases sh i l.length with h|h
 ·rw[nf h,dr h,Qbo,dr h];rfl
 ·rw[Qbp h,Qbp (by rw[fJ];omega)]
theorem UW{D:Nat}{f g h:Nat->Int}(hD:D<=3){B:List Int×Int->O ((List Int×Int)⊕(List Int))}
  (qc:∀(k:Nat) (l1:List Int),k<D->l1.length=D->B (l1,(k:Int))=some (.inl (jq l1 k (h k),(k:Int)+1))) (Bp:∀l1:List Int,B (l1,(D:Int))=some (.inr l1)):
  aL B (List.replicate D 0,0)=some (dR D h):=by
 have h0:(List.replicate D (0:Int),(0:Int))=(dR D (λd=>if d<0 then h d else 0),((0:Nat):Int)):=by
  congr 1;refine Qga λi=>?_
  rcases sh i D with h|h
  ·rw[nf h];simp [h]
  ·rw[Qbp (by simp;omega),Qbp (by rw[fJ];omega)]
 rw[h0];refine gQ D (λk=>(dR D (λd=>if d<k then h d else 0),(k:Int))) (by omega) (λk hk=>?_) ?_
 ·rw[qc k _ hk fJ,Qao hk];simp only[Qjo,Int.cast_ofNat_Int];congr 3;refine qZ λd hd=>?_
  by_cases h1:d=k
  ·rw[if_pos h1,if_pos (by omega),h1]
  ·rw[if_neg h1];by_cases h2:d<k
   ·rw[if_pos h2,if_pos (by omega)]
   ·rw[if_neg h2,if_neg (by omega)]
 ·rw[Bp];congr 2;exact qZ λd hd=>if_pos hd
theorem QaN{D:Nat}{f g:Nat->Int}(hD:D<=3)(hf:∀d,d<D->-4000000000<=f d/\f d<=4000000000)(hg:∀d,d<D->-4000000000<=g d/\g d<=4000000000):xb (dR D f) (dR D g)=some (dR D (λd=>f d+g d),0):=by
 unfold xb sM;rw[aR (by simp [ay,fJ])]
 have hm:Bd (ay (dR D f)) (ay (dR D f)) 8 (0:Int)=some (List.replicate D 0):=by
  unfold Bd ay;rw[fJ,if_pos (by omega)]
  rfl
 rw[hm,af];rw[cN (UW (D:=D) (f:=f) (g:=g) (h:=λd=>f d+g d) hD (B:=λs=>fL (dR D f) (dR D g) (List.replicate D 0) s.1 s.2) (λk l1 hk hl=>by
  have a1:=hf k hk;have a2:=hg k hk;show fL (dR D f) (dR D g) (List.replicate D 0) l1 k=_;unfold fL FF;rw[cO (nf hk),bB (nf hk),af,af,Qbk (by omega),af,dZ (by omega) (by omega),dZ (by omega) (by omega)]) (λl1=>by
  show fL (dR D f) (dR D g) (List.replicate D 0) l1 D=_;unfold fL;rw[aR (by simp [ay,fJ])]))]
 rfl
theorem Qgw{D:Nat}{f g:Nat->Int}(hD:D<=3)(hf:∀d,d<D->-4000000000<=f d/\f d<=4000000000)(hg:∀d,d<D->-4000000000<=g d/\g d<=4000000000):zJ (dR D f) (dR D g)=some (dR D (λd=>f d-g d),0):=by
 unfold zJ re;rw[aR (by simp [ay,fJ])]
 have hm:Bd (ay (dR D f)) (ay (dR D f)) 8 (0:Int)=some (List.replicate D 0):=by
  unfold Bd ay;rw[fJ,if_pos (by omega)]
  rfl
 rw[hm,af];rw[cN (UW (D:=D) (f:=f) (g:=g) (h:=λd=>f d-g d) hD (B:=λs=>fu (dR D f) (dR D g) (List.replicate D 0) s.1 s.2) (λk l1 hk hl=>by
  have a1:=hf k hk;have a2:=hg k hk;show fu (dR D f) (dR D g) (List.replicate D 0) l1 k=_;unfold fu De;rw[cO (nf hk),bB (nf hk),af,af,Qbk (by omega),af,nd (by omega) (by omega),dZ (by omega) (by omega)]) (λl1=>by
  show fu (dR D f) (dR D g) (List.replicate D 0) l1 D=_;unfold fu;rw[aR (by simp [ay,fJ])]))]
 rfl
section
variable {x : ae} {l : List ab} {r : aD}
theorem GH.Has{s:Int}(h:GH l s){i:Int}(h0:0<=i)(h1:i<=62):iN s i=some (dc l i):=by
 obtain⟨m,rfl,hm,hb⟩:=h.ex;obtain⟨k,rfl⟩:∃k:Nat,i=k:=⟨i.toNat,by omega⟩
 unfold iN;rw[bk (by simp;omega),eU (by omega),QfD (by omega)]
 have hd:=Qf3 m (2 ^ k);rw[show(1:Int)=((1:Nat):Int)from rfl,QgJ (by omega) (by omega),QmV,<-hb,Ql6]
 congr 1;generalize m / 2 ^ k=q;rw[Qdg,kp,QbB];omega
theorem Yk(hx:dn x)(hl:r.ak.length<=1048576)(ho:r.ak.any (λv=>!S2 x v)=false):post (tA r) λs=>s.2=0/\GH r.ak s.1:=by
 have Qe4:=hx.ai;unfold tA;refine xk ?_
 refine dP (λs=>∃(k m:Nat),s=((m:Int),(k:Int))/\k<=r.ak.length/\m<1024/\∀i:Nat,m.testBit i=dc (r.ak.take k) (i:Int)) (λs=>r.ak.length-s.2.toNat) ⟨0,0,rfl,QaD _,by omega,λi=>by simp [dc]⟩ (by simp;omega) ?_
 rintro _ ⟨k,m,rfl,hk,hm,hb⟩;show post (pQ r (m:Int) (k:Int)) _;unfold pQ;rcases sh k r.ak.length with h|h
 ·have e:r.ak[k]?=some r.ak[k]:=dr h;have qc:=rG ho (QaH h);have TX:r.ak.take (k+1)=r.ak.take k++[r.ak[k]]:=by rw[Qdp,e];rfl
  generalize r.ak[k]=v at e qc TX;obtain⟨n,hn⟩:∃n:Nat,v.aP=n:=⟨v.aP.toNat,by omega⟩
  have hov:∀i:Nat,dc (r.ak.take (k+1)) (i:Int)=(dc (r.ak.take k) (i:Int)||decide (n=i)):=λi=>by
   rw[TX];unfold dc;rw[List.any_append,List.any_cons,List.any_nil,Bool.or_false];congr 1;rw[Qdg,zj,hn,QbB];omega
  have h2:2 ^ n<=2 ^ 9:=Qb2 (by omega) (by omega)
  rw[cO e,aR (by rw[hn];simp;omega),eU (by omega),ml e hl,hn,Qaa (by omega),orN (by omega) (by omega)]
  have IC:∀i,(m |||2 ^ n).testBit i=dc (r.ak.take (k+1)) (i:Int):=λi=>by rw[Nat.testBit_or,Qko,hov,hb]
  refine cZ ⟨⟨k+1,m |||2 ^ n,by simp,h,?_,IC⟩,by simp;omega⟩
  exact Qkt (n:=10) hm (by omega)
 ·obtain rfl:k=r.ak.length:=by omega
  rw[cG];refine dd ?_
  rw[c5];exact aI.2 ⟨rfl,⟨m,rfl,hm,λi=>by rw[hb,QbC]⟩⟩
def AX(l:List ab):Nat->List Int
 |0=>[]
 |n+1=>AX l n++(if dc l (n:Int)=true then [(n:Int)]else [])
theorem EM:∀n,(AX l n).length<=n
 |0=>fa 0
 |n+1=>by have:=EM n;unfold AX;split <;> simp <;> omega
theorem Fl{s:Int}(h:GH l s):sW s=some (AX l 63):=by
 unfold sW;have this:aL (λq:List Int×Int=>jx s q.1 q.2) ([],0)=some (AX l 63):=gQ 63 (λk=>(AX l k,(k:Int))) (B:=λq=>jx s q.1 q.2) (by omega) (λk hk=>by
  show jx s (AX l k) (k:Int)=_;have:=EM (l:=l) k;unfold jx;rw[bk (by simp;omega),h.Has (by omega) (by omega),af,dZ (by omega) (by omega),eU (by unfold fQ;simp;omega),Ec]
  show _=some (Sum.inl (AX l k++(if dc l (k:Int)=true then [(k:Int)]else []),((k+1:Nat):Int)))
  split <;> simp) (by
  show jx s (AX l 63) ((63:Nat):Int)=_;unfold jx;rw[aR (by decide)])
 rw[cN this]
end
def jZ{α:Type}(f:α->Int)(l:List α):Int:=(l.map f).sum
theorem Fa{α:Type}{f:α->Int}{a b:List α}:jZ f (a++b)=jZ f a+jZ f b:=by simp [jZ,List.sum_append]
theorem Fb{α:Type}{f:α->Int}{a:α}:jZ f [a]=f a:=by simp [jZ]
theorem TI{α:Type}{f:α->Int}:jZ f []=0:=rfl
theorem take_one{α:Type}{l:List α}{k:Nat}{a:α}(h:l[k]?=some a):l.take (k+1)=l.take k++[a]:=by rw[Qdp,h];rfl
theorem V0{α:Type}{f:α->Int}{l:List α}{k:Nat}{a:α}(h:l[k]?=some a):jZ f (l.take (k+1))=jZ f (l.take k)+f a:=by rw[take_one h,Fa,Fb]
theorem XZ{α:Type}{f:α->Int}:∀{l:List α},(∀a∈l,0<=f a/\f a<=1000)->0<=jZ f l/\jZ f l<=1000*l.length
 | [],_=>by simp [jZ]
 |a ::l,h=>by
  have h1:=XZ (f:=f) (l:=l) λb hb=>h b (QaK _ hb)
  have h2:=h a (Qbm ..);have e:jZ f (a ::l)=f a+jZ f l:=by simp [jZ]
  rw[e,QaA];omega
section
variable (x : ae)
def mh(i d:Nat):Int:=match x.ai[i]? with
 |some o=>o.load.getD d 0
 |none=>0
def jO(i:Nat):Bool:=match x.ai[i]? with
 |some o=>decide (o.pick.place<0)
 |none=>false
def L8(l:List ab)(i:Nat):Bool:=l.foldl (λb v=>if v.aP=(i:Int)then !v.drop else b) (jO x i)
def QX(l:List ab)(k i d:Nat):Int:=if(dc l (i:Int)&&L8 x (l.take k) i)=true then mh x i d else 0
def qw(l:List ab)(k d:Nat):Int:=ot x.ai.length λi=>QX x l k i d
end
section
variable {x : ae} {l : List ab} {r : aD}
theorem Jb(hx:dn x){i:Nat}(hi:i<x.ai.length):∃o,x.ai[i]?=some o/\o∈x.ai/\o.load=dR (cU x.types) (mh x i)/\(∀d,0<=mh x i d/\mh x i d<=1000)/\jO x i=decide (o.pick.place<0):=by
 have e:x.ai[i]?=some x.ai[i]:=dr hi;have hm:=QaH hi;generalize x.ai[i]=o at e hm;have hO:=hx.ord o hm;refine⟨o,e,hm,?_,λd=>?_,by unfold jO;rw[e]⟩
 ·have:=Qk_ (l:=o.load);rw[hO.load]at this;rw[this];refine qZ λd hd=>?_
  unfold mh;rw[e]
 ·unfold mh;rw[e];simp only;rw[Qbo];rcases sh d o.load.length with h|h
  ·rw[dr h];exact hO.Qql d h _ (dr h)
  ·rw[Qbp h];simp
theorem S6(hx:dn x)(i d:Nat):0<=mh x i d/\mh x i d<=1000:=by
 rcases sh i x.ai.length with h|h
 ·obtain⟨o,_,_,_,h,_⟩:=Jb hx h;exact h d
 ·unfold mh;rw[Qbp h];simp
theorem Qih(hx:dn x)(k d:Nat):0<=qw x l k d/\qw x l k d<=10000:=by
 have h:=Ov (f:=λi=>QX x l k i d) (c:=1000) (by omega) x.ai.length λi=>by
  have:=S6 hx i d;unfold QX;split <;> omega
 have:=hx.ai;unfold qw;omega
theorem Fw(hx:dn x):1<=cU x.types/\cU x.types<=3:=by
 have h1:=hx.Qi8;cases ht:x.types with
 |nil=>rw[ht]at h1;simp at h1
 |cons t ts =>
  have:=(hx.Ed t (by rw[ht];simp)).Qo5
  rw[ht]at this;exact this
structure kg (x:ae) (l:List ab):Prop where
 ne:l.length≠0
 W_:l.any (λv=>!S2 x v)=false
 off:l.any (L7 x)=false
 nodup:l.Nodup
 pair:∀v∈l,wa x l v=true
 dx:x.dx.any (wB l)=false
 before:x.before.any (Ic l)=false
theorem RZ(h:Ol x l=0):kg x l:=by
 unfold Ol at h;by_cases h0:l.length=0
 ·rw[if_pos h0]at h;cases h
 rw[if_neg h0]at h;by_cases h1:l.any (λv=>!S2 x v)=true
 ·rw[if_pos h1]at h;cases h
 rw[if_neg h1]at h;by_cases h2:l.any (L7 x)=true
 ·rw[if_pos h2]at h;cases h
 rw[if_neg h2]at h;by_cases h3:¬l.Nodup
 ·rw[if_pos h3]at h;cases h
 rw[if_neg h3]at h;by_cases h4:l.any (λv=>!wa x l v)=true
 ·rw[if_pos h4]at h;cases h
 rw[if_neg h4]at h;by_cases h5:x.dx.any (wB l)=true
 ·rw[if_pos h5]at h;cases h
 rw[if_neg h5]at h;by_cases h6:x.before.any (Ic l)=true
 ·rw[if_pos h6]at h;cases h
 refine⟨h0,by simpa using h1,by simpa using h2,Classical.not_not.1 h3,λv hv=>?_,by simpa using h5,by simpa using h6⟩
 have:=QeP.1 (by simpa using h4:l.any (λv=>!wa x l v)=false) v hv
 simpa using this
theorem Ep{b:Bool}{i:Nat}:∀{m:List ab},(∀v∈m,v.aP≠(i:Int))->m.foldl (λb v=>if v.aP=(i:Int)then !v.drop else b) b=b
 | [],_=>rfl
 |v ::m,h=>by
  rw[Qfg,if_neg (h v (Qbm ..))];exact Ep λw hw=>h w (QaK _ hw)
theorem SI{c:Bool}{i:Nat}:∀{m:List ab} {b:Bool},(∀v∈m,v.aP=(i:Int)->v.drop=c)->(b=(!c)\/∃v∈m,v.aP=(i:Int))->m.foldl (λb v=>if v.aP=(i:Int)then !v.drop else b) b=!c
 | [],b,_,h=>by
  rcases h with h|⟨v,hv,_⟩
  ·exact h
  ·cases hv
 |v ::m,b,h,h'=>by
  rw[Qfg];by_cases hv:v.aP=(i:Int)
  ·rw[if_pos hv];exact SI (λw hw=>h w (QaK _ hw)) (.inl (by rw[h v (Qbm ..) hv]))
  ·rw[if_neg hv];refine SI (λw hw=>h w (QaK _ hw)) ?_
   rcases h' with h'|⟨w,hw,he⟩
   ·exact .inl h'
   ·rcases Qbt.1 hw with rfl|hw
    ·exact absurd he hv
    ·exact .inr ⟨w,hw,he⟩
theorem yF{j k:Nat}(h:l.Nodup){v:ab}(hj:l[j]?=some v)(hk:l[k]?=some v):j=k:=by
 refine QhJ λlN=>?_
 have Nl:=(pB.1 hj).1;have xw:=(pB.1 hk).1;refine(nodup_iff.2 ?_) h;rcases Nat.lt_or_gt_of_ne lN with iq|iq
 ·exact⟨k,xw,j,iq,by rw[hj,hk]⟩
 ·exact⟨j,Nl,k,iq,by rw[hj,hk]⟩
theorem ZH(hx:dn x)(h:kg x l){k:Nat}{v:ab}(hk:l[k]?=some v){i:Nat}(hi:v.aP=(i:Int)):L8 x (l.take k) i=v.drop:=by
 have hv:=QaG hk;have WU:=(pB.1 hk).1;have qc:=rG h.W_ hv;obtain⟨o,e,hm,_,_,hp⟩:=Jb hx (show i<x.ai.length by omega)
 have hO:=hx.ord o hm
 -- each visit of TJ aP is one of TJ QrD ak
 have SP:∀w∈l,w.aP=(i:Int)->w∈gv x (i:Int)/\KH l (gv x (i:Int))=true:=λw hw he=>by
  have:=h.pair w hw;unfold wa at this;rw[he,ma,GI]at this;exact this
 have nG:gv x (i:Int)=(if 0<=o.pick.place then [ab.mk i false]else [])++(if 0<=o.drop.place then [ab.mk i true]else []):=by
  unfold gv;rw[QaC,e]
 have same:∀w∈l.take k,w.aP=(i:Int)->w≠v:=λw hw _ he=>by
  obtain⟨j,hj,hje⟩:=(yV (by omega)).1 hw
  rw[he]at hje;have:=yF h.nodup hje hk;omega
 have RB:∀w:ab,w.aP=(i:Int)->w=ab.mk i w.drop:=λw hw=>by cases w;simp at hw;subst hw;rfl
 obtain⟨v1,v2⟩:=SP v hv hi;unfold L8;by_cases yx:0<=o.pick.place
 ·have iG:jO x i=false:=by rw[hp];simp;omega
  rw[if_pos yx]at nG;by_cases Va:0<=o.drop.place
  ·rw[if_pos Va]at nG;rw[nG]at v2;simp only[Qhz,Qlf,KH,ma,gX,ew]at v2;obtain⟨p,Fe⟩:∃p:Nat,sq (o7 (ab.mk i false)) l=p:=⟨(sq (o7 (ab.mk i false)) l).toNat,by omega⟩
   obtain⟨q,hqq⟩:∃q:Nat,sq (o7 (ab.mk i true)) l=q:=⟨(sq (o7 (ab.mk i true)) l).toNat,by omega⟩
   obtain⟨p1,p2⟩:=DK Fe;obtain⟨q1,q2⟩:=DK hqq;have hpq:p<q:=by omega
   cases hd:v.drop with
   |false =>
    have hve:=RB v hi;rw[hd]at hve;have hkp:k=p:=yF h.nodup (hve▸hk) p1;rw[Ep λw hw he=>?_,iG]
    have hwe:=RB w he;cases hwd:w.drop with
    |false=>rw[hwd]at hwe;exact same w hw he (hwe.trans hve.symm)
    |true =>
     rw[hwd]at hwe;obtain⟨j,hj,hje⟩:=(yV (by omega)).1 hw
     have:=yF h.nodup (hwe▸hje) q1;omega
   |true =>
    have hve:=RB v hi;rw[hd]at hve;have hkq:k=q:=yF h.nodup (hve▸hk) q1;refine SI (c:=false) (λw hw he=>?_) (.inr ⟨ab.mk i false,(yV (by omega)).2 ⟨p,by omega,p1⟩,rfl⟩)
    have hwe:=RB w he;cases hwd:w.drop with
    |false=>rfl
    |true=>rw[hwd]at hwe;exact absurd (hwe.trans hve.symm) (same w hw he)
  ·rw[if_neg Va,Qf1]at nG;have only:∀w∈l,w.aP=(i:Int)->w=ab.mk i false:=λw hw he=>by
    have:=(SP w hw he).1;rw[nG]at this;exact Qaz.1 this
   rw[Ep λw hw he=>same w hw he ((only w (Qi1 hw) he).trans (only v hv hi).symm),iG,only v hv hi]
 ·have iG:jO x i=true:=by rw[hp];simp;omega
  rw[if_neg yx,Qlf]at nG;have only:∀w∈l,w.aP=(i:Int)->w=ab.mk i true:=λw hw he=>by
   have:=(SP w hw he).1;rw[nG]at this;split at this
   ·exact Qaz.1 this
   ·cases this
  rw[Ep λw hw he=>same w hw he ((only w (Qi1 hw) he).trans (only v hv hi).symm),iG,only v hv hi]
theorem NL{k i:Nat}{v:ab}(hk:l[k]?=some v):L8 x (l.take (k+1)) i=if v.aP=(i:Int)then !v.drop else L8 x (l.take k) i:=by
 unfold L8;rw[take_one hk,Qhq];rfl
theorem QbS(hx:dn x)(h:kg x l){k:Nat}{v:ab}(hk:l[k]?=some v){i:Nat}(hi:v.aP=(i:Int))(d:Nat):
  qw x l (k+1) d=if v.drop=true then qw x l k d-mh x i d else qw x l k d+mh x i d:=by
 have qc:=rG h.W_ (QaG hk);unfold qw;rw[JK (f:=λj=>QX x l k j d) (g:=λj=>QX x l (k+1) j d) (o:=i) x.ai.length (by omega) (λj hj=>by
  show QX x l (k+1) j d=QX x l k j d;have e1:L8 x (l.take (k+1)) j=L8 x (l.take k) j:=by rw[NL hk,if_neg (by omega)]
  unfold QX;rw[e1])]
 have ha:dc l (i:Int)=true:=rD.2 ⟨v,QaG hk,hi⟩;simp only[QX,ha,Qe1];rw[NL hk,if_pos hi,ZH hx h hk hi];cases v.drop
 ·simp
 ·simp;omega
end
section
variable {x : ae} {l : List ab} {r : aD}
theorem YK(hx:dn x):B3 x.types=some (cU x.types:Int)/\True:=by
 have h1:=hx.Qi8;unfold B3;cases ht:x.types with
 |nil=>rw[ht]at h1;simp at h1
 |cons t ts =>
  constructor
  ·rw[aR (by simp [ay];omega)];rfl
  ·trivial
theorem I3{i:Int}:∀{n:Nat},i∈AX l n->∃k:Nat,i=k/\k<n/\dc l (k:Int)=true
 |0,h=>by cases h
 |n+1,h=>by
  unfold AX at h;rcases QaI.1 h with h|h
  ·obtain⟨k,h1,h2,h3⟩:=I3 h;exact⟨k,h1,by omega,h3⟩
  ·split at h
   ·exact⟨n,Qaz.1 h,by omega,‹_›⟩
   ·cases h
theorem Qbr(h:kg x l){i:Int}(hi:dc l i=true):0<=i/\i<x.ai.length:=by
 obtain⟨v,hv,rfl⟩:=rD.1 hi;exact rG h.W_ hv
theorem Sl{α β:Type}{a:β}{y z:O α}:br (cp (a,(0:Int)).2 0) y z=z:=rfl
def XW(x:ae)(d:Nat)(i:Int):Int:=if jO x i.toNat=true then mh x i.toNat d else 0
theorem Qn0(hx:dn x)(d:Nat)(i:Int):0<=XW x d i/\XW x d i<=1000:=by
 have:=S6 hx i.toNat d;unfold XW;split <;> omega
theorem Qea(d:Nat):∀n,jZ (XW x d) (AX l n)=ot n λi=>if(dc l (i:Int)&&jO x i)=true then mh x i d else 0
 |0=>rfl
 |n+1=>by
  show jZ (XW x d) (AX l n++(if dc l (n:Int)=true then [(n:Int)]else []))=ot n _+(if(dc l (n:Int)&&jO x n)=true then mh x n d else 0)
  rw[Fa,Qea d n];by_cases hh:dc l (n:Int)=true
  ·rw[if_pos hh,Fb,hh,Qe1];rfl
  ·rw[if_neg hh,TI,if_neg (by simp [hh])]
theorem QfI(hx:dn x)(h:kg x l){s:Int}(hs:GH l s):Ai x s (cU x.types:Int)=some (dR (cU x.types) (qw x l 0)):=by
 obtain⟨hd1,hd3⟩:=Fw hx;have Qe4:=hx.ai;have hm:=EM (l:=l) 63;unfold Ai;have hz:Bd (cU x.types:Int) (cU x.types:Int) 8 (0:Int)=some (dR (cU x.types) λd=>0):=by
  unfold Bd;rw[if_pos (by omega)]
  congr 1;refine Qga λi=>?_
  rcases sh i (cU x.types)with h|h
  ·rw[nf h];simp [h]
  ·rw[Qbp (by simp;omega),Qbp (by rw[fJ];omega)]
 rw[hz,af,Fl hs,af];have rF:∀i∈AX l 63,∃k:Nat,i=k/\k<63/\dc l (k:Int)=true:=λi hi=>I3 hi
 have Uf:∀d,jZ (XW x d) (AX l 63)=ot 63 λi=>if(dc l (i:Int)&&jO x i)=true then mh x i d else 0:=λd=>Qea d 63
 generalize AX l 63=M at *;have this:aL (λq:List Int×Int=>kj x (dR (cU x.types) λd=>0) M q.1 q.2) (dR (cU x.types) (λd=>0),0)=some (dR (cU x.types) λd=>jZ (XW x d) M):=by
  have:=gQ M.length (λk=>(dR (cU x.types) (λd=>jZ (XW x d) (M.take k)),(k:Int))) (B:=λq:List Int×Int=>kj x (dR (cU x.types) λd=>0) M q.1 q.2) (e:=dR (cU x.types) λd=>jZ (XW x d) M) (by omega) (λk hk=>by
   have e:M[k]?=some M[k]:=dr hk;obtain⟨i,hi,_,hh⟩:=rF _ (QaH hk);rw[hi]at e;have TU:=Qbr h hh;obtain⟨o,eo,hmo,ho,hb,hp⟩:=Jb hx (show i<x.ai.length by omega)
   show kj x (dR (cU x.types) λd=>0) M (dR (cU x.types) (λd=>jZ (XW x d) (M.take k))) (k:Int)=some (Sum.inl (dR (cU x.types) (λd=>jZ (XW x d) (M.take (k+1))),((k+1:Nat):Int)))
   unfold kj;rw[cO e,bB eo,af,ml e (by omega),ho]
   have step:∀d,jZ (XW x d) (M.take (k+1))=jZ (XW x d) (M.take k)+XW x d (i:Int):=λd=>V0 e
   have sb:∀d,0<=jZ (XW x d) (M.take k)/\jZ (XW x d) (M.take k)<=1000*(M.take k).length:=λd=>XZ λa _=>Qn0 hx d a
   have iq:(M.take k).length<=63:=by rw[Qdo];omega
   have ir:∀d,XW x d (i:Int)=if o.pick.place<0 then mh x i d else 0:=λd=>by
    unfold XW;rw[QaC,hp];simp
   by_cases Dc:o.pick.place<0
   ·rw[bk (by simpa using Dc),QaN hd3 (λd _=>by have:=sb d;omega) (λd _=>by have:=hb d;omega),af]
    congr 3;exact qZ λd _=>by rw[step,ir,if_pos Dc]
   ·rw[aR (by simp;omega)]
    congr 3;exact qZ λd _=>by rw[step,ir,if_neg Dc];omega) (by
   show kj x (dR (cU x.types) λd=>0) M (dR (cU x.types) (λd=>jZ (XW x d) (M.take M.length))) (M.length:Int)=_
   unfold kj;rw[cG,QbC])
  exact this
 rw[cN this];congr 1;refine qZ λd _=>?_
 rw[Uf,V3 (n:=x.ai.length) 63 (by omega) λi hi=>by
  rw[if_neg];intro hh;rw[ma]at hh;have:=Qbr h hh.1;omega]
 unfold qw QX;rfl
def gN(x:ae)(l:List ab)(n:Nat):List (List Int):=(List.range n).map λk=>dR (cU x.types) (qw x l k)
theorem LQ{n:Nat}:(gN x l n).length=n:=by simp [gN]
theorem Qt{n:Nat}:gN x l (n+1)=gN x l n++[dR (cU x.types) (qw x l n)]:=by simp [gN,List.range_succ]
theorem Qgm(hx:dn x)(hl:r.ak.length<=1048576)(h:kg x r.ak)(h0:Ol x r.ak=0):Ah x r=some (gN x r.ak (r.ak.length+1),0):=by
 obtain⟨hd1,hd3⟩:=Fw hx;have Qe4:=hx.ai;unfold Ah;rw[Sa hx hl,af,h0,aR (by decide)]
 obtain⟨s,hs,Vd,Kq⟩:=Yk hx hl h.W_;rw[hs,af,Vd,aR (by decide),(YK hx).1,af,QfI hx h Kq,af]
 have this:aL (λq:List (List Int)×List Int×Int=>ki x r q.1 q.2.1 q.2.2) ([dR (cU x.types) (qw x r.ak 0)],dR (cU x.types) (qw x r.ak 0),0)=some (.inl (gN x r.ak (r.ak.length+1))):=by
  have:=gQ r.ak.length (λk=>(gN x r.ak (k+1),dR (cU x.types) (qw x r.ak k),(k:Int))) (B:=λq:List (List Int)×List Int×Int=>ki x r q.1 q.2.1 q.2.2) (e:=.inl (gN x r.ak (r.ak.length+1))) (by omega) (λk hk=>by
   have e:r.ak[k]?=some r.ak[k]:=dr hk;have qc:=rG h.W_ (QaH hk);generalize r.ak[k]=v at e qc;obtain⟨i,hi⟩:∃i:Nat,v.aP=i:=⟨v.aP.toNat,by omega⟩
   obtain⟨o,eo,hmo,ho,hb,hp⟩:=Jb hx (show i<x.ai.length by omega)
   have ir:=QbS hx h e hi;have ur:=λd=>Qih (l:=r.ak) hx k d
   show ki x r (gN x r.ak (k+1)) (dR (cU x.types) (qw x r.ak k)) (k:Int)=some (Sum.inl (gN x r.ak (k+1+1),dR (cU x.types) (qw x r.ak (k+1)),((k+1:Nat):Int)));unfold ki;have ok:fQ (gN x r.ak (k+1)++[dR (cU x.types) (qw x r.ak (k+1))]).length 24:=by unfold fQ;simp [LQ];omega
   rw[cO e,hi,bB eo,af,af,ml e hl,ho,Qt (n:=k+1)];cases hd:v.drop with
   |true =>
    rw[dT,Qgw hd3 (λd _=>by have:=ur d;omega) (λd _=>by have:=hb d;omega),af,Sl]
    have ev:dR (cU x.types) (λd=>qw x r.ak k d-mh x i d)=dR (cU x.types) (qw x r.ak (k+1)):=qZ λd _=>by rw[ir,if_pos hd]
    simp only[ev];rw[eU ok];rfl
   |false =>
    rw[dX,QaN hd3 (λd _=>by have:=ur d;omega) (λd _=>by have:=hb d;omega),af,Sl]
    have ev:dR (cU x.types) (λd=>qw x r.ak k d+mh x i d)=dR (cU x.types) (qw x r.ak (k+1)):=qZ λd _=>by rw[ir,if_neg (by rw[hd];decide)]
    simp only[ev];rw[eU ok];rfl) (by
   show ki x r (gN x r.ak (r.ak.length+1)) (dR (cU x.types) (qw x r.ak r.ak.length)) (r.ak.length:Int)=_;unfold ki;rw[cG])
  exact this
 rw[cN this];rfl
def zx(cap a:List Int):Bool:=(List.range a.length).any λi=>dt (a.getD i 0) (cap.getD i 0)
theorem RF{a cap:List Int}(ha:a.length=cap.length)(hl:a.length<=1048576):sL a cap=some (!zx cap a)/\True:=by
 have g:∀i,i<a.length->a[i]?=some (a.getD i 0)/\cap[i]?=some (cap.getD i 0):=λi hi=>by
  rw[Qbo,Qbo,dr hi,dr (show i<cap.length by omega)]
  exact⟨rfl,rfl⟩
 have hb:zx cap a=true↔∃k,k<a.length/\dt (a.getD k 0) (cap.getD k 0)=true:=by
  unfold zx;rw[Qf0];exact⟨λ⟨k,hk,h⟩=>⟨k,Qf4.1 hk,h⟩,λ⟨k,hk,h⟩=>⟨k,Qf4.2 hk,h⟩⟩
 constructor
 ·unfold sL;rw[aR (by simp [ay,ha]),cN (Jp (B:=λs=>oL a cap s) hl (λk=>dt (a.getD k 0) (cap.getD k 0)) (y:=(.inr false:Unit⊕Bool)) (N:=.inl ()) hb (λi hi=>by
   show oL a cap i=_;unfold oL;rw[cO (g i hi).1,bB (g i hi).2,af,inc hi hl,Ec]) (by
   show oL a cap a.length=_;unfold oL;rw[cG]))]
  cases zx cap a <;> rfl
 ·trivial
def YW(x:ae)(r:aD):Int:=if(gN x r.ak (r.ak.length+1)).any (zx (bG x r).cap)=true then 17 else 0
theorem GA(h0:0<=r.bt)(h1:r.bt<x.types.length):bn x.types r.bt=some (bG x r)/\bG x r∈x.types:=by
 have e:x.types[r.bt.toNat]?=some (x.types[r.bt.toNat]'(by omega)):=dr _
 have ht:bG x r=x.types[r.bt.toNat]'(by omega):=by unfold bG;rw[Qbo,e];rfl
 rw[ht];exact⟨Db h0 h1,QaH _⟩
theorem QjA(hx:dn x)(hl:r.ak.length<=1000000)(h0:Ol x r.ak=0)(ht:0<=r.bt/\r.bt<x.types.length):BV x r=some (YW x r)/\True:=by
 have h:=RZ h0;obtain⟨t1,t2⟩:=GA ht.1 ht.2;have SQ:=(hx.Ed _ t2).cap;have hd:=Fw hx;have lens:∀a∈gN x r.ak (r.ak.length+1),a.length=(bG x r).cap.length:=λa ha=>by
  obtain⟨k,_,rfl⟩:=QdX.1 ha;rw[fJ,SQ]
 have hlen:=LQ (x:=x) (l:=r.ak) (n:=r.ak.length+1);constructor
 ·unfold BV;rw[aR (by simp [ay];omega),Qgm hx (by omega) h h0,af,Sl]
  have:=Bw (B:=λs=>cJ (gN x r.ak (r.ak.length+1)) x r s) (l:=gN x r.ak (r.ak.length+1)) (by omega) (zx (bG x r).cap) (λk=>(.inr (k:Int):Unit⊕Int)) (N:=.inl ()) (λi a h=>by
   have hm:=lens a (QaG h);show cJ (gN x r.ak (r.ak.length+1)) x r i=_;unfold cJ Bm;rw[cO h,t1,af,(RF hm (by omega)).1,af,af,ml h (by omega),Bool.not_not,Ec]) (by
   show cJ (gN x r.ak (r.ak.length+1)) x r (gN x r.ak (r.ak.length+1)).length=_;unfold cJ;rw[cG])
  have e:eE (gN x r.ak (r.ak.length+1)) x r=some (sq (zx (bG x r).cap) (gN x r.ak (r.ak.length+1))):=by
   unfold eE;rw[cN this];unfold sq;cases Np (zx (bG x r).cap) (gN x r.ak (r.ak.length+1)) <;> rfl
  unfold fg;simp only;rw[e,af,af,sJ,Ec];rfl
 ·trivial
end
theorem Qin{m:List (Int×Int)}{k k' v z:Int}:wM dk (EL dk m k v) k' z=if k'=k then v else wM dk m k' z:=by
 induction m with
 |nil =>
  unfold EL wM wM;by_cases h:k'=k
  ·rw[if_pos h,show dk k' k=true by simpa using h];rfl
  ·rw[if_neg h,show dk k' k=false by simpa using h];rfl
 |cons p r ih =>
  unfold EL;cases hp:dk k p.1 with
  |true =>
   have iG:k=p.1:=by simpa using hp
   simp only[QaF];unfold wM;by_cases h:k'=k
   ·rw[if_pos h,show dk k' k=true by simpa using h];rfl
   ·rw[if_neg h,show dk k' k=false by simpa using h,show dk k' p.1=false by rw[<-iG];simpa using h];rfl
  |false =>
   have iG:k≠p.1:=by simpa using hp
   simp only[Qdn];unfold wM;rw[ih];by_cases h:k'=k
   ·rw[if_pos h,show dk k' p.1=false by rw[h];exact hp,if_pos h];rfl
   ·rw[if_neg h,if_neg h]
section
variable {x : ae} {l : List ab} {r : aD} {s0 : a8}
def Lz(l:List ab)(o:Int):Int:=jZ (λv:ab=>if v.aP=o then 1 else 0) l
theorem Ww{o:Int}:0<=Lz l o/\Lz l o<=l.length/\(0<Lz l o↔dc l o=true):=by
 induction l with
 |nil=>simp [Lz,jZ,dc]
 |cons v l ih =>
  have e:Lz (v ::l) o=(if v.aP=o then 1 else 0)+Lz l o:=by simp [Lz,jZ]
  have e2:dc (v ::l) o=(LN o v||dc l o):=by simp [dc]
  rw[e,e2,QaA,QeZ,zj];split
  ·rename_i h;refine⟨by omega,by omega,λ_=>.inl h,λ_=>by omega⟩
  ·rename_i h;refine⟨by omega,by omega,λh'=>.inr (ih.2.2.1 (by omega)),λh'=>?_⟩
   rcases h' with h'|h'
   ·exact absurd h' h
   ·have:=ih.2.2.2 h';omega
def QZ(l:List ab):List (Int×Int):=l.foldl (λm v=>EL dk m v.aP (aV .i64 (wM dk m v.aP 0) 1)) []
theorem Vv{v:ab}:QZ (l++[v])=EL dk (QZ l) v.aP (aV .i64 (wM dk (QZ l) v.aP 0) 1):=by simp [QZ]
theorem Qio{l:List ab}(hl:l.length<=1048576)(o:Int):wM dk (QZ l) o 0=Lz l o:=by
 have main:∀k,k<=l.length->wM dk (QZ (l.take k)) o 0=Lz (l.take k) o:=by
  intro k hk;induction k generalizing o with
  |zero=>rfl
  |succ k ih =>
   have e:l[k]?=some l[k]:=dr (by omega)
   generalize l[k]=v at e;rw[take_one e,Vv,Qin];have e2:Lz (l.take k++[v]) o=Lz (l.take k) o+(if v.aP=o then 1 else 0):=by unfold Lz;rw[Fa,Fb]
   have hb:=(Ww (l:=l.take k) (o:=v.aP)).2.1;have RM:=(Ww (l:=l.take k) (o:=v.aP)).1;have hlen:(l.take k).length<=k:=by rw[Qdo];omega
   rw[e2,ih v.aP (by omega),ih o (by omega),dZ (by omega) (by omega)]
   by_cases h:o=v.aP
   ·rw[if_pos h,if_pos h.symm,h]
   ·rw[if_neg h,if_neg λh'=>h h'.symm];omega
 have:=main l.length (fa _);rwa [QbC]at this
def xE(kind own:Int):Bool:=cp kind (-1)&&cp kind own
def tf(b:Bool):Int:=if b=true then 1 else 0
def dY(x:ae)(r:aD):Nat->Int×Int
 |0=>(0,0)
 |k+1=>match r.ak[k]? with
  |none=>dY x r k
  |some v=>match(if 0<=v.aP then x.ai[v.aP.toNat]? else none)with
   |none=>dY x r k
   |some o=>if dc (r.ak.take k) v.aP=true then dY x r k else((dY x r k).1+tf (xE o.now r.bt),(dY x r k).2+tf (xE o.cr r.bt))
theorem JT{b:Bool}:0<=tf b/\tf b<=1:=by cases b <;> simp [tf]
theorem Jc:∀k,(0<=(dY x r k).1/\(dY x r k).1<=k)/\(0<=(dY x r k).2/\(dY x r k).2<=k)
 |0=>by simp [dY]
 |k+1=>by
  have ih:=Jc k;unfold dY;split
  ·omega
  ·split
   ·omega
   ·rename_i o _;have h1:=JT (b:=xE o.now r.bt);have h2:=JT (b:=xE o.cr r.bt);split
    ·omega
    ·simp only;omega
theorem VG(hx:dn x):∀k,k<=r.ak.length->(dY x r k).1<=ot x.ai.length (λi=>tf (dc (r.ak.take k) (i:Int)))/\(dY x r k).2<=ot x.ai.length (λi=>tf (dc (r.ak.take k) (i:Int)))
 |0,_=>by
  have:=(Ov (f:=λi=>tf (dc (r.ak.take 0) (i:Int))) (c:=1) (by omega) x.ai.length λi=>JT).1
  simp only[dY];omega
 |k+1,hk=>by
  have ih:=VG hx k (by omega)
  have e:r.ak[k]?=some r.ak[k]:=dr (by omega)
  generalize r.ak[k]=v at e;have hh:∀i:Nat,dc (r.ak.take (k+1)) (i:Int)=(dc (r.ak.take k) (i:Int)||LN (i:Int) v):=λi=>by rw[take_one e];simp [dc]
  have mono:ot x.ai.length (λi=>tf (dc (r.ak.take k) (i:Int)))<=ot x.ai.length (λi=>tf (dc (r.ak.take (k+1)) (i:Int))):=by
   generalize x.ai.length=n;induction n with
   |zero=>exact QaJ _
   |succ n ihn =>
    show ot n (λi=>tf (dc (r.ak.take k) (i:Int)))+tf (dc (r.ak.take k) (n:Int))<=ot n (λi=>tf (dc (r.ak.take (k+1)) (i:Int)))+tf (dc (r.ak.take (k+1)) (n:Int))
    have:=hh n;have h2:tf (dc (r.ak.take k) (n:Int))<=tf (dc (r.ak.take (k+1)) (n:Int)):=by
     rw[this];cases dc (r.ak.take k) (n:Int) <;> cases LN (n:Int) v <;> simp [tf]
    omega
  unfold dY;rw[e];simp only;split
  ·omega
  ·rename_i o ho;split at ho
   ·rename_i h0;have iq:=(pB.1 ho).1;have h1:=JT (b:=xE o.now r.bt);have h2:=JT (b:=xE o.cr r.bt);split
    ·omega
    ·rename_i hn;obtain⟨i,hi⟩:∃i:Nat,v.aP=i:=⟨v.aP.toNat,by omega⟩
     rw[hi]at hn iq;have up:=JK (f:=λi=>tf (dc (r.ak.take k) (i:Int))) (g:=λi=>tf (dc (r.ak.take (k+1)) (i:Int))) (o:=i) x.ai.length (by omega) (λj hj=>by
      have hjf:LN (j:Int) v=false:=by
       rw[QfN];intro h;have:=zj.1 h;omega
      show tf (dc (r.ak.take (k+1)) (j:Int))=tf (dc (r.ak.take k) (j:Int));rw[hh,hjf,Bool.or_false])
     rw[up];have e1:tf (dc (r.ak.take (k+1)) (i:Int))=1:=by rw[hh,zj.2 hi,Bool.or_true];rfl
     have e2:tf (dc (r.ak.take k) (i:Int))=0:=by rw[QfN.2 hn];rfl
     rw[e1,e2];omega
   ·cases ho
def QfB(x:ae)(r:aD)(s0:a8):cb:=
 cb.mk (aV .i64 (aV .i64 (bG x r).gA (nh .i64 (bG x r).cP s0.cV)) (nh .i64 (bG x r).de (cX .i64 s0.j8 (bG x r).bA))) (dY x r r.ak.length).1 (dY x r r.ak.length).2 (nh .i64 (q_ .i64 (cX .i64 s0.j8 (bG x r).bA) 64) (q_ .i64 (cX .i64 s0.j8 (bG x r).bA) 64))
theorem Qgt(hx:dn x)(hl:r.ak.length<=1048576)(ht:0<=r.bt/\r.bt<x.types.length):Az x r s0=some (QfB x r s0):=by
 obtain⟨t1,t2⟩:=GA ht.1 ht.2;have dO:=hx.ai;unfold Az;rw[aR (by simp [ay];omega),t1,af]
 have this:aL (λq:List (Int×Int)×Int×Int×Int=>kA x r s0 (bG x r) q.1 q.2.1 q.2.2.1 q.2.2.2) ([],0,0,0)=some (dY x r r.ak.length):=by
  have:=gQ r.ak.length (λk=>(QZ (r.ak.take k),(dY x r k).1,(dY x r k).2,(k:Int))) (B:=λq:List (Int×Int)×Int×Int×Int=>kA x r s0 (bG x r) q.1 q.2.1 q.2.2.1 q.2.2.2) (e:=dY x r r.ak.length) (by omega) (λk hk=>by
   have e:r.ak[k]?=some r.ak[k]:=dr hk;generalize r.ak[k]=v at e;show kA x r s0 (bG x r) (QZ (r.ak.take k)) (dY x r k).1 (dY x r k).2 (k:Int)=some (Sum.inl (QZ (r.ak.take (k+1)),(dY x r (k+1)).1,(dY x r (k+1)).2,((k+1:Nat):Int)));unfold kA uE wc;rw[cO e,<-Vv,<-take_one e,ml e hl];have hlen:(r.ak.take k).length<=1048576:=by rw[Qdo];omega
   have QpI:(r.ak.take (k+1)).length<=1048576:=by rw[Qdo];omega
   have hp:=Jc (x:=x) (r:=r) k;have hg:dt (wM dk (QZ (r.ak.take (k+1))) v.aP 0) 1=dc (r.ak.take k) v.aP:=by
    rw[Qio QpI,take_one e];have e2:Lz (r.ak.take k++[v]) v.aP=Lz (r.ak.take k) v.aP+1:=by unfold Lz;rw[Fa,Fb,if_pos rfl]
    have:=(Ww (l:=r.ak.take k) (o:=v.aP)).2.2;rw[e2,Qdg,oH,<-this];omega
   rw[hg];show _=some (Sum.inl (QZ (r.ak.take (k+1)),(dY x r (k+1)).1,(dY x r (k+1)).2,(k:Int)+1));have hP:dY x r (k+1)=match(if 0<=v.aP then x.ai[v.aP.toNat]? else none)with
    |none=>dY x r k
    |some o=>if dc (r.ak.take k) v.aP=true then dY x r k else((dY x r k).1+tf (xE o.now r.bt),(dY x r k).2+tf (xE o.cr r.bt)):=by
    show(match r.ak[k]? with
     |none=>dY x r k
     |some v=>match(if 0<=v.aP then x.ai[v.aP.toNat]? else none)with
      |none=>dY x r k
      |some o=>if dc (r.ak.take k) v.aP=true then dY x r k else((dY x r k).1+tf (xE o.now r.bt),(dY x r k).2+tf (xE o.cr r.bt)))=_
    rw[e]
   rw[hP];by_cases qc:0<=v.aP/\v.aP<x.ai.length
   ·rw[aR (by simp [ay];omega),if_pos qc.1]
    have eo:x.ai[v.aP.toNat]?=some (x.ai[v.aP.toNat]'(by omega)):=dr _
    generalize x.ai[v.aP.toNat]'(by omega)=o at eo
    have eg:bn x.ai v.aP=some o:=by unfold bn;rw[if_pos qc.1,eo]
    rw[eo,eg];simp only[af];cases dc (r.ak.take k) v.aP with
    |true=>rfl
    |false =>
     rw[dX,if_neg (by decide),show(cp o.now (-1)&&cp o.now r.bt)=xE o.now r.bt from rfl,show(cp o.cr (-1)&&cp o.cr r.bt)=xE o.cr r.bt from rfl,dZ (by omega) (by omega),dZ (by omega) (by omega)]
     generalize dY x r k=p;cases xE o.now r.bt <;> cases xE o.cr r.bt <;> simp [tf]
   ·rw[bk (by simp [ay];omega)]
    have:(if 0<=v.aP then x.ai[v.aP.toNat]? else none)=none:=by
     split
     ·exact Qbp (by omega)
     ·rfl
    rw[this]) (by
   show kA x r s0 (bG x r) (QZ (r.ak.take r.ak.length)) (dY x r r.ak.length).1 (dY x r r.ak.length).2 (r.ak.length:Int)=_;unfold kA;rw[cG])
  exact this
 rw[cN this];rfl
end
theorem Qeu(s:cb):∃w,sT s=some w/\True:=by
 unfold sT AA;simp only[af,Ec];exact⟨_,rfl,trivial⟩
theorem NI:∀(n:Nat) (l:List Nat),l.Nodup->(∀a∈l,a<n)->l.length<=n
 |0,l,_,h=>by
  cases l with
  |nil=>simp
  |cons a r=>exact absurd (h a (by simp)) (by omega)
 |n+1,l,hd,h=>by
  by_cases hm:n∈l
  ·have h1:=NI n (l.erase n) (hd.erase n) λa ha=>by
    have h2:=(hd.mem_erase_iff).1 ha;have:=h a h2.2;omega
   rw[List.length_erase_of_mem hm]at h1;omega
  ·have:=NI n l hd λa ha=>by
    have:=h a ha;have:a≠n:=λe=>hm (e▸ha)
    omega
   omega
section
variable {x : ae} {l : List ab} {r : aD}
theorem kg.short(hx:dn x)(h:kg x l):l.length<=20:=by
 have dO:=hx.ai;have hm:(l.map λv:ab=>2*v.aP.toNat+(if v.drop=true then 1 else 0)).Nodup:=by
  unfold List.Nodup;rw[List.pairwise_map];refine h.nodup.imp_of_mem λ{a b} ha hb lN he=>lN ?_
  have h1:=rG h.W_ ha;have h2:=rG h.W_ hb;cases a with
  |mk ao ad =>
   cases b with
   |mk bo bd =>
    simp only at h1 h2 he;have hd:ad=bd/\ao=bo:=by
     cases ad <;> cases bd <;> simp at he ⊢ <;> omega
    rw[hd.1,hd.2]
 have:=NI 20 _ hm λa ha=>by
  obtain⟨v,hv,rfl⟩:=QdX.1 ha;have h1:=rG h.W_ hv;split <;> omega
 simpa using this
def Sd(t:av)(cF:Int):Bool:=(sI t cF).getD false
def wW(x:ae)(r:aD)(v:ab):Bool:=match x.ai[v.aP.toNat]? with
 |some o=>Sd (bG x r) o.cF
 |none=>false
theorem QcU(hx:dn x)(ht:0<=r.bt/\r.bt<x.types.length){v:ab}(hv:0<=v.aP/\v.aP<x.ai.length):∃o,bn x.ai v.aP=some o/\sI (bG x r) o.cF=some (wW x r v)/\True/\x.ai[v.aP.toNat]?=some o:=by
 obtain⟨o,g1,g2,_,g4⟩:=RX (x:=x) hv.1 hv.2;obtain⟨b,b1,b2⟩:=QgD (t:=bG x r) (hx.Ed _ (GA ht.1 ht.2).2).cF (hx.ord o g2).cF;have:wW x r v=b:=by unfold wW Sd;rw[g4];simp only;rw[b1];rfl
 exact⟨o,g1,by rw[this,b1],trivial,g4⟩
def TQ:cb:=cb.mk 0 0 0 0
theorem QeD(hx:dn x)(hR:vz r)(h9:¬(9<r.ak.length/\r.ak.length<=20)):
  ∃A,zE x r=some A/\True/\A.1.gK.length<=1048576/\(A.2≠0->A.1=tY)/\
   (A.2=0->(ub x r=true/\r.aH.length<=r.ak.length+1)/\∃b,GM x.bV (bG x r) (aU x r) r.aE r.aH b/\QbW x.bV (bG x r) (aU x r) r.aE r.aH b/\A.1=(nm x.bV (bG x r) (aU x r) r.aE b).ct):=by
 obtain⟨A,hA,pA⟩:=QeC hx hR h9;have hv:=hR.ak;have hr:=hR.aH;refine⟨A,hA,trivial,?_⟩;rcases pA with⟨a1,a2⟩|⟨a1,a2⟩
 ·rw[a2];exact⟨QaD _,λ_=>rfl,λh=>by cases h⟩
 ·rcases a2 with⟨b,fb,mb,eb⟩|⟨na,ea⟩
  ·rw[eb];refine⟨?_,λh=>absurd rfl h,λ_=>⟨a1,b,fb,mb,rfl⟩⟩
   have h1:=Qic (n:=x.bV) (t:=bG x r) (aA:=aU x r) (aE:=r.aE) (b:=b);have h2:=fb.1;rw[tN]at h2;have:=(QbF (yK a1.1)).2.2.2.2;show(nm x.bV (bG x r) (aU x r) r.aE b).ct.gK.length<=_;omega
  ·rw[ea];have SW:¬okB x.bV (bG x r) (aU x r) r.aE (r.aH++List.replicate (r.ak.length+1-r.aH.length) false):=λy5=>by
    refine na _ ⟨?_,?_,y5⟩
    ·rw[tN,Qay,Qi0];omega
    ·rw[<-Fu];exact YZ
   obtain⟨n1,n2⟩:=Of SW;refine⟨?_,λ_=>by rw[n2],λh=>absurd h n1⟩
   rw[n2];exact QaD _
structure Qer (x:ae) (r:aD) (s:a8) (b:List Bool):Prop where
 bt:0<=r.bt/\r.bt<x.types.length
 seq:Ol x r.ak=0
 Qmf:∀v∈r.ak,wW x r v=true
 fits:YW x r=0
 ZP:ub x r=true
 aH:r.aH.length<=r.ak.length+1
 full:GM x.bV (bG x r) (aU x r) r.aE r.aH b
 min:QbW x.bV (bG x r) (aU x r) r.aE r.aH b
 ct:s=(nm x.bV (bG x r) (aU x r) r.aE b).ct
theorem Qdf(hx:dn x)(hR:vz r)(h9:¬(9<r.ak.length/\r.ak.length<=20)):
  ∃E,mV x r=some E/\True/\E.1.gK.length<=1048576/\(E.2.2≠0->E.1=tY/\E.2.1=TQ)/\(E.2.2=0->E.2.1=QfB x r E.1/\∃b,Qer x r E.1 b):=by
 have hv:=hR.ak;unfold mV;by_cases ht:0<=r.bt/\r.bt<x.types.length
 ·rw[aR (by simp [ay];omega),Sa hx hv,af]
  by_cases hs:Ol x r.ak=0
  ·have hq:=RZ hs;have G4:=hq.short hx;rw[aR (by simpa using hs)]
   have a1:Cv x r=some (if r.ak.any (λv=>!wW x r v)=true then 18 else 0):=by
    unfold Cv;rw[cN (fD (B:=λs=>oT x r s) hv (λv=>!wW x r v) (y:=(.inr 18:Unit⊕Int)) (N:=.inl ()) (λi a h=>by
     obtain⟨o,g1,g2,g3,_⟩:=QcU (r:=r) hx ht (rG hq.W_ (QaG h));show oT x r i=_;unfold oT;rw[cO h,(GA ht.1 ht.2).1,af,g1,af,g2,af,ml h hv];cases wW x r a <;> rfl) (by
     show oT x r r.ak.length=_;unfold oT;rw[cG]))]
    split <;> rfl
   rw[a1,af];by_cases hab:r.ak.any (λv=>!wW x r v)=true
   ·rw[if_pos hab,bk (by decide)]
    exact⟨_,rfl,trivial,QaD _,λ_=>⟨rfl,rfl⟩,λh=>by cases h⟩
   ·rw[if_neg hab,aR (by decide)]
    obtain⟨f1,f2⟩:=QjA (r:=r) hx (by omega) hs ht
    rw[f1,af];by_cases hf:YW x r=0
    ·rw[aR (by simpa using hf)]
     obtain⟨A,hA,hB,ht',hz,Nk⟩:=QeD hx hR h9;rw[hA,af];by_cases hA2:A.2=0
     ·rw[aR (by simpa using hA2),Qgt hx hv ht,af]
      obtain⟨⟨p1,p2⟩,b,fb,mb,eb⟩:=Nk hA2;refine⟨_,rfl,trivial,ht',λh=>absurd rfl h,λ_=>⟨rfl,b,ht,hs,λv J5=>?_,hf,p1,p2,fb,mb,eb⟩⟩
      have:=QeP.1 (by simpa using hab:r.ak.any (λv=>!wW x r v)=false) v J5
      simpa using this
     ·rw[bk (by simpa using hA2)]
      exact⟨_,rfl,trivial,QaD _,λ_=>⟨rfl,rfl⟩,λh=>absurd h hA2⟩
    ·rw[bk (by simpa using hf)]
     exact⟨_,rfl,trivial,QaD _,λ_=>⟨rfl,rfl⟩,λh=>absurd h hf⟩
  ·rw[bk (by simpa using hs)]
   exact⟨_,rfl,trivial,QaD _,λ_=>⟨rfl,rfl⟩,λh=>absurd h hs⟩
 ·rw[bk (by simp [ay];omega)]
  exact⟨_,rfl,trivial,QaD _,λ_=>⟨rfl,rfl⟩,λh=>by cases h⟩
theorem QaT(hx:dn x)(hR:vz r)(h9:¬(9<r.ak.length/\r.ak.length<=20)):∃w,mW x r=some w/\True:=by
 obtain⟨E,e1,e2,e3,e4,e5⟩:=Qdf hx hR h9;obtain⟨w,w1,w2⟩:=Qeu E.2.1;unfold mW;rw[e1,af,w1,af,Ec];exact⟨_,rfl,trivial⟩
end
section
variable {n : aC} {t : av} {aA : List aS} {aE : Int}
theorem Qd5(hT:ou n t aA):∀(b:List Bool) (k:Nat) (l:aj),Fk k l->k+b.length<=aA.length->(runK n t aA b k l).2=0->l.ready<=(runK n t aA b k l).1.ready
 | [],k,l,hl,_,_=>QaJ _
 |a ::b,k,l,hl,hk,h=>by
  simp only[runK]at h ⊢;simp only[QaA]at hk;by_cases h0:(AG n t aA l k a).2=0
  ·rw[if_neg (by simpa using h0)]at h ⊢
   have h1:=Qd5 hT b (k+1) _ (NJ hT hl (by omega) h0) (by omega) h
   refine Qgd ?_ h1;obtain⟨g0,g1,g2,g3⟩:=Cp hT hl h0;have hb:=AK hT.bV (OS (rest:=a) hT hl) g0;have hS:=hT.c9 k;have:=hS.QE;have hr:=hT.rest;rw[g3];have hd:l.ready<=im t l a:=by unfold im;split <;> omega
   show l.ready<=max _ _+_;omega
  ·rw[if_pos h0]at h;exact absurd h h0
theorem Qh9(hT:ou n t aA)(hs:0<=aE/\aE<=4096){b:List Bool}(hl:b.length=aA.length+1)(y5:okB n t aA aE b):
  t.bA<=(nm n t aA aE b).ct.j8/\(nm n t aA aE b).ct.j8<=t.bI/\0<=(nm n t aA aE b).ct.cV/\(nm n t aA aE b).ct.cV<=210000:=by
 obtain⟨b0,c,rfl⟩:∃b0 c,b=b0++[c]:=by
  rcases Qkm b with rfl|⟨b0,c,rfl⟩
  ·simp at hl
  ·exact⟨b0,c,by simp⟩
 have RM:b0.length=aA.length:=by simpa using hl
 obtain⟨o1,o2⟩:=tr.1 y5;have hL:=Ez hT hs (by omega) o1
 obtain⟨g0,g1,g2,g3⟩:=Cp hT hL o2;have hb:=AK hT.bV (OS (rest:=c) hT hL) g0;have RO:t.bA<=(nm n t aA aE b0).ready:=by
  have:=Qd5 hT b0 0 (sF t aE) (MS hT hs) (by omega) o1
  have h2:t.bA<=(sF t aE).ready:=by show t.bA<=max t.bA aE;omega
  exact Qgd h2 this
 have hn:¬b0.length<aA.length:=by omega
 have hm0:=hL.Ge;have hm1:=hL.sR;have Qpx:=hT.rr;have hr:=hT.rest;have hd:(nm n t aA aE b0).ready<=im t (nm n t aA aE b0) c:=by unfold im;split <;> omega
 rw[B7 y5,g3];rw[zY hn]at hb g1 ⊢;have g1':(goN n t.aJ (jy t aA b0.length) (YQ t).place (im t (nm n t aA aE b0) c)).1<=t.bI:=g1;show t.bA<=(if b0.length<aA.length then _ else _:Int)/\(if b0.length<aA.length then _ else _:Int)<=t.bI/\0<=(nm n t aA aE b0).ct.cV+_/\(nm n t aA aE b0).ct.cV+_<=210000
 rw[if_neg hn];omega
end
section
variable {x : ae} {l : List ab} {r : aD}
theorem Qer.facts(hx:dn x){s:a8}{b:List Bool}(h:Qer x r s b):
  (bG x r).bA<=s.j8/\s.j8<=(bG x r).bI/\0<=s.cV/\s.cV<=210000/\XL s=b/\s.gK.length=r.ak.length/\b.length=r.ak.length+1/\r.ak.length<=20:=by
 have h5:=QbF (yK h.ZP);have hT:=PX hx h.ZP;obtain⟨e1,e2,e3,e4⟩:=Qh9 hT ⟨h5.2.2.1,h5.2.2.2.1⟩ h.full.1 h.full.2.2;obtain⟨r1,r2⟩:=Qci hx h.ZP h.full.1 h.full.2.2;have Ue:=tN (x:=x) (r:=r);have hl:=h.full.1;rw[h.ct];exact⟨e1,e2,e3,e4,r1,by omega,by omega,h5.2.2.2.2⟩
theorem Qev{c m o w:Int}(h1:0<=c/\c<=1073741824)(h2:0<=m/\m<=15)(h3:0<=o/\o<=15)(h4:0<=w/\w<=65535):sT (cb.mk c m o w)=some (((c*16+m)*16+o)*65536+w,0):=by
 unfold sT AA;rw[af];simp only;rw[aR (by simp;omega),aR (by simp;omega),aR (by simp;omega),aR (by simp;omega),aR (by simp;omega),I4 (a:=c) (by omega) (by omega),dZ (a:=c*16) (by omega) (by omega),I4 (a:=c*16+m) (by omega) (by omega),dZ (a:=(c*16+m)*16) (by omega) (by omega),I4 (by omega) (by omega),dZ (by omega) (by omega)]
theorem QtV{a b:Int}(ha:0<=a/\a<=9223372036854775807)(hb:0<b):q_ .i64 a b=a / b:=by
 have e:a.tdiv b=a / b:=Qix ha.1;have h1:0<=a / b:=Int.ediv_nonneg ha.1 (by omega)
 have h2:a / b<=a:=Int.ediv_le_self b ha.1;rw[XH (by rw[e];omega) (by rw[e];omega),e]
end
inductive Pth (bf:List aW):Int->Int->Prop where
 |one {p:aW} (h:p∈bf):Pth bf p.x0 p.x1
 |more {a:Int} {p:aW} (h:Pth bf a p.x0) (h':p∈bf):Pth bf a p.x1
section
variable {x : ae} {l : List ab} {r : aD}
theorem SE(h:kg x l){p:aW}(hp:p∈x.before)(hb:dc l p.x1=true):dc l p.x0=true/\sq (LN p.x0) l<sq (LN p.x1) l:=by
 have h1:=QeP.1 h.before p hp;unfold Ic at h1;rw[hb,Qe1]at h1;simp only[QeZ,QbD,not_or,Bool.not_eq_false,QhA]at h1;obtain⟨h2,h3⟩:=h1;refine⟨h2,?_⟩;unfold Lm at h3;have RO:0<=sq (LN p.x1) l:=by rw[<-gX,sJ];exact hb
 have QmX:0<=sq (LN p.x0) l:=by rw[<-gX,sJ];exact h2
 unfold sq at RO QmX ⊢;cases e1:Np (LN p.x1) l with
 |none=>rw[e1]at RO;simp at RO
 |some k =>
  rw[e1]at h3;simp only at h3;cases e0:Np (LN p.x0) l with
  |none=>rw[e0]at QmX;simp at QmX
  |some j =>
   obtain⟨j1,j2,_⟩:=xF e0;simp only;have hjk:j<k:=Qk3 λhle=>by
    have:dc (l.drop k) p.x0=true:=rD.2 ⟨l[j],QeT.2 ⟨j-k,by rw[Qf_,show k+(j-k)=j by omega,dr j1]⟩,zj.1 j2⟩
    rw[this]at h3;cases h3
   omega
theorem QkQ(h:kg x l){a b:Int}(hp:Pth x.before a b):dc l b=true->dc l a=true/\sq (LN a) l<sq (LN b) l:=by
 induction hp with
 |one hm=>exact SE h hm
 |more _ hm ih =>
  intro hb;obtain⟨h1,h2⟩:=SE h hm hb;obtain⟨h3,h4⟩:=ih h1;exact⟨h3,by omega⟩
theorem Ki{D:Nat}{f:Nat->Int}{i:Int}(h0:0<=i)(h1:i<D):bn (dR D f) i=some (f i.toNat):=by
 unfold bn;rw[if_pos h0,nf (by omega)]
structure ChI (bf:List aW) (m:Nat->Nat):Prop where
 lt:∀i,m i<1024
 pth:∀i a:Nat,(m i).testBit a=true->Pth bf (a:Int) (i:Int)
theorem Qh(hx:dn x):post (yN (ay x.ai) x.before) λc=>∃m,c=dR x.ai.length (λi=>((m i:Nat):Int))/\ChI x.before m:=by
 have dO:=hx.ai;have Qpo:=hx.before;have sb:∀m:Nat->Nat,(∀i,m i<1024)->0<=ot x.ai.length (λi=>((m i:Nat):Int))/\ot x.ai.length (λi=>((m i:Nat):Int))<=10240:=λm hm=>by
  have:=Ov (f:=λi=>((m i:Nat):Int)) (c:=1024) (by omega) x.ai.length λi=>by have:=hm i;omega
  omega
 unfold yN;have hz:Bd (vZ (ay x.ai) 0) (vZ (ay x.ai) 0) 8 (0:Int)=some (dR x.ai.length λi=>(((λ_=>0:Nat->Nat) i:Nat):Int)):=by
  have hm:vZ (ay x.ai) 0=(x.ai.length:Int):=by rw[z7];unfold ay;omega
  rw[hm];unfold Bd;rw[if_pos (by omega)]
  congr 1;refine Qga λi=>?_
  rcases sh i x.ai.length with h|h
  ·rw[nf h];simp [h]
  ·rw[Qbp (by simp;omega),Qbp (by rw[fJ];omega)]
 rw[hz,af];refine bw (R:=λc=>∃m,c=dR x.ai.length (λi=>((m i:Nat):Int))/\ChI x.before m) ?_ λc hc=>aI.2 hc
 refine dP (λs:List Int×Bool=>∃m,s.1=dR x.ai.length (λi=>((m i:Nat):Int))/\ChI x.before m) (λs=>2*(10240-ot x.ai.length (λi=>s.1.getD i 0)).toNat+(if s.2=true then 1 else 0)) ⟨λ_=>0,rfl,λ_=>by omega,λi a h=>by simp at h⟩ ?_ ?_
 ·have iU:0<=ot x.ai.length (λi=>(dR x.ai.length λi=>(((λ_=>0:Nat->Nat) i:Nat):Int)).getD i 0):=by
   rw[Gz (g:=λi=>(((λ_=>0:Nat->Nat) i:Nat):Int)) _ λi hi=>by rw[Qbo,nf hi];rfl]
   exact(sb (λ_=>0) λ_=>by omega).1
  refine QmU (m:=2*10240+1) ?_ (by decide)
  refine Nat.add_le_add (Nat.mul_le_mul_left 2 (Int.toNat_le.2 ?_)) (by split <;> decide)
  exact Int.sub_le_self _ iU
 rintro⟨_,more⟩ ⟨m,rfl,hm⟩;have QrV:∀m:Nat->Nat,ot x.ai.length (λi=>(dR x.ai.length λi=>((m i:Nat):Int)).getD i 0)=ot x.ai.length (λi=>((m i:Nat):Int)):=λm=>Gz _ λi hi=>by rw[Qbo,nf hi];rfl
 show post (tv x.before _ (dR x.ai.length λi=>((m i:Nat):Int)) more) _
 unfold tv;refine bg (λQlD=>?_) (λQlD=>dd ⟨m,rfl,hm⟩)
 refine bw (R:=λe:List Int×Bool=>∃m',e.1=dR x.ai.length (λi=>((m' i:Nat):Int))/\ChI x.before m'/\ot x.ai.length (λi=>((m i:Nat):Int))<=ot x.ai.length (λi=>((m' i:Nat):Int))/\(e.2=true->ot x.ai.length (λi=>((m i:Nat):Int))<ot x.ai.length (λi=>((m' i:Nat):Int)))) ?_ ?_
 ·refine dP (λs:List Int×Bool×Int=>∃(k:Nat) (m':Nat->Nat),s.2.2=(k:Int)/\k<=x.before.length/\s.1=dR x.ai.length (λi=>((m' i:Nat):Int))/\ChI x.before m'/\ot x.ai.length (λi=>((m i:Nat):Int))<=ot x.ai.length (λi=>((m' i:Nat):Int))/\(s.2.1=true->ot x.ai.length (λi=>((m i:Nat):Int))<ot x.ai.length (λi=>((m' i:Nat):Int)))) (λs=>x.before.length-s.2.2.toNat) ⟨0,m,rfl,QaD _,rfl,hm,QaJ _,λh=>by cases h⟩ (by simp;omega) ?_
  rintro⟨_,f,_⟩ ⟨k,m',rfl,hk,rfl,uX,hle,hf⟩;show post (tz x.before _ (dR x.ai.length λi=>((m' i:Nat):Int)) f (k:Int)) _
  unfold tz;rcases sh k x.before.length with h|h
  ·have e:x.before[k]?=some x.before[k]:=dr h;have rF:=QaH h;generalize x.before[k]=p at e rF;obtain⟨p0,p1,p2,p3,p4⟩:=hx.MQ p rF;obtain⟨a,ha⟩:∃a:Nat,p.x0=a:=⟨p.x0.toNat,by omega⟩
   obtain⟨b,hb⟩:∃b:Nat,p.x1=b:=⟨p.x1.toNat,by omega⟩
   have hpa:Pth x.before (a:Int) (b:Int):=ha▸hb▸Pth.one rF;have hpb:∀c:Int,Pth x.before c (a:Int)->Pth x.before c (b:Int):=λc hc=>by
    rw[<-ha]at hc;rw[<-hb];exact Pth.more hc rF
   rw[ha]at p0 p1;rw[hb]at p2 p3;have hma:=uX.lt a;have hmb:=uX.lt b;have h2:2 ^ a<=2 ^ 9:=Qb2 (by omega) (by omega)
   rw[cO e,ha,hb,aR (by simp [ay,fJ];omega),Ki p2 p3,af,Ki p0 p1,af,eU (by omega),ml e (by omega),QaC,QaC,Qaa (by omega),orN (by omega) (by omega)]
   have Qs9:m' b |||m' a<1024:=Qkt (n:=10) hmb hma;rw[orN (by omega) (by omega)]
   have Qs_:m' b |||m' a |||2 ^ a<1024:=Qkt (n:=10) Qs9 (by omega)
   have RO:m' b<=m' b |||m' a |||2 ^ a:=QaE Nat.left_le_or Nat.left_le_or;refine bg (λlN=>cZ ⟨⟨k+1,λi=>if i=b then m' b |||m' a |||2 ^ a else m' i,rfl,h,?_,⟨λi=>?_,λi c hc=>?_⟩,?_,λ_=>?_⟩,by simp;omega⟩) (λ_=>cZ ⟨⟨k+1,m',rfl,h,rfl,uX,hle,hf⟩,by simp;omega⟩)
   ·show jq (dR x.ai.length λi=>((m' i:Nat):Int)) (b:Int) _=_
    rw[Qao (by omega)]
    refine qZ λd _=>?_
    show(if d=b then _ else _:Int)=(((if d=b then _ else _:Nat):Nat):Int)
    split <;> rfl
   ·show(if i=b then _ else _)<1024
    split
    ·exact Qs_
    ·exact uX.lt i
   ·have CJ:(if i=b then m' b |||m' a |||2 ^ a else m' i).testBit c=true:=hc
    by_cases hi:i=b
    ·rw[if_pos hi,Nat.testBit_or,Nat.testBit_or,Qko]at CJ;rw[hi];simp only[QeZ,QbB]at CJ;rcases CJ with(CJ|CJ)|CJ
     ·exact uX.pth b c CJ
     ·exact hpb _ (uX.pth a c CJ)
     ·exact CJ▸hpa
    ·rw[if_neg hi]at CJ;exact uX.pth i c CJ
   all_goals
    have up:=JK (f:=λi=>((m' i:Nat):Int)) (g:=λi=>(((if i=b then m' b |||m' a |||2 ^ a else m' i:Nat):Nat):Int)) (o:=b) x.ai.length (by omega) (λj hj=>by
     show(((if j=b then _ else _:Nat):Nat):Int)=_
     rw[if_neg hj])
    simp only[if_pos]at up;rw[uA]at lN;show _<=ot x.ai.length (λi=>(((if i=b then m' b |||m' a |||2 ^ a else m' i:Nat):Nat):Int))
    rw[up];omega
  ·obtain rfl:k=x.before.length:=by omega
   rw[cG];exact dd ⟨m',rfl,uX,hle,hf⟩
 ·rintro⟨_,f⟩ ⟨m',rfl,uX,hle,hf⟩;refine cZ ⟨⟨m',rfl,uX⟩,?_⟩;simp only[QrV];have s1:=sb m hm.lt;have s2:=sb m' uX.lt;rw[if_pos QlD];simp only at hle hf;cases f with
  |true=>have:=hf rfl;simp;omega
  |false=>simp;omega
theorem QaX(hx:dn x)(h:kg x l){s:Int}(hs:GH l s):oU x s=some 0:=by
 have dO:=hx.ai;have Qsf:=hx.dx;have Qpo:=hx.before;have hlen:=EM (l:=l) 63;have rF:∀i∈AX l 63,∃k:Nat,i=k/\k<63/\dc l (k:Int)=true:=λi hi=>I3 hi
 have Vd:¬s<0:=by obtain⟨m,rfl,_⟩:=hs.ex;omega
 unfold oU;rw[aR (by simp;omega),Fl hs,af]
 generalize AX l 63=M at *;have hat:∀{i:Nat} {a:Int},M[i]?=some a->0<=a/\a<x.ai.length/\dc l a=true:=λhh=>by
  obtain⟨k,rfl,_,hk⟩:=rF _ (QaG hh);have:=Qbr h hk;exact⟨this.1,this.2,hk⟩
 have l1:aL (λq=>eJ x s M q) 0=some (.inl ()):=by
  have:=fD (B:=λq=>eJ x s M q) (l:=M) (by omega) (λ_=>false) (y:=(.inr 2:Unit⊕Int)) (N:=.inl ()) (λi a hh=>by
   have qc:=hat hh;show eJ x s M i=_;unfold eJ;rw[cO hh,aR (by simp [ay];omega),ml hh (by omega)]
   rfl) (by
   show eJ x s M M.length=_;unfold eJ;rw[cG])
  simpa using this
 have l2:aL (λq=>eK x s M q) 0=some (.inl ()):=by
  have:=fD (B:=λq=>eK x s M q) (l:=M) (by omega) (λ_=>false) (y:=(.inr 9:Unit⊕Int)) (N:=.inl ()) (λi a hh=>by
   obtain⟨q0,q1,q2⟩:=hat hh;obtain⟨v,hv,nG⟩:=rD.1 q2;have AM:=QeP.1 h.off v hv;obtain⟨o,g1,g2,g3,_⟩:=RX (x:=x) (v:=v) (by omega) (by omega)
   show eK x s M i=_;unfold eK;rw[nG]at g1;rw[cO hh,g1,af,aR (by rw[<-g3];simpa using AM),ml hh (by omega)]
   rfl) (by
   show eK x s M M.length=_;unfold eK;rw[cG])
  simpa using this
 have l3:aL (λq=>eM x s M q) 0=some (.inl ()):=by
  have:=fD (B:=λq=>eM x s M q) (l:=x.dx) (by omega) (λ_=>false) (y:=(.inr 20:Unit⊕Int)) (N:=.inl ()) (λi a hh=>by
   obtain⟨p0,p1,p2,p3,p4⟩:=hx.QaZ a (QaG hh);have QR:wB l a=false:=by simpa using QeP.1 h.dx a (QaG hh)
   unfold wB at QR;show eM x s M i=_;unfold eM;rw[cO hh,hs.Has p0 (by omega),af,hs.Has p2 (by omega),af,ml hh (by omega)]
   cases e1:dc l a.x0 <;> cases e2:dc l a.x1
   ·rfl
   ·rfl
   ·rfl
   ·rw[e1,e2]at QR;cases QR) (by
   show eM x s M x.dx.length=_;unfold eM;rw[cG])
  simpa using this
 have l4:aL (λq=>eN x s M q) 0=some (.inl ()):=by
  have:=fD (B:=λq=>eN x s M q) (l:=x.before) (by omega) (λ_=>false) (y:=(.inr 21:Unit⊕Int)) (N:=.inl ()) (λi a hh=>by
   have hm:=QaG hh;obtain⟨p0,p1,p2,p3,p4⟩:=hx.MQ a hm;show eN x s M i=_;unfold eN;rw[cO hh,hs.Has p2 (by omega),af,hs.Has p0 (by omega),af,ml hh (by omega)]
   cases e1:dc l a.x1
   ·rfl
   ·rw[(SE h hm e1).1];rfl) (by
   show eN x s M x.before.length=_;unfold eN;rw[cG])
  simpa using this
 obtain⟨c,hc,m,rfl,hm⟩:=Qh hx;have l5:aL (λq=>eO M (dR x.ai.length λi=>((m i:Nat):Int)) q) 0=some (.inl ()):=by
  have:=fD (B:=λq=>eO M (dR x.ai.length λi=>((m i:Nat):Int)) q) (l:=M) (by omega) (λ_=>false) (y:=(.inr 21:Unit⊕Int)) (N:=.inl ()) (λi a hh=>by
   obtain⟨q0,q1,q2⟩:=hat hh;obtain⟨k,rfl⟩:∃k:Nat,a=k:=⟨a.toNat,by omega⟩
   show eO M (dR x.ai.length λi=>((m i:Nat):Int)) i=_
   unfold eO;have iq:=hm.lt k;have IC:(m k).testBit k=false:=by
    rw[QfN];intro hb;have:=(QkQ h (hm.pth k k hb) q2).2;omega
   have QmY:iN ((m k:Nat):Int) (k:Int)=some false:=by
    unfold iN;rw[bk (by simp;omega),eU (by omega),QfD (by omega)]
    have hd:=Qf3 (m k) (2 ^ k);rw[show(1:Int)=((1:Nat):Int)from rfl,QgJ (by omega) (by omega),QmV]
    rw[Ql6,QeQ]at IC;congr 1;generalize m k / 2 ^ k=q at *;rw[rC];omega
   rw[cO hh,Ki q0 q1,af,QaC,QmY,af,ml hh (by omega)]
   rfl) (by
   show eO M (dR x.ai.length λi=>((m i:Nat):Int)) M.length=_
   unfold eO;rw[cG])
  simpa using this
 rw[cN l1,c5,cN l2,c5,cN l3,c5,cN l4,c5,hc,af,cN l5,c5]
end
def IA{α S E:Type}(f:S->α->S⊕E)(N:S->E):S->List α->E
 |s,[]=>N s
 |s,a ::r=>match f s a with
  | .inl s'=>IA f N s' r
  | .inr e=>e
theorem U6{α S E:Type}{f:S->α->S⊕E}{N:S->E}{s s':S}{a:α}{r:List α}(h:f s a=.inl s'):IA f N s (a ::r)=IA f N s' r:=by rw[IA,h]
theorem Ta{α S E:Type}{l:List α}(hl:l.length<=1048576)(f:S->α->S⊕E)(N:S->E)(Inv:Nat->S->Prop){B:S×Int->O ((S×Int)⊕E)}
  (qc:∀(s:S) (i:Nat) (a:α),l[i]?=some a->Inv i s->B (s,(i:Int))=some (match f s a with|.inl s'=>.inl (s',(i:Int)+1)|.inr e=>.inr e)/\∀s',f s a=.inl s'->Inv (i+1) s')
  (Bp:∀s,Inv l.length s->B (s,(l.length:Int))=some (.inr (N s))) {s0:S} (h0:Inv 0 s0):aL B (s0,0)=some (IA f N s0 l):=by
 have main:∀(m:List α) (k:Nat) (s:S),l.drop k=m->k<=l.length->Inv k s->sC B (m.length+1) (s,(k:Int))=some (IA f N s m):=by
  intro m;induction m with
  |nil =>
   intro k s hd hk hi;have:k=l.length:=by
    have:=QaB List.length hd;rw[Qk0,QbH]at this;omega
   subst this;simp only[QbH,sC];rw[Bp s hi];rfl
  |cons a m ih =>
   intro k s hd hk hi;have xw:k<l.length:=Qk3 λh=>by rw[QiZ h]at hd;cases hd
   have Zd:=Qfa xw;rw[hd]at Zd;injection Zd with h1 h2;have e:l[k]?=some a:=by rw[dr xw,<-h1]
   obtain⟨g1,g2⟩:=qc s k a e hi;rw[QaA,sC,g1];show _=some (match f s a with|.inl s'=>IA f N s' m|.inr e=>e)
   cases hf:f s a with
   |inl s'=>exact ih (k+1) s' h2.symm xw (g2 s' hf)
   |inr e=>rfl
 have:=main l 0 s0 rfl (QaD _) h0;exact Ar (l.length+1) (by unfold Df;omega) this
def Mu(r:aD):Prop:=¬(9<r.ak.length/\r.ak.length<=20)
section
variable {x : ae} {r : aD} {s : a8} {now : Int}
def YU(x:ae)(r:aD):a8×cb×Int:=(mV x r).getD (tY,TQ,0)
theorem RC(hx:dn x)(hR:vz r)(h9:Mu r):mV x r=some (YU x r)/\True/\(YU x r).1.gK.length<=1048576/\((YU x r).2.2≠0->(YU x r).1=tY/\(YU x r).2.1=TQ)/\((YU x r).2.2=0->(YU x r).2.1=QfB x r (YU x r).1/\∃b,Qer x r (YU x r).1 b):=by
 obtain⟨E,e1,e2,e3,e4,e5⟩:=Qdf hx hR h9;have:YU x r=E:=by unfold YU;rw[e1];rfl
 rw[this];exact⟨e1,e2,e3,e4,e5⟩
end
theorem QnU{n:aC}(h:aC.ok 1048576 n):Qgo n:=by
 obtain⟨⟨h1,h2⟩,⟨h3,h4⟩,_⟩:=h;refine⟨h1,h3,h2,λa ha=>?_⟩
 obtain⟨_,_,_,_,⟨h5,h6⟩,⟨h7,h8⟩,_⟩:=h4 a ha;exact⟨h5,h7,λp hp=>⟨(h6 p hp).1,(h6 p hp).2.1⟩,λp hp=>⟨(h8 p hp).1,(h8 p hp).2.1⟩⟩
theorem Qh3{x:ae}(h:ae.ok 1048576 x):QcO x:=by
 obtain⟨h0,⟨h1,h2⟩,⟨h3,h4⟩,⟨h5,_⟩,⟨h6,_⟩,_⟩:=h;refine⟨QnU h0,h1,h3,h5,h6,λt ht=>?_,λo ho=>?_⟩
 ·obtain⟨a,_,_,_,⟨b,_⟩,_⟩:=h2 t ht;exact⟨a,b⟩
 ·obtain⟨a,⟨b,_⟩,_⟩:=h4 o ho;exact⟨a,b⟩
end
end Go.Proofs.YtkcilfpbgjjjbaaGreatDoor
