/- Part MY. -/
import Derived.Test.YtkcilfpbgjjjbaaGreatDoorMI
import Derived.Test.YtkcilfpbgjjjbaaGreatDoorMX
import Derived.Test.YtkcilfpbgjjjbaaGreatDoorMQ
import Derived.Lib.ItoaMem
import Derived.Test.YtkcilfpbgjjjbaaGreatDoorMS
set_option linter.unusedSimpArgs false
set_option linter.unusedVariables false
set_option linter.unusedSectionVars false
namespace Go.Proofs.YtkcilfpbgjjjbaaGreatDoor
theorem p6{S E:Type}{B:S->O (S⊕E)}(n:Nat)(hn:n<=1048576)(C:Nat->S->Prop){Q:E->Prop}{s0:S}(h0:C 0 s0)
  (step:∀i s,i<n->C i s->post (B s) λx=>(∀s',x=.inl s'->C (i+1) s')/\∀e,x=.inr e->Q e)
  (fin:∀s,C n s->post (B s) λx=>(∀s',x=.inl s'->False)/\∀e,x=.inr e->Q e):post (aL B s0) Q:=by
 refine xl (λm s=>m<=n/\C (n-m) s) n ⟨fa _,by rw[Qkh];exact h0⟩ (by omega) ?_
 rintro m s ⟨hm,hc⟩;rcases QcW m with rfl|hp
 ·refine(fin s (by simpa using hc)).mono ?_
  rintro x ⟨h1,h2⟩;exact⟨λs' e=>(h1 s' e).elim,h2⟩
 ·refine(step (n-m) s (by omega) hc).mono ?_
  rintro x ⟨h1,h2⟩;refine⟨λs' e=>⟨m-1,by omega,by omega,?_⟩,h2⟩
  have:=h1 s' e;rwa [show n-m+1=n-(m-1) by omega]at this
theorem BN{D:Nat}{f:Nat->Int}{d:Nat}:(dR D f).getD d 0=if d<D then f d else 0:=by
 rw[Qbo];split
 ·rename_i h;rw[nf h];rfl
 ·rename_i h;rw[Qbp (by rw[fJ];omega)];rfl
theorem IB{l:List Int}{d:Nat}(h:l.length<=d):l.getD d 0=0:=by rw[Qbo,Qbp h];rfl
abbrev dB(n:Nat):List UInt8:=Go.Lib.decDigits n
theorem rA{n:Nat}(h:n<10):dB n=[UInt8.ofNat (48+n)]:=by unfold dB;rw[Go.Lib.decDigits,dif_pos h]
theorem Iq{n:Nat}(h:¬n<10):dB n=dB (n / 10)++[UInt8.ofNat (48+n % 10)]:=by unfold dB;rw[Go.Lib.decDigits,dif_neg h]
def pad:Nat->Nat->List UInt8
 |0,_=>[]
 |k+1,m=>pad k (m / 10)++[UInt8.ofNat (48+m % 10)]
theorem ZL(k m:Nat):pad (k+1) m=pad k (m / 10)++[UInt8.ofNat (48+m % 10)]:=rfl
theorem Ka:∀k m,(pad k m).length=k
 |0,_=>rfl
 |k+1,m=>by unfold pad;rw[Qay,Ka k];rfl
def jh(l:List UInt8):Nat:=l.foldl (λa b=>10*a+(b.toNat-48)) 0
theorem tJ(a b:List UInt8):jh (a++b)=jh a*10 ^ b.length+jh b:=by
 have key:∀(b:List UInt8) (x:Nat),b.foldl (λa b=>10*a+(b.toNat-48)) x=x*10 ^ b.length+b.foldl (λa b=>10*a+(b.toNat-48)) 0:=by
  intro b;induction b with
  |nil=>intro x;simp
  |cons c b ih =>
   intro x;rw[Qfg,Qfg,ih (10*x+_),ih (10*0+_),QaA,Qdw];generalize 10 ^ b.length=p;generalize List.foldl _ _ b=q;generalize c.toNat-48=d;rw[Qb4,Nat.mul_zero,Qbu,Qf6 10 x,Nat.mul_assoc,Qf6 10 p,Qkg]
 unfold jh;rw[Qhq,key b]
theorem qQ(b:UInt8):jh [b]=b.toNat-48:=by simp [jh]
theorem v8{d:Nat}(h:d<10):(UInt8.ofNat (48+d)).toNat=48+d:=by rw[UInt8.toNat_ofNat'];omega
theorem V_(a:List UInt8)(d:Nat)(h:d<10):jh (a++[UInt8.ofNat (48+d)])=10*jh a+d:=by
 rw[tJ,qQ,v8 h];simp;omega
theorem ug(n:Nat):jh (dB n)=n:=by
 induction n using Nat.strongRecOn with
 |ind n ih =>
  by_cases h:n<10
  ·rw[rA h,qQ,v8 h];omega
  ·rw[Iq h,V_ _ _ (Qgu _ (by omega)),ih (n / 10) (by omega)];omega
theorem sH{m n:Nat}(h:dB m=dB n):m=n:=by rw[<-ug m,h,ug]
theorem Qee:∀k m,jh (pad k m)=m % 10 ^ k
 |0,m=>by simp [pad,jh,Nat.mod_one]
 |k+1,m=>by
  unfold pad;rw[V_ _ _ (Qgu _ (by omega)),Qee k,Qdw,Qf6 (10 ^ k) 10,Nat.mod_mul]
  omega
theorem BE:∀k n,10 ^ k<=n->dB n=dB (n / 10 ^ k)++pad k (n % 10 ^ k)
 |0,n,_=>by simp [pad]
 |k+1,n,h=>by
  have hp:0<10 ^ k:=Nat.pow_pos (by omega)
  rw[Qdw]at h;have dO:¬n<10:=by
   have:=QdB 10 hp;omega
  have hk:10 ^ k<=n / 10:=by rw[QmE (by omega)];omega
  rw[Iq dO,BE k (n / 10) hk,Qds,ZL,Qdw,Qf6 (10 ^ k) 10,Nat.mod_mul_right_div_self,Nat.mod_mul_right_mod,<-Nat.div_div_eq_div_mul]
theorem qq(n:Nat):0<(dB n).length:=by
 by_cases h:n<10
 ·rw[rA h];simp
 ·rw[Iq h];simp
theorem B0:∀k n,n<10 ^ (k+1)->(dB n).length<=k+1
 |0,n,h=>by rw[rA (by simpa using h)];simp
 |k+1,n,h=>by
  by_cases dO:n<10
  ·rw[rA dO];simp
  ·have:=B0 k (n / 10) (by rw[Qdw]at h;omega)
   rw[Iq dO,Qay];simp;omega
theorem Qa_:∀k n,10 ^ k<=n->k<(dB n).length
 |0,n,_=>qq n
 |k+1,n,h=>by
  have:=BE (k+1) n h;have h2:=qq (n / 10 ^ (k+1));rw[this,Qay,Ka];omega
theorem QbR{k n:Nat}(h:(dB n).length<=k):n<10 ^ k:=by
 rcases sh n (10 ^ k)with h'|h'
 ·exact h'
 ·have:=Qa_ k n h';omega
theorem oB{m n:Nat}(h:m<=n):(dB m).length<=(dB n).length:=by
 have h1:=QbR (fa (dB n).length);have h2:=qq n;have:=B0 ((dB n).length-1) m (by rw[Nat.sub_add_cancel h2];omega)
 omega
def AN(b:UInt8):Prop:=48<=b.toNat/\b.toNat<=57
theorem mj(n:Nat):∀b∈dB n,AN b:=by
 induction n using Nat.strongRecOn with
 |ind n ih =>
  intro b hb;by_cases h:n<10
  ·rw[rA h]at hb;rw[Qaz.1 hb];unfold AN;rw[v8 h];omega
  ·rw[Iq h]at hb;rcases QaI.1 hb with hb|hb
   ·exact ih (n / 10) (by omega) b hb
   ·rw[Qaz.1 hb];unfold AN;rw[v8 (Qgu _ (by omega))];omega
theorem QdR:∀k m,∀b∈pad k m,AN b
 |0,_,b,h=>by cases h
 |k+1,m,b,h=>by
  unfold pad at h;rcases QaI.1 h with h|h
  ·exact QdR k _ b h
  ·rw[Qaz.1 h];unfold AN;rw[v8 (Qgu _ (by omega))];omega
theorem BD{n:Nat}(h:0<n):∃b r,dB n=b ::r/\49<=b.toNat:=by
 induction n using Nat.strongRecOn with
 |ind n ih =>
  by_cases dO:n<10
  ·exact⟨_,[],rA dO,by rw[v8 dO];omega⟩
  ·obtain⟨b,r,e,hb⟩:=ih (n / 10) (by omega) (by omega)
   exact⟨b,r++[UInt8.ofNat (48+n % 10)],by rw[Iq dO,e];rfl,hb⟩
theorem ofD{b:UInt8}(h:AN b):b=UInt8.ofNat (48+(b.toNat-48)):=by
 apply Qlm.1;obtain⟨h1,h2⟩:=h;rw[v8 (by omega)];omega
theorem SB{l:List UInt8}(h0:l≠[])(hd:∀b∈l,AN b)(h1:∀b r,l=b ::r->b.toNat=48->r=[]):l=dB (jh l):=by
 have key:∀(n:Nat) (l:List UInt8),l.length=n+1->(∀b∈l,AN b)->(∀b r,l=b ::r->b.toNat=48->r=[])->l=dB (jh l):=by
  intro n;induction n with
  |zero =>
   intro l hl hd h1
   match l,hl with
   | [b],_ =>
    have hb:=hd b (by simp)
    obtain⟨p,q⟩:=hb;rw[qQ,rA (by omega)]
    congr 1;exact ofD ⟨p,q⟩
  |succ n ih =>
   intro l hl hd h1;rcases Qkm l with rfl|⟨i,d,e⟩
   ·cases hl
   ·rw[List.concat_eq_append]at e;subst e;simp only[Qay,QaA,QbH]at hl;have Ye:=hd d (by simp)
    have hi:=ih i (by omega) (λb hb=>hd b (Qf9 _ hb)) (λb r e hb=>by
     subst e;have:=h1 b (r++[d]) rfl hb;simp at this)
    have SY:0<jh i:=by
     rcases QcW (jh i)with h|h
     ·exfalso;rw[h,rA (by omega)]at hi
      subst hi;have:=h1 _ [d] rfl (by rw[v8 (by omega)])
      cases this
     ·exact h
    obtain⟨p,q⟩:=Ye;have hv:jh (i++[d])=10*jh i+(d.toNat-48):=by
     rw[tJ,qQ];simp;omega
    rw[hv,Iq (by omega),show(10*jh i+(d.toNat-48)) / 10=jh i by omega,show(10*jh i+(d.toNat-48)) % 10=d.toNat-48 by omega,<-hi]
    congr 1;congr 1;exact ofD ⟨p,q⟩
 cases l with
 |nil=>exact absurd rfl h0
 |cons b r=>exact key r.length (b ::r) rfl hd h1
def bs(l:List UInt8):I:=⟨l.toArray⟩
theorem QgX(s:I):s=bs s.data.toList:=by unfold bs;rfl
theorem QjT{l:List UInt8}:(bs l).data.toList=l:=rfl
theorem Ly{a b:List UInt8}(h:bs a=bs b):a=b:=by rw[<-QjT (l:=a),h];rfl
theorem js{l:List UInt8}:(bs l).size=l.length:=by simp [bs,ByteArray.size]
theorem dE{l:List UInt8}:ca (bs l)=(l.length:Int):=by unfold ca;rw[js]
theorem Qmk:bs []=ByteArray.empty:=rfl
theorem uj{l:List UInt8}{i:Nat}{b:UInt8}(h:l[i]?=some b):y8 (bs l) (i:Int)=some b:=by
 have hi:=(pB.1 h).1;unfold y8;rw[if_pos (by omega),QaC]
 rw[getElem?_pos (bs l) i (by rw[js];exact hi)]
 rw[dr hi]at h;cases h;rfl
theorem xz{l:List UInt8}{a b:Nat}:(bs l).extract a b=bs ((l.take b).drop a):=by
 apply ByteArray.ext;rw[ByteArray.data_extract];apply Array.toList_inj.1;rw[Array.toList_extract];show l.extract a b=(l.take b).drop a;rw[QnA,List.drop_take]
theorem Lx{a b:List UInt8}:ee (bs a) (bs b)=bs (a++b):=by
 unfold ee;apply ByteArray.ext;rw[ByteArray.data_append];simp [bs]
theorem QjU(s:I):∀(k i:Nat) (r:List UInt8),s.size-i=k->ByteArray.toList.loop s i r=r.reverse++s.data.toList.drop i:=by
 intro k;induction k with
 |zero =>
  intro i r hk;unfold ByteArray.toList.loop;rw[if_neg (by omega),QiZ (by show s.data.size<=i;have:s.size=s.data.size:=rfl;omega)]
  simp
 |succ k ih =>
  intro i r hk;unfold ByteArray.toList.loop;have hi:i<s.data.toList.length:=by show i<s.data.size;have:s.size=s.data.size:=rfl;omega
  rw[if_pos (by omega),ih (i+1) _ (by omega),Qkv,Qds]
  congr 1;rw[Qfa hi];have hs:i<s.data.size:=by rw[Qdy]at hi;exact hi
  have:s.get! i=s.data.toList[i]:=by
   show(s.data[i]!)=_;rw[getElem!_pos s.data i hs,Array.getElem_toList]
  rw[this];rfl
theorem JV{l:List UInt8}:(bs l).toList=l:=by
 unfold ByteArray.toList;rw[QjU _ _ 0 [] rfl];rfl
theorem sG{a b:List UInt8}:qe (bs a) (bs b)=decide (a=b):=by
 unfold qe;rw[JV,JV,Qdg,Qbb,QbB]
theorem zX{l:List UInt8}{a b:Nat}(h1:a<=b)(h2:b<=l.length):xu (bs l) (a:Int) (b:Int)=some ():=by
 unfold xu;rw[if_pos ⟨by omega,by omega,by rw[js];omega⟩]
def bP(n:Nat):I:=bs (dB n)
theorem E8:bZ=bs (dB 0):=by kernel_rfl
theorem Z7:od=bs (dB 1):=by kernel_rfl
theorem FB{b:UInt8}:AN b↔bh (cQ b) 48=false/\dt (cQ b) 57=false:=by
 unfold AN cQ;rw[eC,iu];omega
theorem MM{l:List UInt8}(hl:l.length<=1048576):∃b,nv (bs l)=some b/\(b=true↔∃n,l=dB n):=by
 unfold nv;rw[<-Qmk,sG,E8];cases l with
 |nil =>
  refine⟨false,rfl,⟨λh=>(by cases h),λ⟨n,h⟩=>?_⟩⟩
  have:=qq n;rw[<-h]at this;simp at this
 |cons c r =>
  rw[aR (by simp),show(0:Int)=((0:Nat):Int)from rfl,uj (l:=c ::r) (i:=0) rfl,af,sG]
  by_cases h0:(dk (cQ c) 48&&!decide (c ::r=dB 0))=true
  ·rw[show dk (cQ c) ((48:Int))=dk (cQ c) 48 from rfl,h0,dT];refine⟨false,rfl,⟨λh=>(by cases h),λ⟨n,h⟩=>?_⟩⟩
   exfalso;rw[Ae,ntT,kp,QeQ]at h0;rcases QcW n with rfl|hp
   ·exact h0.2 h
   ·obtain⟨b,r',e,hb⟩:=BD hp;rw[e]at h;cases h;have:=h0.1;unfold cQ at this;omega
  ·rw[show(dk (cQ c) 48&&!decide (c ::r=dB 0))=false by simpa using h0,dX]
   have hs:=fD (B:=λs=>qJ (bs (c ::r)) c s) (l:=c ::r) hl (λb=>bh (cQ b) 48||dt (cQ b) 57) (y:=(.inr false:Unit⊕Bool)) (N:=.inl ()) (λi b e=>by
    have hi:=(pB.1 e).1;show qJ (bs (c ::r)) c i=_;unfold qJ;rw[bk (by rw[ew,dE];omega),uj e,af,dZ (by omega) (by omega)]
    cases bh (cQ b) 48 <;> cases dt (cQ b) 57 <;> rfl) (by
    show qJ (bs (c ::r)) c ((c ::r).length:Int)=_;unfold qJ;rw[aR (by rw[eC,dE];omega)])
   rw[show((0:Nat):Int)=0 from rfl,cN hs];by_cases ha:((c ::r).any λb=>bh (cQ b) 48||dt (cQ b) 57)=true
   ·rw[if_pos ha,iJ];refine⟨false,rfl,⟨λh=>(by cases h),λ⟨n,h⟩=>?_⟩⟩
    obtain⟨b,hb,hp⟩:=Qf0.1 ha;rw[h]at hb;have:=FB.1 (mj n b hb);rw[this.1,this.2]at hp;cases hp
   ·rw[if_neg ha,c5];refine⟨true,rfl,⟨λ_=>?_,λ_=>rfl⟩⟩
    have hd:∀b∈c ::r,AN b:=λb hb=>by
     rw[FB];have:((c ::r).any λb=>bh (cQ b) 48||dt (cQ b) 57)=false:=by simpa using ha
     have:=QeP.1 this b hb;simpa using this
    refine⟨jh (c ::r),SB (by simp) hd λb r' e hb=>?_⟩
    cases e;have h0':(dk (cQ c) 48&&!decide (c ::r=dB 0))=false:=by simpa using h0
    rw[Wj,ntF,rC,QbB]at h0';rcases h0' with h|h
    ·exact absurd (show cQ c=48 by unfold cQ;omega) h
    ·rw[rA (by omega)]at h
     exact(Qf5 h).2
theorem Fm{n:Nat}(hl:(dB n).length<=1048576):nv (bP n)=some true:=by
 obtain⟨b,h1,h2⟩:=MM hl;rw[show bP n=bs (dB n)from rfl,h1,h2.2 ⟨n,rfl⟩]
def B9:Nat:=1000000000
def a_(n:Nat):List Int:=if h:n=0 then []else((n % B9:Nat):Int) ::a_ (n / B9)
termination_by n
decreasing_by unfold B9;omega
def Jh(n:Nat):List Int:=if h:n<B9 then [(n:Int)]else((n % B9:Nat):Int) ::Jh (n / B9)
termination_by n
decreasing_by unfold B9 at *;omega
def ef:List Int->Int
 | []=>0
 |a ::r=>a+1000000000*ef r
def Dp(l:List Int):Prop:=∀a∈l,0<=a/\a<1000000000
theorem jE:a_ 0=[]:=by unfold a_;rfl
theorem uT{n:Nat}(h:0<n):a_ n=((n % B9:Nat):Int) ::a_ (n / B9):=by rw[a_,dif_neg (by omega)]
theorem ny(n:Nat):ef (a_ n)=n:=by
 induction n using Nat.strongRecOn with
 |ind n ih =>
  rcases QcW n with rfl|h
  ·rw[jE];rfl
  ·rw[uT h,ef,ih (n / B9) (by unfold B9;omega)]
   unfold B9;omega
theorem tu(n:Nat):Dp (a_ n):=by
 induction n using Nat.strongRecOn with
 |ind n ih =>
  rcases QcW n with rfl|h
  ·rw[jE];intro a ha;cases ha
  ·rw[uT h];intro a ha;rcases Qbt.1 ha with rfl|ha
   ·unfold B9;omega
   ·exact ih (n / B9) (by unfold B9;omega) a ha
theorem QkL(n:Nat):Dp (Jh n):=by
 induction n using Nat.strongRecOn with
 |ind n ih =>
  rw[Jh];by_cases h:n<B9
  ·rw[dif_pos h];intro a ha;rw[Qaz.1 ha];unfold B9 at h;omega
  ·rw[dif_neg h];intro a ha;rcases Qbt.1 ha with rfl|ha
   ·unfold B9;omega
   ·exact ih (n / B9) (by unfold B9 at *;omega) a ha
theorem Qjb(n:Nat):ef (Jh n)=n:=by
 induction n using Nat.strongRecOn with
 |ind n ih =>
  rw[Jh];by_cases h:n<B9
  ·rw[dif_pos h];simp [ef]
  ·rw[dif_neg h,ef,ih (n / B9) (by unfold B9 at *;omega)]
   unfold B9;omega
theorem X6{l:List Int}:Dp l->0<=ef l:=by
 induction l with
 |nil=>intro _;exact QaJ 0
 |cons a r ih =>
  intro h;have h1:=ih λb hb=>h b (QaK _ hb)
  have h2:=h a (Qbm ..);unfold ef;omega
theorem By{a b:List Int}:ef (a++b)=ef a+1000000000 ^ a.length*ef b:=by
 induction a with
 |nil=>simp [ef]
 |cons c a ih =>
  rw[Qhz,ef,ih,ef,QaA,QhH,QdY,<-QfX,Qdr (1000000000 ^ a.length) 1000000000];omega
theorem Dp.left{a b:List Int}(h:Dp (a++b)):Dp a:=λx hx=>h x (Qf9 _ hx)
theorem RT{α:Type}(l:List α):l=[]\/∃i a,l=i++[a]:=by
 rcases Qkm l with h|⟨i,a,h⟩
 ·exact .inl h
 ·exact .inr ⟨i,a,by rw[h,List.concat_eq_append]⟩
theorem Zt{l:List Int}:Dp l->(∀i a,l=i++[a]->a≠0)->l=a_ (ef l).toNat:=by
 induction l with
 |nil=>intro _ _;rw[show(ef ([]:List Int)).toNat=0 from rfl,jE]
 |cons a r ih =>
  intro h hl;have ha:=h a (Qbm ..);have hr:Dp r:=λb hb=>h b (QaK _ hb)
  have hn:=X6 hr;have e:=ih hr λi b hb=>hl (a ::i) b (by rw[hb];rfl)
  have SY:0<a+1000000000*ef r:=by
   rcases RT r with rfl|⟨i,b,rfl⟩
   ·have:=hl [] a rfl;simp [ef];omega
   ·have hb:=hl (a ::i) b rfl;have Fz:=hr b (by simp)
    have hv:0<ef (i++[b]):=by
     rcases Int.lt_or_eq_of_le hn with h'|h'
     ·exact h'
     ·exfalso;rw[<-h',show(0:Int).toNat=0 from rfl,jE]at e;simp at e
    omega
  rw[ef,uT (by omega)]
  have e1:(((a+1000000000*ef r).toNat % B9:Nat):Int)=a:=by unfold B9;omega
  have e2:(a+1000000000*ef r).toNat / B9=(ef r).toNat:=by unfold B9;omega
  rw[e1,e2,<-e]
theorem Kf{l:List Int}(h:Dp l)(hl:l.length<=1048576):fP l=some (a_ (ef l).toNat):=by
 unfold fP;apply post.eq;refine bw (R:=λr=>r=a_ (ef l).toNat) ?_ λr hr=>aI.2 hr
 refine dP (λs:List Int=>Dp s/\ef s=ef l/\s.length<=l.length) (λs=>s.length) ⟨h,rfl,fa _⟩ (by omega) ?_
 rintro s ⟨h1,h2,h3⟩;show post (pN s) _;unfold pN;rcases RT s with rfl|⟨i,a,rfl⟩
 ·rw[aR (by decide)]
  refine⟨_,rfl,λs' e=>(by cases e),λe he=>?_⟩
  cases he;rw[<-h2];exact jE.symm
 ·have hlen:ay (i++[a])=(i.length:Int)+1:=by simp [ay]
  simp only[Qay,QaA,QbH]at h3;rw[hlen,bk (by rw[oH];omega),nd (by omega) (by omega),show(i.length:Int)+1-1=((i.length:Nat):Int) by omega,bB (a:=a) (by simp),af]
  refine bg (λh0=>?_) (λh0=>?_)
  ·rw[kp]at h0;have hs:wm (i++[a]) 0 ((i.length:Nat):Int)=some i:=by
    unfold wm;rw[if_pos ⟨by omega,by omega,by simp;omega⟩]
    simp
   rw[hs,af];refine⟨_,rfl,λs' e=>?_,λe he=>by cases he⟩
   cases e;refine⟨⟨h1.left,?_,by omega⟩,by simp⟩
   rw[<-h2,By,h0];simp [ef]
  ·rw[rC]at h0;refine⟨_,rfl,λs' e=>(by cases e),λe he=>?_⟩
   cases he;rw[<-h2];refine Zt h1 λj b hb=>?_
   have:=List.append_inj' hb rfl;have h4:=(Qf5 this.2).1;rw[<-h4];exact h0
theorem Kh:∀(l:List UInt8),(∀b∈l,AN b)->jh l<10 ^ l.length:=by
 intro l;induction hn:l.length generalizing l with
 |zero=>intro _;rw[Qjs.1 hn];simp [jh]
 |succ n ih =>
  intro h;rcases RT l with rfl|⟨i,a,rfl⟩
  ·cases hn
  ·simp only[Qay,QaA,QbH]at hn;have h1:=ih i (by omega) λb hb=>h b (Qf9 _ hb)
   obtain⟨p,q⟩:=h a (by simp)
   rw[tJ,qQ,Qdw];simp only[QaA,QbH];omega
theorem Qhg{b:UInt8}(h:AN b):Bn .i64 (cX .u8 (cQ b) 48)=((b.toNat-48:Nat):Int):=by
 obtain⟨p,q⟩:=h;unfold cX cQ;rw[IntWalk.u8_in _ ⟨by omega,by omega⟩,cvI (by omega) (by omega)]
 omega
theorem QfO{t:List UInt8}{j:Nat}{b:UInt8}(h:t[j]?=some b):jh (t.take (j+1))=10*jh (t.take j)+(b.toNat-48):=by
 rw[take_one h,tJ,qQ];simp;omega
theorem Qd2{l:List Int}{p t:List UInt8}(hd:∀b∈t,AN b)(ht:t.length<=9)(hp:p.length<=1048576):aL (λs=>qK l (bs (p++t)) s.1 s.2) (0,(p.length:Int))=some ((jh t:Nat):Int):=by
 have:=gQ (B:=λs:Int×Int=>qK l (bs (p++t)) s.1 s.2) (e:=((jh t:Nat):Int)) t.length (λj=>(((jh (t.take j):Nat):Int),((p.length+j:Nat):Int))) (by omega) (λj hj=>by
  have e:t[j]?=some t[j]:=dr hj;have hdj:=hd _ (QaH hj);generalize t[j]=b at e hdj;have e2:(p++t)[p.length+j]?=some b:=by rw[Qe3 (by omega)];simpa using e
  have iq:=Kh (t.take j) λb hb=>hd b (Qi1 hb)
  have QwD:jh (t.take j)<1000000000:=Qby iq (QaE (Qb2 (by omega) (show(t.take j).length<=9 by rw[Qdo];omega)) (by decide))
  show qK l (bs (p++t)) ((jh (t.take j):Nat):Int) ((p.length+j:Nat):Int)=_;unfold qK;obtain⟨q1,q2⟩:=hdj;rw[bk (by rw[ew,dE,Qay];omega),uj e2,af,Qhg ⟨q1,q2⟩,I4 (by omega) (by omega),dZ (by omega) (by omega),dZ (by omega) (by omega),QfO e]
  congr 3) (by
  show qK l (bs (p++t)) ((jh (t.take t.length):Nat):Int) ((p.length+t.length:Nat):Int)=_;unfold qK;rw[aR (by rw[eC,dE,Qay];omega),QbC])
 simpa [jh]using this
theorem Qd0{n:Nat}(h:n<B9):Jh n=[(n:Int)]:=by rw[Jh,dif_pos h]
theorem QdZ{n:Nat}(h:¬n<B9):Jh n=((n % B9:Nat):Int) ::Jh (n / B9):=by rw[Jh,dif_neg h]
theorem ZU(n:Nat):(Jh n).length<=(dB n).length:=by
 induction n using Nat.strongRecOn with
 |ind n ih =>
  by_cases h:n<B9
  ·rw[Qd0 h];exact qq n
  ·have h1:=ih (n / B9) (by unfold B9 at *;omega)
   have h2:=BE 9 n (by unfold B9 at h;omega)
   rw[QdZ h,h2,Qay,Ka,QaA];show _<=(dB (n / B9)).length+9;omega
theorem Qd1{n:Nat}(hl:(dB n).length<=1000000):ES (bP n)=some (a_ n):=by
 unfold ES;apply post.eq;refine bw (R:=λr=>r=Jh n) ?_ λr hr=>?_
 ·refine dP (λs:List Int×I=>(∃m:Nat,s.2=bs (dB m)/\s.1++Jh m=Jh n/\(dB m).length<=(dB n).length)\/(s.2=bs []/\s.1=Jh n)) (λs=>s.2.size) (.inl ⟨n,rfl,rfl,fa _⟩) (by show(bP n).size<_;unfold bP;rw[js];omega) ?_
  rintro⟨l,s⟩ (⟨m,h1,h2,h3⟩|⟨h1,h2⟩)
  ·simp only at h1 h2;subst h1;show post (uy l (bs (dB m))) _;unfold uy;have hp:=qq m;have hll:l.length<=(Jh n).length:=by rw[<-h2];simp
   have Qp:=ZU n;rw[bk (by rw[oH,dE];omega),dE]
   by_cases h9:(dB m).length<=9
   ·have hat:vZ 0 (cX .i64 ((dB m).length:Int) 9)=((([]:List UInt8).length:Nat):Int):=by rw[nd (by omega) (by omega),z7];simp;omega
    rw[hat];have hr:=Qd2 (l:=l) (p:=[]) (t:=dB m) (mj m) h9 (by simp)
    rw[Qlf]at hr;rw[cN hr,ug];refine bY (eV (by simp only[Qay,QaA,QbH];omega)) ?_
    rw[show xu (bs (dB m)) 0 ((([]:List UInt8).length:Nat):Int)=some ()from zX (QaD _) (QaD _),af];refine⟨_,rfl,λs' e=>?_,λe h=>by cases h⟩
    cases e;refine⟨.inr ⟨?_,?_⟩,?_⟩
    ·show(bs (dB m)).extract _ _=_;rw[xz];simp
    ·show l++[(m:Int)]=_;rw[<-h2,Qd0 (by unfold B9;exact QbR h9)]
    ·show((bs (dB m)).extract _ _).size<(bs (dB m)).size;rw[xz,js,js];simp;omega
   ·have hm9:¬m<B9:=λh=>by
     have:=B0 8 m (by unfold B9 at h;omega)
     omega
    have hsp:=BE 9 m (by unfold B9 at hm9;omega)
    have hlen:(dB m).length=(dB (m / 10 ^ 9)).length+9:=by rw[hsp,Qay,Ka]
    have hat:vZ 0 (cX .i64 ((dB m).length:Int) 9)=(((dB (m / 10 ^ 9)).length:Nat):Int):=by rw[nd (by omega) (by omega),z7,hlen];omega
    rw[hat];have hr:=Qd2 (l:=l) (p:=dB (m / 10 ^ 9)) (t:=pad 9 (m % 10 ^ 9)) (QdR 9 _) (by rw[Ka];omega) (by omega)
    rw[<-hsp]at hr;rw[cN hr,Qee];refine bY (eV (by simp only[Qay,QaA,QbH];omega)) ?_
    rw[show xu (bs (dB m)) 0 (((dB (m / 10 ^ 9)).length:Nat):Int)=some ()from zX (QaD _) (by omega),af]
    refine⟨_,rfl,λs' e=>?_,λe h=>by cases h⟩
    cases e;have hex:(bs (dB m)).extract (0:Int).toNat ((((dB (m / 10 ^ 9)).length:Nat):Int)).toNat=bs (dB (m / B9)):=by
     rw[xz,QaC,hsp,List.take_left];rfl
    refine⟨.inl ⟨m / B9,hex,?_,?_⟩,?_⟩
    ·show(l++[_])++Jh (m / B9)=_;rw[<-h2,QdZ hm9,Qds,List.singleton_append];congr 2;show((m % 10 ^ 9 % 10 ^ 9:Nat):Int)=_;rw[Nat.mod_mod];rfl
    ·have:=oB (Qf3 m B9);omega
    ·show((bs (dB m)).extract _ _).size<(bs (dB m)).size;rw[hex,js,js,hlen];show(dB (m / B9)).length<(dB (m / B9)).length+9;omega
  ·simp only at h1 h2;subst h1;show post (uy l (bs [])) _;unfold uy;rw[aR (by decide)]
   refine⟨_,rfl,λs' e=>(by cases e),λe h=>?_⟩
   cases h;exact h2
 ·subst hr;have:=ZU n;rw[Kf (QkL n) (by omega),af,Qjb]
  exact aI.2 rfl
theorem TL{m n:Nat}(hm:(dB m).length<=4096)(hn:(dB n).length<=4096):Bv (bP m) (bP n)=some (a_ m,a_ n,0):=by
 unfold Bv;rw[Fm (by omega),af,dT,Fm (by omega),af,dT]
 have h1:ca (bP m)=((dB m).length:Int):=dE;have h2:ca (bP n)=((dB n).length:Int):=dE;rw[h1,h2,aR (by rw[Ja,iu,iu];omega),Qd1 (by omega),af,Qd1 (by omega),af]
theorem BI{n:Nat}:(a_ n).length<=(dB n).length:=by
 induction n using Nat.strongRecOn with
 |ind n ih =>
  rcases QcW n with rfl|h
  ·rw[jE];simp
  ·rw[uT h,QaA];by_cases h9:n<B9
   ·rw[show n / B9=0 by unfold B9 at *;omega,jE];exact qq n
   ·have h1:=ih (n / B9) (by unfold B9 at *;omega)
    have h2:=BE 9 n (by unfold B9 at h9;omega)
    rw[h2,Qay,Ka];show _<=(dB (n / B9)).length+9;omega
theorem R5{l:List Int}:Dp l->ef l<1000000000 ^ l.length:=by
 induction l with
 |nil=>intro _;simp [ef]
 |cons a r ih =>
  intro h;have h1:=ih λb hb=>h b (QaK _ hb)
  have h2:=h a (Qbm ..);rw[ef,QaA,QhH];omega
theorem vc{l:List Int}{i:Nat}:ef (l.take (i+1))=ef (l.take i)+1000000000 ^ i*l.getD i 0:=by
 rcases sh i l.length with h|h
 ·have e:l[i]?=some l[i]:=dr h;rw[take_one e,By,Qbo,e];simp only[QbG,ef,Qdo,Qh8 (Qge h)];rw[Int.mul_zero,Qkj]
 ·rw[QeR h,QeR (by omega),IB h];simp
theorem Dp.take{l:List Int}(h:Dp l)(i:Nat):Dp (l.take i):=λa ha=>h a (Qi1 ha)
theorem Dp.getD{l:List Int}(h:Dp l)(i:Nat):0<=l.getD i 0/\l.getD i 0<1000000000:=by
 rcases sh i l.length with hi|hi
 ·rw[Qbo,dr hi];exact h _ (QaH hi)
 ·rw[IB hi];omega
theorem Dp.snoc{l:List Int}{a:Int}(h:Dp l)(ha:0<=a/\a<1000000000):Dp (l++[a]):=λb hb=>by
 rcases QaI.1 hb with hb|hb
 ·exact h b hb
 ·rw[Qaz.1 hb];exact ha
theorem Xg{l:List Int}{i:Nat}:jt l (i:Int)=some (l.getD i 0):=by
 unfold jt;rcases sh i l.length with h|h
 ·have e:l[i]?=some l[i]:=dr h;rw[bk (by rw[ew];unfold ay;omega),bB e,af,Qbo,e];rfl
 ·rw[aR (by rw[eC];unfold ay;omega),IB h]
theorem getD_at{l:List Int}{i:Nat}(h:i<l.length):l[i]?=some (l.getD i 0):=by rw[Qbo,dr h];rfl
theorem qp{x y:Int}(h:x<y):Go.Lib.compareInt x y=-1:=by unfold Go.Lib.compareInt;rw[if_pos h]
theorem pr{x y:Int}(h:y<x):Go.Lib.compareInt x y=1:=by unfold Go.Lib.compareInt;rw[if_neg (by omega),if_pos h]
theorem Aj{x:Int}:Go.Lib.compareInt x x=0:=by unfold Go.Lib.compareInt;rw[if_neg (by omega),if_neg (by omega)]
theorem QiG(k:Nat):(0:Int)<1000000000 ^ k:=Int.pow_pos (by omega)
theorem Qan{a b:List Int}(ha:Dp a)(hb:Dp b)(hl:a.length=b.length){i:Nat}(hi:i<a.length)(hd:a.drop (i+1)=b.drop (i+1)):(a.getD i 0<b.getD i 0->ef a<ef b):=by
 intro iq;have ea:ef a=ef (a.take (i+1))+1000000000 ^ (i+1)*ef (a.drop (i+1)):=by
  have:=By (a:=a.take (i+1)) (b:=a.drop (i+1));rwa [QmB,Qdo,Qh8 (by omega)]at this
 have eb:ef b=ef (b.take (i+1))+1000000000 ^ (i+1)*ef (b.drop (i+1)):=by
  have:=By (a:=b.take (i+1)) (b:=b.drop (i+1));rwa [QmB,Qdo,Qh8 (by omega)]at this
 rw[ea,eb,hd,vc,vc];have h1:=R5 (ha.take i);rw[Qdo,Qh8 (by omega)]at h1
 have h2:=X6 (hb.take i);have h3:=Ql8 (show a.getD i 0+1<=b.getD i 0 by omega) (Int.le_of_lt (QiG i))
 rw[QdY,Int.mul_one]at h3;omega
theorem YC{a b:List Int}(ha:Dp a)(hb:Dp b)(hl:a.length=b.length)(h6:a.length<=1000000):fI a b=some (Go.Lib.compareInt (ef a) (ef b)):=by
 unfold fI;rw[aR (by rw[vu];unfold ay;omega)]
 apply post.eq;refine bw (R:=λe:Unit⊕Int=>(e=.inl ()/\a=b)\/e=.inr (Go.Lib.compareInt (ef a) (ef b))) ?_ ?_
 ·refine dP (λs:Int=>∃j:Nat,s=(j:Int)-1/\j<=a.length/\a.drop j=b.drop j) (λs=>(s+1).toNat) ⟨a.length,?_,fa _,?_⟩ ?_ ?_
  ·unfold ay;rw[nd (by omega) (by omega)]
  ·rw[Qjk,hl,Qjk]
  ·unfold ay;rw[nd (by omega) (by omega)];omega
  rintro _ ⟨j,rfl,h1,h2⟩;show post (lE a b ((j:Int)-1)) _;unfold lE;refine bg (λhj=>?_) (λhj=>?_)
  ·rw[gX]at hj;obtain⟨i,rfl⟩:∃i,j=i+1:=⟨j-1,by omega⟩
   rw[show((i+1:Nat):Int)-1=(i:Int) by omega,bB (getD_at (show i<a.length by omega)),af,bB (getD_at (show i<b.length by omega)),af]
   refine bg (λhn=>?_) (λhn=>?_)
   ·rw[uA]at hn;rw[Qc4,af];refine⟨_,rfl,λs' e=>(by cases e),λe h=>?_⟩
    cases h;right;congr 1;rcases Int.lt_or_gt_of_ne hn with iq|hgt
    ·rw[qp iq,qp (Qan ha hb hl (by omega) h2 iq)]
    ·rw[pr hgt,pr (Qan hb ha hl.symm (by omega) h2.symm hgt)]
   ·rw[vu]at hn;rw[nd (by omega) (by omega)]
    refine⟨_,rfl,λs' e=>?_,λe h=>by cases h⟩
    cases e;refine⟨⟨i,rfl,by omega,?_⟩,by omega⟩
    have d1:=Qfa (show i<a.length by omega)
    have d2:=Qfa (show i<b.length by omega)
    rw[d1,d2,h2];congr 1;have e1:=getD_at (show i<a.length by omega)
    have e2:=getD_at (show i<b.length by omega)
    rw[dr (show i<a.length by omega)]at e1
    rw[dr (show i<b.length by omega)]at e2
    rw[QaL e1,QaL e2,hn]
  ·rw[A7]at hj;obtain rfl:j=0:=by omega
   refine⟨_,rfl,λs' e=>(by cases e),λe h=>?_⟩
   cases h;exact .inl ⟨rfl,h2⟩
 ·rintro e (⟨rfl,h⟩|rfl)
  ·rw[c5,h,Aj];exact aI.2 rfl
  ·rw[iJ];exact aI.2 rfl
theorem Nw{m:Nat}:(m:Int)<1000000000 ^ (a_ m).length:=by
 have:=R5 (tu m);rwa [ny]at this
theorem Nu{m:Nat}(h:0<m):(1000000000:Int) ^ ((a_ m).length-1)<=m:=by
 induction m using Nat.strongRecOn with
 |ind m ih =>
  rw[uT h,QaA,Qjg];by_cases h9:m<B9
  ·rw[show m / B9=0 by unfold B9 at *;omega,jE];simp;omega
  ·have h1:=ih (m / B9) (by unfold B9 at *;omega) (by unfold B9 at *;omega)
   have hp:0<(a_ (m / B9)).length:=by rw[uT (by unfold B9 at *;omega)];simp
   obtain⟨k,hk⟩:∃k,(a_ (m / B9)).length=k+1:=⟨_,(Nat.sub_add_cancel hp).symm⟩;rw[hk]at h1 ⊢;rw[Qjg]at h1;rw[QhH];unfold B9 at h1;omega
theorem xG{m n:Nat}(h:m<=n):(a_ m).length<=(a_ n).length:=by
 rcases QcW m with rfl|hm
 ·rw[jE];simp
 ·rcases sh (a_ n).length (a_ m).length with h'|h'
  ·exfalso;have h1:=Nu hm;have h2:=Nw (m:=n);have h3:(1000000000:Int) ^ (a_ n).length<=1000000000 ^ ((a_ m).length-1):=by
    have:=Qb2 (n:=1000000000) (by omega) (show(a_ n).length<=(a_ m).length-1 by omega)
    have h4:=Int.ofNat_le.2 this;rw[Ql4,Ql4]at h4;exact h4
   omega
  ·exact h'
theorem LA{m n:Nat}(hm:(a_ m).length<=1000000)(hn:(a_ n).length<=1000000):fI (a_ m) (a_ n)=some (Go.Lib.compareInt m n):=by
 by_cases hl:(a_ m).length=(a_ n).length
 ·rw[YC (tu m) (tu n) hl hm,ny,ny]
 ·unfold fI;rw[bk (by rw[uA];unfold ay;omega),Qc4,af]
  congr 1;unfold ay;rcases sh m n with h|h
  ·have:=xG (Qge h);rw[qp (by omega),qp (by omega)]
  ·have:=xG h;have lN:m≠n:=λe=>hl (by rw[e])
   rw[pr (by omega),pr (by omega)]
theorem Zz{m n:Nat}(h:n<=m)(hm:(a_ m).length<=1000000):lX (a_ m) (a_ n)=some (a_ (m-n)):=by
 have hlen:=xG h;unfold lX;have RQ:Bd 0 (ay (a_ m)) 8 (0:Int)=some []:=by
  unfold Bd ay;rw[if_pos (by omega)];rfl
 rw[RQ,af];apply post.eq;refine bw (R:=λl=>Dp l/\ef l=((m-n:Nat):Int)/\l.length=(a_ m).length) ?_ ?_
 ·refine p6 (a_ m).length (by omega) (λ(i:Nat) (s:List Int×Int×Int)=>s.2.2=(i:Int)/\Dp s.1/\s.1.length=i/\(s.2.1=0\/s.2.1=1)/\ef s.1=ef ((a_ m).take i)-ef ((a_ n).take i)+s.2.1*1000000000 ^ i)
   ⟨rfl,(λa ha=>by cases ha),rfl,.inl rfl,by simp [ef]⟩ ?_ ?_
  ·rintro i ⟨l,bo,v⟩ hi ⟨h1,h2,h3,h4,h5⟩;simp only at h1 h2 h3 h4 h5;subst h1;show post (iW (a_ m) (a_ n) [] l bo (i:Int)) _;unfold iW;have ba:=(tu m).getD i;have bb:=(tu n).getD i;rw[cO (getD_at hi),Xg,af,nd (a:=(a_ m).getD i 0) (b:=(a_ n).getD i 0) (by omega) (by omega),nd (by omega) (by omega)]
   have main:∀(b' d:Int),(b'=0\/b'=1)->(0<=d/\d<1000000000)->d=(a_ m).getD i 0-(a_ n).getD i 0-bo+b'*1000000000->post (ld (a_ m) (a_ n) [] l (i:Int) b' d) λx=>(∀s',x=.inl s'->s'.2.2=((i+1:Nat):Int)/\Dp s'.1/\s'.1.length=i+1/\(s'.2.1=0\/s'.2.1=1)/\ef s'.1=ef ((a_ m).take (i+1))-ef ((a_ n).take (i+1))+s'.2.1*1000000000 ^ (i+1))/\∀e,x=.inr e->Dp e/\ef e=((m-n:Nat):Int)/\e.length=(a_ m).length:=λb' d q1 q2 q3=>by
    unfold ld;rw[dZ (by omega) (by omega)]
    refine bY (eV (by simp only[Qay,QaA,QbH];omega)) (cZ (C:=λs'=>_) ⟨rfl,h2.snoc q2,by simp [h3],q1,?_⟩)
    show ef (l++[d])=_;rw[By,h5,h3,vc,vc,QhH,q3];simp only[ef,Int.mul_zero,Qkj];generalize(1000000000:Int) ^ i=p;rw[QdY,Int.mul_sub,Int.mul_sub,Qdr p bo,Qdr p (b'*1000000000),Qdr p 1000000000,QfX];omega
   refine bg (λQeX=>?_) (λQeX=>?_)
   ·rw[ew]at QeX;rw[dZ (by omega) (by omega)]
    exact main 1 _ (.inr rfl) (by omega) (by omega)
   ·rw[eC]at QeX;exact main 0 _ (.inl rfl) (by omega) (by omega)
  ·rintro⟨l,bo,v⟩ ⟨h1,h2,h3,h4,h5⟩;simp only at h1 h2 h3 h4 h5;subst h1;show post (iW (a_ m) (a_ n) [] l bo ((a_ m).length:Int)) _;unfold iW;rw[cG];rw[QbC,QeR hlen,ny,ny]at h5;have iq:=R5 h2;rw[h3]at iq;refine dd ⟨h2,?_,h3⟩;rcases h4 with h4|h4
   ·rw[h5,h4];omega
   ·rw[h4]at h5;omega
 ·rintro l ⟨h1,h2,h3⟩;rw[Kf h1 (by omega),af,h2,QaC]
  exact aI.2 rfl
theorem V6{m k:Nat}(hk:k<1000000000)(hm:(a_ m).length<=1000000):pc (a_ m) k=some (a_ (m*k)):=by
 unfold pc;have RQ:Bd 0 (aV .i64 (ay (a_ m)) 1) 8 (0:Int)=some []:=by
  unfold ay;rw[dZ (by omega) (by omega)];unfold Bd;rw[if_pos (by omega)];rfl
 rw[RQ,af];apply post.eq;refine bw (R:=λe:List Int×Int=>Dp (e.1++[e.2])/\ef (e.1++[e.2])=((m*k:Nat):Int)/\e.1.length=(a_ m).length) ?_ ?_
 ·refine p6 (a_ m).length (by omega) (λ(i:Nat) (s:List Int×Int×Int)=>s.2.2=(i:Int)/\Dp s.1/\s.1.length=i/\(0<=s.2.1/\s.2.1<1000000000)/\ef s.1+s.2.1*1000000000 ^ i=ef ((a_ m).take i)*k)
   ⟨rfl,(λa ha=>by cases ha),rfl,⟨by simp,by simp⟩,by simp [ef]⟩ ?_ ?_
  ·rintro i ⟨l,c,v⟩ hi ⟨h1,h2,h3,h4,h5⟩;simp only at h1 h2 h3 h4 h5;subst h1;show post (iX (a_ m) k [] l c (i:Int)) _;unfold iX;have ba:=(tu m).getD i;rw[cO (getD_at hi)];have EK:0<=(a_ m).getD i 0*(k:Int):=Qgb ba.1 (by omega)
   have W0:(a_ m).getD i 0*(k:Int)<=999999999*999999999:=QhB (by omega) (by omega) (by omega) (by omega)
   rw[I4 (by omega) (by omega),dZ (by omega) (by omega),dZ (by omega) (by omega)]
   have ht:0<=(a_ m).getD i 0*(k:Int)+c:=by omega
   have er:wV ((a_ m).getD i 0*(k:Int)+c) 1000000000=((a_ m).getD i 0*(k:Int)+c) % 1000000000:=Qnx ht;have Uu:((a_ m).getD i 0*(k:Int)+c).tdiv 1000000000=((a_ m).getD i 0*(k:Int)+c) / 1000000000:=Qix ht;have eq:q_ .i64 ((a_ m).getD i 0*(k:Int)+c) 1000000000=((a_ m).getD i 0*(k:Int)+c) / 1000000000:=by rw[XH (by rw[Uu];omega) (by rw[Uu];omega),Uu]
   rw[er,eq];generalize hT:(a_ m).getD i 0*(k:Int)+c=T at *;refine bY (eV (by simp only[Qay,QaA,QbH];omega)) (cZ (C:=λs'=>_) ⟨rfl,h2.snoc (by omega),by simp [h3],by show 0<=T / 1000000000/\T / 1000000000<1000000000;omega,?_⟩)
   show ef (l++[T % 1000000000])+T / 1000000000*1000000000 ^ (i+1)=_;rw[By,h3,vc,QhH];simp only[ef,Int.mul_zero,Qkj];have hd:T=T % 1000000000+1000000000*(T / 1000000000):=by omega
   generalize(1000000000:Int) ^ i=p at *;have e1:ef l=ef ((a_ m).take i)*k-c*p:=by omega
   rw[e1,Qkl];have e2:p*(a_ m).getD i 0*k=p*(T-c):=by rw[QfX];congr 1;omega
   rw[e2,Int.mul_sub];have e3:p*(T % 1000000000)+T / 1000000000*(p*1000000000)=p*T:=by
    rw[Qdr (T / 1000000000),QfX,<-QdY,<-hd]
   rw[Qdr c p];omega
  ·rintro⟨l,c,v⟩ ⟨h1,h2,h3,h4,h5⟩;simp only at h1 h2 h3 h4 h5;subst h1;show post (iX (a_ m) k [] l c ((a_ m).length:Int)) _;unfold iX;rw[cG];rw[QbC,ny]at h5;refine dd ⟨h2.snoc h4,?_,h3⟩;rw[By,h3];simp only[ef,Int.mul_zero,Qkj];rw[QeV,<-h5,Qdr c]
 ·rintro⟨l,c⟩ ⟨h1,h2,h3⟩;simp only at h1 h2 h3;show post (ft _ _) _;refine bY (eV (by simp only[Qay,QaA,QbH];omega)) ?_
  rw[Kf h1 (by simp only[Qay,QaA,QbH];omega),af,h2,QaC]
  exact aI.2 rfl
theorem Nv{n k:Nat}(h:(n:Int)<1000000000 ^ k):(a_ n).length<=k:=by
 rcases QcW n with rfl|hn
 ·rw[jE];simp
 ·rcases sh k (a_ n).length with h'|h'
  ·exfalso;have h1:=Nu hn;have h3:=Qb2 (n:=1000000000) (by omega) (show k<=(a_ n).length-1 by omega)
   have h4:=Int.ofNat_le.2 h3;rw[Ql4,Ql4]at h4;have h5:(1000000000:Int) ^ k<=1000000000 ^ ((a_ n).length-1):=h4;omega
  ·exact h'
theorem Lo{b k:Nat}(hk:k<1000000000):(a_ (b*k)).length<=(a_ b).length+1:=by
 apply Nv;have h1:=Nw (m:=b);rw[QeV,QhH];have h2:(b:Int)*k<=b*999999999:=Ql8 (by omega) (by omega)
 omega
theorem QtW{a c:Nat}(hc:0<c)(ha:a<9223372036854775808):q_ .i64 (a:Int) (c:Int)=((a / c:Nat):Int):=by
 have e:(a:Int).tdiv (c:Int)=((a / c:Nat):Int):=by rw[Qix (by omega)];rfl
 have:=Qf3 a c;rw[XH (by rw[e];exact Qgd (by omega) (QmP _)) (by rw[e];generalize a / c=d at *;omega),e]
theorem Qhh{r b:Nat}(hb:0<b)(h:r<1000000000*b)(hr:(a_ r).length<=900000)(Yn:(a_ b).length<=900000):EP (a_ r) (a_ b)=some ((r / b:Nat):Int):=by
 have hq:r / b<1000000000:=(Nat.div_lt_iff_lt_mul hb).2 h;unfold EP;apply post.eq;refine bw (R:=λe:Int=>e=((r / b:Nat):Int)) ?_ λe he=>aI.2 he
 refine dP (λs:Int×Int=>∃lo hi:Nat,s=((lo:Int),(hi:Int))/\lo<=r / b/\r / b<=hi/\hi<=999999999) (λs=>s.2.toNat-s.1.toNat) ⟨0,999999999,rfl,QaD _,by omega,fa _⟩ (by decide) ?_
 rintro _ ⟨lo,hi,rfl,h1,h2,h3⟩;show post (yA (a_ r) (a_ b) (lo:Int) (hi:Int)) _;unfold yA;refine bg (λhl=>?_) (λhl=>?_)
 ·rw[ew]at hl;have hm:q_ .i64 (aV .i64 (aV .i64 (lo:Int) hi) 1) 2=(((lo+hi+1) / 2:Nat):Int):=by
   rw[dZ (a:=(lo:Int)) (b:=(hi:Int)) (by omega) (by omega),dZ (by omega) (by omega)]
   exact QtW (a:=lo+hi+1) (c:=2) (by omega) (by omega)
  rw[hm];generalize hM:(lo+hi+1) / 2=zN;have QpM:zN<1000000000:=by omega
  have hll:=Lo (b:=b) QpM;rw[V6 QpM (by omega),af,LA (by omega) (by omega),af]
  by_cases hc:b*zN<=r
  ·have hle:zN<=r / b:=by rw[QmE hb,Qf6];exact hc
   have:gB (Go.Lib.compareInt ((b*zN:Nat):Int) (r:Int)) 0=true:=by
    rw[xa];rcases Qjh hc with h'|h'
    ·rw[qp (by omega)];omega
    ·rw[h',Aj];omega
   rw[bk this];refine⟨_,rfl,λs' e=>?_,λe he=>by cases he⟩
   cases e;exact⟨⟨zN,hi,rfl,hle,h2,h3⟩,by show hi-zN<hi-lo;omega⟩
  ·have hgt:r / b<zN:=by
    rcases sh (r / b) zN with h'|h'
    ·exact h'
    ·exfalso;rw[ge_iff_le,QmE hb,Qf6]at h';exact hc h'
   have:gB (Go.Lib.compareInt ((b*zN:Nat):Int) (r:Int)) 0=false:=by
    rw[S5,pr (by omega)];omega
   rw[aR this,nd (by omega) (by omega)]
   refine⟨_,rfl,λs' e=>?_,λe he=>by cases he⟩
   cases e;exact⟨⟨lo,zN-1,by rw[show((zN-1:Nat):Int)=(zN:Int)-1 by omega],h1,by omega,by omega⟩,by show((zN:Int)-1).toNat-(lo:Int).toNat<(hi:Int).toNat-(lo:Int).toNat;omega⟩
 ·rw[eC]at hl;refine⟨_,rfl,λs' e=>(by cases e),λe he=>?_⟩
  cases he;have:lo=r / b:=by omega
  rw[<-this]
theorem P0{l:List Int}{i:Nat}(h:i<l.length):ef (l.drop i)=l.getD i 0+1000000000*ef (l.drop (i+1)):=by
 rw[Qfa h,ef];congr 1;rw[Qbo,dr h];rfl
theorem drop_set{l:List Int}{i:Nat}{x:Int}:(l.set i x).drop (i+1)=l.drop (i+1):=by
 rw[List.drop_set_of_lt (by omega)]
theorem Dp.set{l:List Int}{i:Nat}{x:Int}(h:Dp l)(hx:0<=x/\x<1000000000):Dp (l.set i x):=λa ha=>by
 rcases List.mem_or_eq_of_mem_set ha with h'|h'
 ·exact h a h'
 ·rw[h'];exact hx
theorem U1{a b:Nat}(hb:0<b)(ha:(a_ a).length<=100000)(Yn:(a_ b).length<=100000):wQ (a_ a) (a_ b)=some (a_ (a / b),a_ (a % b)):=by
 unfold wQ;have RQ:Bd (ay (a_ a)) (ay (a_ a)) 8 (0:Int)=some (List.replicate (a_ a).length 0):=by
  unfold Bd ay;rw[if_pos (by omega)];rfl
 rw[RQ,af];apply post.eq;refine bw (R:=λe:List Int×List Int=>Dp e.1/\e.1.length=(a_ a).length/\∃R:Nat,e.2=a_ R/\R<b/\(a:Int)=ef e.1*b+R) ?_ ?_
 ·refine dP (λs:List Int×List Int×Int=>∃(j R:Nat),s.2.2=(j:Int)-1/\j<=(a_ a).length/\s.1.length=(a_ a).length/\Dp s.1/\(∀k,k<j->s.1.getD k 0=0)/\s.2.1=a_ R/\R<b/\ef ((a_ a).drop j)=ef (s.1.drop j)*b+R) (λs=>(s.2.2+1).toNat)
   ⟨(a_ a).length,0,?_,fa _,by simp,?_,?_,jE.symm,hb,?_⟩ ?_ ?_
  ·unfold ay;rw[nd (by omega) (by omega)]
  ·intro x hx;rw[(List.mem_replicate.1 hx).2];omega
  ·intro k hk;rw[Qbo,Qjr,if_pos hk];rfl
  ·rw[Qjk];show ef []=ef ((List.replicate (a_ a).length 0).drop (a_ a).length)*b+((0:Nat):Int);rw[List.drop_of_length_le (by simp)];simp [ef]
  ·show(cX .i64 (ay (a_ a)) 1+1).toNat<_;unfold ay;rw[nd (by omega) (by omega)];omega
  rintro⟨l,rest,i⟩ ⟨j,R,h1,h2,h3,h4,h5,h6,h7,h8⟩;simp only at h1 h3 h4 h5 h6 h8;subst h1 h6;show post (v7 (a_ a) (a_ b) (List.replicate (a_ a).length 0) l (a_ R) ((j:Int)-1)) _;unfold v7;refine bg (λhj=>?_) (λhj=>?_)
  ·rw[gX]at hj;obtain⟨i,rfl⟩:∃i,j=i+1:=⟨j-1,by omega⟩
   have hx:=(tu a).getD i;rw[show((i+1:Nat):Int)-1=(i:Int) by omega,bB (getD_at (show i<(a_ a).length by omega)),af]
   have hva:=P0 (l:=a_ a) (i:=i) (by omega)
   have yz:=P0 (l:=l) (i:=i) (by omega)
   rw[h5 i (by omega)]at yz
   generalize(a_ a).getD i 0=x at hx hva ⊢;have O5:(a_ R).length<=(a_ b).length:=xG (by omega)
   obtain⟨T,hT⟩:∃T:Nat,(T:Int)=x+1000000000*R:=⟨(x+1000000000*R).toNat,by omega⟩
   have hTb:T<1000000000*b:=by omega
   have y5:Dp ([x]++a_ R):=by
    intro c hc;rcases QaI.1 hc with hc|hc
    ·rw[Qaz.1 hc];exact hx
    ·exact tu R c hc
   have htr:fP ([x]++a_ R)=some (a_ T):=by
    rw[Kf y5 (by simp only[Qay,QaA,QbH];omega)]
    congr 2;show(x+1000000000*ef (a_ R)).toNat=T;rw[ny,<-hT];omega
   have hTl:(a_ T).length<=(a_ b).length+1:=by
    apply Nv;have:=Nw (m:=b);rw[QhH];omega
   refine bY (eV (by simp only[Qay,QaA,QbH];omega)) ?_
   rw[htr,af,LA (by omega) (by omega),af,nd (by omega) (by omega)]
   have hgl:bn l (i:Int)=some (l.getD i 0):=bB (getD_at (by omega))
   have fin:∀(q R':Nat),q<1000000000->R'<b->T=q*b+R'->∀(l':List Int),l'=l.set i (q:Int)->(∀s':List Int×List Int×Int,(l',a_ R',(i:Int)-1)=s'->(∃(j R:Nat),s'.2.2=(j:Int)-1/\j<=(a_ a).length/\s'.1.length=(a_ a).length/\Dp s'.1/\(∀k,k<j->s'.1.getD k 0=0)/\s'.2.1=a_ R/\R<b/\ef ((a_ a).drop j)=ef (s'.1.drop j)*b+R)/\(s'.2.2+1).toNat<((i:Int)+1).toNat):=λq R' q1 q2 q3 l' q4 s' e=>by
    subst e q4;refine⟨⟨i,R',rfl,by omega,by simp [h3],h4.set (by omega),λk hk=>?_,rfl,q2,?_⟩,by show((i:Int)-1+1).toNat<_;omega⟩
    ·show(l.set i (q:Int)).getD k 0=0;rw[Qbo,QgP (by omega),<-Qbo]
     exact h5 k (by omega)
    ·show ef ((a_ a).drop i)=ef ((l.set i (q:Int)).drop i)*b+R';rw[hva,h8,P0 (l:=l.set i (q:Int)) (i:=i) (by rw[Qjm];omega),drop_set]
     have:(l.set i (q:Int)).getD i 0=q:=by rw[Qbo,Qf8 (by omega)];rfl
     rw[this,QdY,Qkl,QfX];have hT':(T:Int)=q*b+R':=by rw[q3];simp
     omega
   have Bp:(((i+1:Nat):Int)-1+1).toNat=((i:Int)+1).toNat:=by omega
   rcases Qkq T b with hc|hc|hc
   ·rw[qp (by omega),bk (by decide)]
    refine⟨_,rfl,λs' e=>?_,λe he=>by cases he⟩
    have e':=Sum.inl.inj e;have Kq:l=l.set i ((0:Nat):Int):=by
     apply Qga;intro k;by_cases hk:i=k
     ·subst hk;rw[Qf8 (by omega),getD_at (by omega),h5 i (by omega)];rfl
     ·rw[QgP hk]
    have:=fin 0 T (by omega) hc (by omega) l Kq s' e'
    exact this
   ·rw[hc,Aj,aR (by decide),bk (by decide),hgl,af]
    refine⟨_,rfl,λs' e=>?_,λe he=>by cases he⟩
    have e':=Sum.inl.inj e;have:=fin 1 0 (by omega) hb (by omega) (jq l (i:Int) 1) (by unfold jq;rw[QaC];rfl) s' (by rw[jE];exact e')
    exact this
   ·have hq:T / b<1000000000:=(Nat.div_lt_iff_lt_mul hb).2 hTb;have hqb:b*(T / b)<=T:=Nat.mul_div_le T b;have hql:=Lo (b:=b) hq;rw[pr (by omega),aR (by decide),aR (by decide),Qhh hb hTb (by omega) (by omega),af,hgl,af,V6 hq (by omega),af,Zz hqb (by omega),af]
    refine⟨_,rfl,λs' e=>?_,λe he=>by cases he⟩
    have e':=Sum.inl.inj e;have QwG:=Nat.div_add_mod T b;have hml:=Qgu T hb;have:=fin (T / b) (T-b*(T / b)) hq (by omega) (by rw[Qf6];omega) (jq l (i:Int) ((T / b:Nat):Int)) (by unfold jq;rw[QaC]) s' e'
    exact this
  ·rw[A7]at hj;obtain rfl:j=0:=by omega
   refine⟨_,rfl,λs' e=>(by cases e),λe he=>?_⟩
   cases he;refine⟨h4,h3,R,rfl,h7,?_⟩;rw[Qjq,Qjq,ny]at h8;exact h8
 ·rintro⟨l,rest⟩ ⟨h1,h2,R,h3,h4,h5⟩;simp only at h1 h2 h3 h5;subst h3;show post (aQ (fP l) _) _;have hn:=X6 h1;obtain⟨Q,hQ⟩:∃Q:Nat,ef l=(Q:Int):=⟨(ef l).toNat,by omega⟩
  rw[Kf h1 (by omega),af,hQ,QaC]
  rw[hQ]at h5;have h6:a=Q*b+R:=by exact_mod_cast h5
  have e1:a / b=Q:=by rw[h6,Qf6,Nat.mul_add_div hb,Nat.div_eq_of_lt h4];rfl
  have e2:a % b=R:=by rw[h6,Qf6,Nat.mul_add_mod,QfS h4]
  rw[e1,e2];exact aI.2 rfl
theorem RU{n L:Nat}(h:(a_ n).length<=L):n.log2<=30*L:=by
 rcases QcW n with rfl|hn
 ·rw[show Nat.log2 0=0 from rfl];omega
 ·have h1:=Nw (m:=n);have h2:n<1000000000 ^ (a_ n).length:=by
   have:((n:Nat):Int)<((1000000000 ^ (a_ n).length:Nat):Int):=by rw[Ql4];exact h1
   omega
  have h3:1000000000 ^ (a_ n).length<=(2 ^ 30) ^ (a_ n).length:=Nat.pow_le_pow_left (by decide) _
  rw[<-Nat.pow_mul]at h3;have h4:2 ^ (30*(a_ n).length)<=2 ^ (30*L):=Qb2 (by omega) (by omega)
  have h5:n<2 ^ (30*L):=Qby h2 (QaE h3 h4);exact Qge ((Nat.log2_lt (by omega)).2 h5)
def LC(x y:Nat):Nat:=x.log2+y.log2+(if y=0 then 0 else 1)+(if x<y then 1 else 0)
theorem O2{x y:Nat}(hy:0<y):LC y (x % y)<LC x y:=by
 unfold LC;have hr:=Qgu x hy;rw[if_neg (show ¬y<x % y by omega),if_neg (show ¬y=0 by omega)]
 by_cases hx:x<y
 ·rw[QfS hx,if_pos hx];split <;> omega
 ·rw[if_neg hx];by_cases h0:x % y=0
  ·rw[if_pos h0,h0,show Nat.log2 0=0 from rfl];omega
  ·rw[if_neg h0];have h1:=Nat.log2_self_le h0;have h2:2*(x % y)<=x:=by
    have:=Nat.div_add_mod x y;have hq:1<=x / y:=by rw[QmE hy];omega
    have:=Nat.mul_le_mul_left y hq;omega
   have h3:(x % y).log2+1<=x.log2:=by
    rw[Nat.le_log2 (by omega),Qdw];omega
   omega
theorem vV{n:Nat}:0<(a_ n).length↔0<n:=by
 rcases QcW n with rfl|h
 ·rw[jE];simp
 ·rw[uT h];simp [h]
theorem Qhw{b:I}{x y:Nat}(hx:(a_ x).length<=100000)(hy:(a_ y).length<=100000):aL (λs=>wO b s.1 s.2) (a_ x,a_ y)=some (a_ (Nat.gcd x y)):=by
 apply post.eq;refine xl (λm (s:List Int×List Int)=>∃X Y:Nat,s=(a_ X,a_ Y)/\Nat.gcd X Y=Nat.gcd x y/\LC X Y=m/\(a_ X).length<=100000/\(a_ Y).length<=100000) (LC x y) ⟨x,y,rfl,rfl,rfl,hx,hy⟩ ?_ ?_
 ·have h1:=RU hx;have h2:=RU hy;unfold LC;split <;> split <;> omega
 ·rintro m _ ⟨X,Y,rfl,h1,h2,h3,h4⟩;show post (wO b (a_ X) (a_ Y)) _;unfold wO;refine bg (λh=>?_) (λh=>?_)
  ·rw[oH]at h;unfold ay at h;have hY:0<Y:=vV.1 (by omega)
   rw[U1 hY h3 h4,af];refine⟨_,rfl,λs' e=>?_,λe he=>by cases he⟩
   cases e;have hl:=xG (Qge (Qgu X hY));refine⟨LC Y (X % Y),by rw[<-h2];exact O2 hY,Y,X % Y,rfl,?_,rfl,h4,by omega⟩
   rw[<-h1,Nat.gcd_comm X Y,Nat.gcd_rec Y X,Nat.gcd_comm]
  ·rw[iu]at h;unfold ay at h;have hY:Y=0:=by
    rcases QcW Y with h'|h'
    ·exact h'
    ·have:=vV.2 h';omega
   subst hY;refine⟨_,rfl,λs' e=>(by cases e),λe he=>?_⟩
   cases he;rw[<-h1,Nat.gcd_zero_right]
theorem Qfd{l:List Int}{n:Nat}(h:Dp l)(hv:ef l=(n:Int))(ht:l.length=0\/(1000000000:Int) ^ (l.length-1)<=n):l=a_ n:=by
 have:=Zt h λi a e h0=>by
  subst e h0;simp only[Qay,QaA,QbH]at ht;rw[By]at hv;have h1:=R5 h.left;rcases ht with ht|ht
  ·omega
  ·rw[Qjg]at ht;simp [ef]at hv;omega
 rw[this,hv,QaC]
theorem QgF{b:I}{m n:Nat}(hm:(a_ m).length<=100000)(hn:(a_ n).length<=100000):aL (λs=>zQ b (a_ m,a_ n,0) s.1 s.2.1 s.2.2) ([],0,0)=some (a_ (m+n)):=by
 obtain⟨M,hM⟩:∃M,M=max (a_ m).length (a_ n).length:=⟨_,rfl⟩;have hM1:(a_ m).length<=M:=by omega
 have Xf:(a_ n).length<=M:=by omega
 apply post.eq;refine dP (λs:List Int×Int×Int=>∃i:Nat,s.2.2=(i:Int)/\Dp s.1/\s.1.length=i/\(s.2.1=0\/s.2.1=1)/\ef s.1+s.2.1*1000000000 ^ i=ef ((a_ m).take i)+ef ((a_ n).take i)/\(i<=M\/(i=M+1/\s.2.1=0/\(1000000000:Int) ^ M<=m+n))) (λs=>M+1-s.2.2.toNat)
  ⟨0,rfl,(λa ha=>by cases ha),rfl,.inl rfl,by simp [ef],.inl (QaD _)⟩ (by simp;omega) ?_
 rintro⟨l,c,v⟩ ⟨i,h1,h2,h3,h4,h5,h6⟩;simp only at h1 h2 h3 h4 h5 h6;subst h1;show post (zQ b (a_ m,a_ n,0) l c (i:Int)) _;unfold zQ;have hmx:vZ (ay (a_ m)) (ay (a_ n))=(M:Int):=by rw[z7];unfold ay;omega
 show post (br (bh (i:Int) (vZ (ay (a_ m)) (ay (a_ n)))||dt c 0) _ _) _;rw[hmx];have ba:=(tu m).getD i;have bb:=(tu n).getD i;refine bg (λhc=>?_) (λhc=>?_)
 ·rw[Yj,ew,oH]at hc;have hi:i<=M:=by
   rcases h6 with h6|h6
   ·exact h6
   ·rcases hc with hc|hc <;> omega
  show post (aQ (jt (a_ m) (i:Int)) λr1=>aQ (jt (a_ n) (i:Int)) _) _
  rw[Xg,af,Xg,af,dZ (a:=(a_ m).getD i 0) (b:=(a_ n).getD i 0) (by omega) (by omega),dZ (by omega) (by omega),dZ (by omega) (by omega)]
  generalize hT:(a_ m).getD i 0+(a_ n).getD i 0+c=T;have ht:0<=T:=by omega
  have er:wV T 1000000000=T % 1000000000:=Qnx ht;have Uu:T.tdiv 1000000000=T / 1000000000:=Qix ht;have eq:q_ .i64 T 1000000000=T / 1000000000:=by rw[XH (by rw[Uu];omega) (by rw[Uu];omega),Uu]
  rw[er,eq];have hinv:ef (l++[T % 1000000000])+T / 1000000000*1000000000 ^ (i+1)=ef ((a_ m).take (i+1))+ef ((a_ n).take (i+1)):=by
   rw[By,h3,vc,vc,QhH];simp only[ef,Int.mul_zero,Qkj];have hd:T=T % 1000000000+1000000000*(T / 1000000000):=by omega
   generalize(1000000000:Int) ^ i=p at *;have e3:p*(T % 1000000000)+T / 1000000000*(p*1000000000)=p*T:=by
    rw[Qdr (T / 1000000000),QfX,<-QdY,<-hd]
   have e4:p*T=p*(a_ m).getD i 0+p*(a_ n).getD i 0+c*p:=by rw[<-hT,QdY,QdY,Qdr p c]
   omega
  refine bY (eV (by simp only[Qay,QaA,QbH];omega)) ?_
  refine⟨_,rfl,λs' e=>?_,λe he=>by cases he⟩
  cases e;refine⟨⟨i+1,rfl,h2.snoc (by omega),by simp [h3],by show T / 1000000000=0\/T / 1000000000=1;omega,hinv,?_⟩,by show M+1-((i:Int)+1).toNat<M+1-(i:Int).toNat;omega⟩
  rcases sh i M with h'|h'
  ·exact .inl h'
  ·obtain rfl:i=M:=by omega
   have g1:=IB (l:=a_ m) (d:=i) hM1;have g2:=IB (l:=a_ n) (d:=i) Xf;have hc1:c=1:=by rcases hc with hc|hc <;> omega
   refine .inr ⟨rfl,by show T / 1000000000=0;omega,?_⟩
   rw[QeR hM1,QeR Xf,ny,ny,hc1]at h5;have:=X6 h2;omega
 ·rw[Ja,eC,iu]at hc;have kZ:c=0:=by omega
  refine⟨_,rfl,λs' e=>(by cases e),λe he=>?_⟩
  cases he;have hi:M<=i:=by omega
  rw[QeR (by omega),QeR (by omega),ny,ny,kZ]at h5
  refine Qfd h2 (by omega) ?_
  rw[h3];rcases h6 with h6|h6
  ·obtain rfl:i=M:=by omega
   rcases QcW i with h0|h0
   ·exact .inl h0
   ·right;rcases Nat.le_total (a_ m).length (a_ n).length with hle|hle
    ·have e:i=(a_ n).length:=by omega
     have hp:0<n:=vV.1 (by omega)
     have:=Nu hp;rw[e];omega
    ·have e:i=(a_ m).length:=by omega
     have hp:0<m:=vV.1 (by omega)
     have:=Nu hp;rw[e];omega
  ·right;rw[h6.1,Qjg];have:=h6.2.2;omega
theorem TN{l:List Int}{x:Int}:∀{i:Nat},i<l.length->ef (l.set i x)=ef l+1000000000 ^ i*(x-l.getD i 0):=by
 induction l with
 |nil=>intro i h;simp at h
 |cons a r ih =>
  intro i h;cases i with
  |zero=>simp [ef];omega
  |succ i =>
   rw[List.set_cons_succ,ef,ef,ih (by simpa using h),List.getD_cons_succ,QhH,QdY,Qdr (1000000000 ^ i) 1000000000,QfX]
   omega
theorem Y7{l:List Int}{i j:Nat}{x:Int}(h:i≠j):(l.set i x).getD j 0=l.getD j 0:=by
 rw[Qbo,QgP h,<-Qbo]
theorem Qit{b:I}{m n:Nat}{z:List Int}(hm:(a_ m).length<=100000)(hn:(a_ n).length<=100000):
  post (aL (λs=>ux b (a_ m,a_ n,0) z s.1 s.2) (List.replicate ((a_ m).length+(a_ n).length) 0,0)) λl=>Dp l/\l.length=(a_ m).length+(a_ n).length/\ef l=((m*n:Nat):Int):=by
 refine p6 (a_ m).length (by omega) (λ(i:Nat) (s:List Int×Int)=>s.2=(i:Int)/\Dp s.1/\s.1.length=(a_ m).length+(a_ n).length/\(∀j,i+(a_ n).length<=j->s.1.getD j 0=0)/\ef s.1=ef ((a_ m).take i)*n) ⟨rfl,?_,by simp,?_,?_⟩ ?_ ?_
 ·intro x hx;rw[(List.mem_replicate.1 hx).2];omega
 ·intro j _;rw[Qbo,Qjr];split <;> rfl
 ·have:∀k,ef (List.replicate k 0)=0:=λk=>by
   induction k with
   |zero=>rfl
   |succ k ih=>rw[Qlz,ef,ih];rfl
  rw[this];simp [ef]
 ·rintro i ⟨l,v⟩ hi ⟨h1,h2,h3,h4,h5⟩;simp only at h1 h2 h3 h4 h5;subst h1;show post (ux b (a_ m,a_ n,0) z l (i:Int)) _;unfold ux;have ba:=(tu m).getD i;show post (br (bh (i:Int) (ay (a_ m))) (aQ (bn (a_ m) (i:Int)) _) _) _;rw[cO (getD_at hi)];have TX:=vc (l:=a_ m) (i:=i);generalize(a_ m).getD i 0=x at ba TX ⊢;refine bw (R:=λe:List Int×Int=>Dp e.1/\e.1.length=(a_ m).length+(a_ n).length/\(∀j,i+(a_ n).length<=j->e.1.getD j 0=0)/\(0<=e.2/\e.2<1000000000)/\ef e.1+e.2*1000000000 ^ (i+(a_ n).length)=ef l+1000000000 ^ i*(x*n)) ?_ ?_
  ·refine p6 (a_ n).length (by omega) (λ(k:Nat) (s:List Int×Int×Int)=>s.2.2=(k:Int)/\Dp s.1/\s.1.length=(a_ m).length+(a_ n).length/\(∀j,i+(a_ n).length<=j->s.1.getD j 0=0)/\(0<=s.2.1/\s.2.1<1000000000)/\ef s.1+s.2.1*1000000000 ^ (i+k)=ef l+1000000000 ^ i*(x*ef ((a_ n).take k)))
    ⟨rfl,h2,h3,h4,⟨by simp,by simp⟩,by simp [ef]⟩ ?_ ?_
   ·rintro k ⟨l2,c,v1⟩ hk ⟨g1,g2,g3,g4,g5,g6⟩;simp only at g1 g2 g3 g4 g5 g6;subst g1;show post (wP b (a_ m,a_ n,0) z (i:Int) x l2 c (k:Int)) _;unfold wP;have bb:=(tu n).getD k;show post (br (bh (k:Int) (ay (a_ n))) (aQ (bn (a_ n) (k:Int)) _) _) _;rw[cO (getD_at hk),dZ (a:=(i:Int)) (b:=(k:Int)) (by omega) (by omega),show(i:Int)+(k:Int)=((i+k:Nat):Int) by omega,bB (getD_at (by omega)),af]
    have htn:=vc (l:=a_ n) (i:=k);have bo:=g2.getD (i+k);have Kq:=TN (l:=l2) (i:=i+k) (x:=0) (by omega)
    generalize(a_ n).getD k 0=w at bb htn ⊢;have EK:0<=x*w:=Qgb ba.1 bb.1;have W0:x*w<=999999999*999999999:=QhB (by omega) (by omega) (by omega) (by omega)
    rw[I4 (by omega) (by omega),dZ (a:=l2.getD (i+k) 0) (b:=x*w) (by omega) (by omega),dZ (by omega) (by omega),dZ (by omega) (by omega)]
    generalize hT:l2.getD (i+k) 0+x*w+c=T;have ht:0<=T:=by omega
    have er:wV T 1000000000=T % 1000000000:=Qnx ht;have Uu:T.tdiv 1000000000=T / 1000000000:=Qix ht;have eq:q_ .i64 T 1000000000=T / 1000000000:=by rw[XH (by rw[Uu];omega) (by rw[Uu];omega),Uu]
    rw[er,eq];have es:jq l2 (((i+k:Nat):Nat):Int) (T % 1000000000)=l2.set (i+k) (T % 1000000000):=by unfold jq;rw[QaC]
    rw[es];refine cZ (C:=λs'=>_) ⟨rfl,g2.set (by omega),by rw[Qjm];exact g3,λj hj=>?_,by show 0<=T / 1000000000/\T / 1000000000<1000000000;omega,?_⟩
    ·show(l2.set (i+k) _).getD j 0=0;rw[Y7 (by omega)];exact g4 j hj
    ·show ef (l2.set (i+k) (T % 1000000000))+T / 1000000000*1000000000 ^ (i+(k+1))=_;rw[TN (by omega),htn,show i+(k+1)=(i+k)+1 by omega,QhH]
     have hpe:(1000000000:Int) ^ (i+k)=1000000000 ^ i*1000000000 ^ k:=Int.pow_add ..;have hd:T=T % 1000000000+1000000000*(T / 1000000000):=by omega
     generalize hP:(1000000000:Int) ^ (i+k)=P at *;have e3:P*(T % 1000000000)+T / 1000000000*(P*1000000000)=P*T:=by
      rw[Qdr (T / 1000000000),QfX,<-QdY,<-hd]
     have e4:P*T=P*l2.getD (i+k) 0+P*(x*w)+c*P:=by rw[<-hT,QdY,QdY,Qdr P c]
     have e5:(1000000000:Int) ^ i*(x*(ef ((a_ n).take k)+1000000000 ^ k*w))=1000000000 ^ i*(x*ef ((a_ n).take k))+P*(x*w):=by
      rw[hpe,QdY,QdY];congr 1;rw[Int.mul_left_comm x,QfX]
     rw[e5,Int.mul_sub];omega
   ·rintro⟨l2,c,v1⟩ ⟨g1,g2,g3,g4,g5,g6⟩;simp only at g1 g2 g3 g4 g5 g6;subst g1;show post (wP b (a_ m,a_ n,0) z (i:Int) x l2 c ((a_ n).length:Int)) _;unfold wP;show post (br (bh ((a_ n).length:Int) (ay (a_ n))) _ _) _;rw[cG];rw[QbC,ny]at g6;exact dd ⟨g2,g3,g4,g5,g6⟩
  ·rintro⟨l3,c⟩ ⟨g2,g3,g4,g5,g6⟩;simp only at g2 g3 g4 g5 g6;show post (aQ (bn l3 (aV .i64 (i:Int) (ay (a_ n)))) _) _;have ha:aV .i64 (i:Int) (ay (a_ n))=((i+(a_ n).length:Nat):Int):=by unfold ay;rw[dZ (by omega) (by omega)];omega
   have hz:=g4 (i+(a_ n).length) (fa _);show post (aQ (bn l3 (aV .i64 (i:Int) (ay (a_ n)))) λx3=>some (Sum.inl (jq l3 (aV .i64 (i:Int) (ay (a_ n))) (aV .i64 x3 c),aV .i64 (i:Int) 1))) _
   rw[ha,bB (getD_at (by omega)),af,hz,dZ (a:=0) (b:=c) (by omega) (by omega),dZ (by omega) (by omega)]
   have es:jq l3 ((i+(a_ n).length:Nat):Int) (0+c)=l3.set (i+(a_ n).length) c:=by unfold jq;rw[QaC,Int.zero_add]
   rw[es];refine cZ (C:=λs'=>_) ⟨rfl,g2.set g5,by rw[Qjm];exact g3,λj hj=>?_,?_⟩
   ·show(l3.set _ c).getD j 0=0;rw[Y7 (by omega)];exact g4 j (by omega)
   ·show ef (l3.set (i+(a_ n).length) c)=_;rw[TN (by omega),hz,TX,Qkl,Int.sub_zero,Qdr _ c,g6,h5,QfX]
 ·rintro⟨l,v⟩ ⟨h1,h2,h3,h4,h5⟩;simp only at h1 h2 h3 h4 h5;subst h1;show post (ux b (a_ m,a_ n,0) z l ((a_ m).length:Int)) _;unfold ux;show post (br (bh ((a_ m).length:Int) (ay (a_ m))) _ _) _;rw[cG];rw[QbC,ny]at h5;exact dd ⟨h2,h3,by rw[h5];simp⟩
theorem Vi{n:Nat}(h:n<1000000000):zk (n:Int)=some (bP n):=by
 rw[IJ ⟨by omega,by omega⟩,Go.Lib.itoa_nonneg];rfl
theorem QdQ:∀k m,m<10 ^ (k+1)->pad (k+1) m=List.replicate (k+1-(dB m).length) 48++dB m
 |0,m,h=>by
  rw[rA (by simpa using h)]
  show pad 0 (m / 10)++[UInt8.ofNat (48+m % 10)]=_;rw[QfS (by simpa using h)];rfl
 |k+1,m,h=>by
  rw[ZL,QdQ k (m / 10) (by rw[Qdw]at h;omega)]
  by_cases dO:m<10
  ·rw[rA dO,QfS dO,show m / 10=0 by omega,rA (by omega)]
   simp only[QaA,QbH];rw[show k+1-(0+1)=k by omega,show k+1+1-(0+1)=k+1 by omega,List.replicate_succ',Qds,Qds]
   rfl
  ·rw[Iq dO,Qay];simp only[QaA,QbH];rw[Qds,show k+1+1-((dB (m / 10)).length+(0+1))=k+1-(dB (m / 10)).length by omega]
theorem QfT{k:Nat}:sk k=bs (List.replicate k 48):=rfl
theorem QgW{a b:List UInt8}:bs a++bs b=bs (a++b):=Lx
def Tk:List Int->List UInt8
 | []=>[]
 |x ::r=>pad 9 x.toNat++Tk r
theorem Tb:∀(l:List Int) (t:List UInt8),Dp l->p5 (bs t) l=some (bs (t++Tk l))
 | [],t,_=>by show some (bs t)=some (bs (t++[]));rw[Qf1]
 |x ::r,t,h=>by
  have hx:=h x (Qbm ..);obtain⟨n,hn⟩:∃n:Nat,x=n:=⟨x.toNat,by omega⟩
  subst hn;have hl:=B0 8 n (by omega)
  have hs:(bP n).size=(dB n).length:=js;show(match zk (n:Int)with
   |some s=>if s.size<=9 then p5 (bs t++(sk (9-s.size)++s)) r else none
   |none=>none)=_
  rw[Vi (by omega)]
  show(if(bP n).size<=9 then p5 (bs t++(sk (9-(bP n).size)++bP n)) r else none)=_
  rw[if_pos (by rw[hs];exact hl),hs,QfT,show bP n=bs (dB n)from rfl,QgW,QgW,Tb r _ λa ha=>h a (QaK _ ha),Qds]
  congr 3;show _=pad 9 n++Tk r;rw[QdQ 8 n (by omega)]
theorem QiE(a b:List Int):Tk (a++b)=Tk a++Tk b:=by
 induction a with
 |nil=>rfl
 |cons x a ih=>show pad 9 x.toNat++Tk (a++b)=(pad 9 x.toNat++Tk a)++Tk b;rw[ih,Qds]
theorem Gh(n:Nat)(hn:(a_ n).length<=1000000):Gg (a_ n)=some (bP n):=by
 have key:∀n:Nat,0<n->∃(a:Nat) (r:List Int),(a_ n).reverse=(a:Int) ::r/\a<1000000000/\Dp r/\dB n=dB a++Tk r:=by
  intro n;induction n using Nat.strongRecOn with
  |ind n ih =>
   intro h;by_cases h9:n<B9
   ·refine⟨n,[],?_,h9,(λa ha=>by cases ha),by simp [Tk]⟩
    rw[uT h,show n / B9=0 by unfold B9 at *;omega,jE,QfS h9];rfl
   ·obtain⟨a,r,e1,e2,e3,e4⟩:=ih (n / B9) (by unfold B9 at *;omega) (by unfold B9 at *;omega)
    refine⟨a,r++[((n % B9:Nat):Int)],?_,e2,e3.snoc (by unfold B9;omega),?_⟩
    ·rw[uT h,Qkv,e1];rfl
    ·have:=BE 9 n (by unfold B9 at h9;omega)
     rw[this,show n / 10 ^ 9=n / B9 from rfl,e4,QiE,Qds];congr 2
 rcases QcW n with rfl|h
 ·rw[jE];show some (⟨#[48]⟩:I)=some (bs (dB 0));rw[rA (by omega)];rfl
 ·obtain⟨a,r,e1,e2,e3,e4⟩:=key n h;unfold Gg;rw[if_pos hn,e1];show(match zk (a:Int)with
   |some t=>p5 t r
   |none=>none)=_
  rw[Vi e2];show p5 (bs (dB a)) r=_;rw[Tb r _ e3,<-e4];rfl
theorem Kd{n:Nat}(h:(dB n).length<=4096):uz (a_ n)=some (bP n,0):=by
 unfold uz;have hs:ca (bP n)=((dB n).length:Int):=dE;rw[Gh n (QaE BI (by omega)),af,hs,aR (by rw[iu];omega)]
def dl(k n:Nat):Prop:=(dB n).length<=k
theorem dl.a_{k n:Nat}(h:dl k n):(a_ n).length<=k:=QaE BI h
theorem dl.lt{k n:Nat}(h:dl k n):n<10 ^ k:=QbR h
theorem M7{k n:Nat}(hk:0<k)(h:n<10 ^ k):dl k n:=by
 have:=B0 (k-1) n (by rw[Nat.sub_add_cancel hk];exact h)
 unfold dl;omega
theorem QcL{m n:Nat}(hm:dl 4096 m)(hn:dl 4096 n)(h:dl 4096 (m+n)):Bu (bP m) (bP n)=some (bP (m+n),0):=by
 unfold Bu;have h1:=hm.a_;have h2:=hn.a_;rw[TL hm hn,af,aR (by rfl),cN (QgF (by omega) (by omega)),Kd h,af]
theorem QcR{m n:Nat}(hm:dl 4096 m)(hn:dl 4096 n)(h:n<=m):Dj (bP m) (bP n)=some (bP (m-n),0):=by
 unfold Dj;have h1:=hm.a_;have h2:=hn.a_;have hd:dl 4096 (m-n):=QaE (oB (Nat.sub_le m n)) hm;have hc:bh (Go.Lib.compareInt (m:Int) (n:Int)) 0=false:=by
  rw[eC];rcases Qjh h with h'|h'
  ·rw[pr (by omega)];omega
  ·rw[h',Aj];omega
 rw[TL hm hn,af,aR (by rfl)]
 show aQ (fI (a_ m) (a_ n)) _=_;rw[LA (by omega) (by omega),af,aR hc]
 show aQ (lX (a_ m) (a_ n)) _=_;rw[Zz h (by omega),af,Kd hd,af]
theorem QjI{m n:Nat}(hm:dl 4096 m)(hn:dl 4096 n)(h:dl 4096 (m*n)):J9 (bP m) (bP n)=some (bP (m*n),0):=by
 unfold J9;have h1:=hm.a_;have h2:=hn.a_;rw[TL hm hn,af,aR (by rfl)]
 have RQ:Bd (aV .i64 (ay (a_ m)) (ay (a_ n))) (aV .i64 (ay (a_ m)) (ay (a_ n))) 8 (0:Int)=some (List.replicate ((a_ m).length+(a_ n).length) 0):=by
  unfold ay;rw[dZ (by omega) (by omega)]
  unfold Bd;rw[if_pos (by omega)]
  congr 2
 show aQ (Bd (aV .i64 (ay (a_ m)) (ay (a_ n))) (aV .i64 (ay (a_ m)) (ay (a_ n))) 8 (0:Int)) _=_;rw[RQ,af];obtain⟨l,e1,e2,e3,e4⟩:=Qit (b:=bP n) (z:=List.replicate ((a_ m).length+(a_ n).length) 0) (m:=m) (n:=n) (by omega) (by omega)
 rw[cN e1,Kf e2 (by omega),af,e4,QaC,Kd h,af]
theorem Qjy{m n:Nat}(hm:dl 4096 m)(hn:dl 4096 n)(h:0<n):J8 (bP m) (bP n)=some (bP (m / n),bP (m % n),0):=by
 unfold J8;have h1:=hm.a_;have h2:=hn.a_;have hp:=vV.2 h;rw[TL hm hn,af,aR (by rfl)]
 show br (dk (ay (a_ n)) 0) _ (aQ (wQ (a_ m) (a_ n)) _)=_;rw[aR (by rw[rC];unfold ay;omega),U1 h (by omega) (by omega),af]
 show aQ (Gg (a_ (m / n))) (λr2=>aQ (Gg (a_ (m % n))) _)=_
 have hq:(a_ (m / n)).length<=4096:=QaE BI (QaE (oB (Qf3 m n)) hm);have hr:(a_ (m % n)).length<=4096:=QaE BI (QaE (oB (Nat.mod_le m n)) hm);rw[Gh _ (by omega),af,Gh _ (by omega),af]
theorem QcN{m n:Nat}(hm:dl 4096 m)(hn:dl 4096 n):Gj (bP m) (bP n)=some (bP (Nat.gcd m n),0):=by
 unfold Gj;have h1:=hm.a_;have h2:=hn.a_;have hd:dl 4096 (Nat.gcd m n):=by
  rcases QcW m with rfl|h
  ·rw[Nat.gcd_zero_left];exact hn
  ·exact QaE (oB (Nat.gcd_le_left n h)) hm
 rw[TL hm hn,af,aR (by rfl)]
 show aQ (aL (λs=>wO (bP n) s.1 s.2) (a_ m,a_ n)) _=_
 rw[cN (Qhw (by omega) (by omega)),Kd hd,af]
def zT(z:Int):I:=if z<0 then bs (45 ::dB z.natAbs)else bP z.natAbs
theorem WE:pP=bs [45]:=by kernel_rfl
theorem TR{z:Int}(h:z<0):zT z=bs (45 ::dB z.natAbs):=if_pos h
theorem Qem{z:Int}(h:¬z<0):zT z=bP z.natAbs:=if_neg h
theorem yZ(n:Nat):zT (n:Int)=bP n:=by rw[Qem (by omega)];rfl
theorem C9{n:Nat}{r:List UInt8}(h:dB n=45 ::r):False:=by
 have:=mj n 45 (by rw[h];simp)
 unfold AN at this;have h2:(45:UInt8).toNat=45:=rfl;omega
def Io:List UInt8->List UInt8×Bool
 | []=>([],false)
 |c ::r=>if c=45 then(r,true)else(c ::r,false)
theorem WC(r:List UInt8):Io (45 ::r)=(r,true):=by simp [Io]
theorem WB{c:UInt8}{r:List UInt8}(h:¬c=45):Io (c ::r)=(c ::r,false):=by simp [Io,h]
theorem Qa8{l:List UInt8}(hl:l.length<=1048576):qP (bs l) pP=some (bs (Io l).1,(Io l).2):=by
 unfold qP p8 stringslite_HasPrefix;rw[WE,dE,dE];cases l with
 |nil=>rfl
 |cons c r =>
  have hg:cT (((c ::r).length:Nat):Int) ((([45]:List UInt8).length:Nat):Int)=true:=by rw[gX];simp;omega
  rw[bk hg];have hs:xu (bs (c ::r)) 0 ((([45]:List UInt8).length:Nat):Int)=some ():=zX (QaD _) (by simp)
  have he:(bs (c ::r)).extract (0:Int).toNat (((([45]:List UInt8).length:Nat):Int)).toNat=bs [c]:=by
   rw[xz,QaC];rfl
  have Ve:xu (bs (c ::r)) ((([45]:List UInt8).length:Nat):Int) (((c ::r).length:Nat):Int)=some ():=zX (by simp) (fa _)
  have OG:(bs (c ::r)).extract (((([45]:List UInt8).length:Nat):Int)).toNat ((((c ::r).length:Nat):Int)).toNat=bs r:=by
   rw[xz,QaC,QaC,QbC];rfl
  rw[hs,af,he,sG,af];by_cases hc:c=45
  ·subst hc;rw[bk (by simp),Ve,af,OG,af];rfl
  ·rw[aR (by simpa using hc),af]
   rw[WB hc]
theorem Fv(l:List UInt8):(∃r,l=45 ::r/\Io l=(r,true))\/((∀r,l≠45 ::r)/\Io l=(l,false)):=by
 cases l with
 |nil=>exact .inr ⟨λr h=>(by cases h),rfl⟩
 |cons c r =>
  by_cases h:c=45
  ·exact .inl ⟨r,by rw[h],by rw[h];exact WC r⟩
  ·exact .inr ⟨λr' e=>h (Qf5 e).1,WB h⟩
theorem Qfu{l:List UInt8}(hl:l.length<=1048576):∃r,oZ (bs l)=some r/\(r.2.2=true↔∃z:Int,bs l=zT z):=by
 unfold oZ;rw[Qa8 hl,af];rcases Fv l with⟨r,rfl,e⟩|⟨lN,e⟩
 ·rw[e];obtain⟨b,h1,h2⟩:=MM (l:=r) (by simp at hl;omega)
  show ∃r',aQ (nv (bs r)) _=some r'/\_;rw[h1,af];refine⟨_,rfl,?_⟩;show(b&&!(true&&qe (bs r) bZ))=true↔_;rw[E8,sG,Ae,ntT,Qe1,QeQ,h2];constructor
  ·rintro⟨⟨n,rfl⟩,h⟩;have hn:n≠0:=λe=>h (by rw[e])
   refine⟨-(n:Int),?_⟩;rw[TR (by omega),Int.natAbs_neg,QlI]
  ·rintro⟨z,hz⟩;by_cases h0:z<0
   ·rw[TR h0]at hz;have:=Qf5 (Ly hz);refine⟨⟨_,this.2⟩,λe=>?_⟩
    have:=sH (this.2.symm.trans e);omega
   ·rw[Qem h0]at hz;exact(C9 (Ly hz).symm).elim
 ·rw[e];obtain⟨b,h1,h2⟩:=MM (l:=l) hl;show ∃r',aQ (nv (bs l)) _=some r'/\_;rw[h1,af];refine⟨_,rfl,?_⟩;show(b&&!(false&&qe (bs l) bZ))=true↔_;rw[Qln,Qlo,Bool.and_true,h2];constructor
  ·rintro⟨n,rfl⟩;exact⟨(n:Int),(yZ n).symm⟩
  ·rintro⟨z,hz⟩;by_cases h0:z<0
   ·rw[TR h0]at hz;exact(lN _ (Ly hz)).elim
   ·rw[Qem h0]at hz;exact⟨_,Ly hz⟩
theorem Tm{z:Int}(h:(dB z.natAbs).length<=1000000):oZ (zT z)=some (decide (z<0),bP z.natAbs,true):=by
 unfold oZ;by_cases h0:z<0
 ·rw[TR h0,Qa8 (by simp;omega),af]
  show aQ (nv (bP z.natAbs)) _=_;rw[Fm (by omega),af]
  have:qe (bP z.natAbs) bZ=false:=by
   rw[E8,show bP z.natAbs=bs (dB z.natAbs)from rfl,sG,QeQ];intro e;have:=sH e;omega
  show some (true,bP z.natAbs,(true&&!(true&&qe (bP z.natAbs) bZ)))=_;rw[this,Qdl h0];rfl
 ·rw[Qem h0,show bP z.natAbs=bs (dB z.natAbs)from rfl,Qa8 (by omega),af]
  rcases Fv (dB z.natAbs)with⟨r,e,_⟩|⟨_,e⟩
  ·exact(C9 e).elim
  ·rw[e];show aQ (nv (bP z.natAbs)) _=_;rw[Fm (by omega),af]
   show some (false,bP z.natAbs,(true&&!(false&&qe (bP z.natAbs) bZ)))=_;rw[QbV h0];rfl
def wN(z:Int):aG:=aG.mk (decide (z<0)) (bP z.natAbs)
def zl(k:Nat)(z:Int):Prop:=dl k z.natAbs
theorem NR{a b:Int}(ha:zl 4096 a)(hb:zl 4096 b):uM [zT a,zT b]=some ([wN a,wN b],0):=by
 have ha':(dB a.natAbs).length<=4096:=ha;have OE:(dB b.natAbs).length<=4096:=hb;unfold uM;have l1:aL (λs=>mz [zT a,zT b] s.1 s.2) ([],0)=some (.inl [wN a,wN b]):=by
  refine gQ (B:=λs:List aG×Int=>mz [zT a,zT b] s.1 s.2) 2 (λi=>([wN a,wN b].take i,(i:Int))) (by decide) (λi hi=>?_) ?_
  ·have step:∀(z:Int) (l:List aG),l.length<=2->[zT a,zT b][i]?=some (zT z)->zl 4096 z->mz [zT a,zT b] l (i:Int)=some (.inl (l++[wN z],((i+1:Nat):Int))):=λz l hl he hz=>by
    have hz':(dB z.natAbs).length<=4096:=hz;unfold mz;rw[cO he,Tm (by omega),af,dT,eU (eV (by simp only[Qay,QaA,QbH];omega)),dZ (by omega) (by omega)]
    rfl
   match i,hi with
   |0,_=>exact step a [] (by simp) rfl ha
   |1,_=>exact step b [wN a] (by simp) rfl hb
  ·show mz [zT a,zT b] [wN a,wN b] 2=_;unfold mz;rw[aR (by rfl)]
 rw[cN l1,c5];have l2:=fD (B:=λs=>o4 [zT a,zT b] [wN a,wN b] s) (l:=[wN a,wN b]) (by simp) (λw=>dt (ca w.qa) 4096) (y:=(.inr ([],4):Unit⊕(List aG×Int))) (N:=.inl ()) (λi w e=>by
  have hi:=(pB.1 e).1;show o4 [zT a,zT b] [wN a,wN b] (i:Int)=_;unfold o4;rw[cO e,dZ (by omega) (by simp at hi;omega),Ec]) (by
  show o4 [zT a,zT b] [wN a,wN b] ((2:Nat):Int)=_;unfold o4;rw[aR (by rfl)])
 have jI:([wN a,wN b].any λw=>dt (ca w.qa) 4096)=false:=by
  have s1:ca (bP a.natAbs)=((dB a.natAbs).length:Int):=dE;have s2:ca (bP b.natAbs)=((dB b.natAbs).length:Int):=dE;show(dt (ca (bP a.natAbs)) 4096||(dt (ca (bP b.natAbs)) 4096||false))=false;rw[s1,s2,Ja,Ja,iu,iu];exact⟨by omega,by omega,rfl⟩
 rw[jI,if_neg (by simp)]at l2
 rw[cN l2,c5]
theorem X0{m:Bool}{n:Nat}(h:dl 4096 n):gV (aG.mk m (bP n))=some (zT (if m=true then -(n:Int)else n)):=by
 have h':(dB n).length<=4096:=h;have hs:(bP n).size=(dB n).length:=js;unfold gV;cases m with
 |false =>
  rw[Qln,dX,if_neg (by simp),yZ]
 |true =>
  rw[if_pos rfl,Qe1];show br (!qe (bP n) bZ) _ (some (bP n))=_;rw[E8,show bP n=bs (dB n)from rfl,sG];by_cases h0:n=0
  ·subst h0;rw[aR (by simp)];rfl
  ·rw[bk (by
    rw[ntT,QeQ];exact λe=>h0 (sH e))]
   show ft (pP.size+(bs (dB n)).size<=9223372036854775807) (some (ee pP (bs (dB n))))=_;rw[WE,eU (by rw[js,js];simp;omega),Lx,TR (by omega),Int.natAbs_neg,QlI]
   rfl
theorem QfE{m:Bool}{n:Nat}(h:dl 4096 n):eW (aG.mk m (bP n)) 0=some (zT (if m=true then -(n:Int)else n),0):=by
 unfold eW;rw[aR (by rfl),X0 h,af]
theorem V9(x:UInt8)(l:List UInt8):jh (x ::l)=(x.toNat-48)*10 ^ l.length+jh l:=by
 have:=tJ [x] l;rw[qQ]at this;exact this
theorem Qc3:∀(a b:List UInt8),a.length=b.length->(∀c∈a,AN c)->(∀c∈b,AN c)->Go.Lib.compareBytes a b=Go.Lib.compareInt (jh a) (jh b)
 | [],[],_,_,_=>by rw[Aj];rfl
 |x ::a,y ::b,hl,ha,hb=>by
  have Ko:a.length=b.length:=by simpa using hl
  have ih:=Qc3 a b Ko (λc hc=>ha c (QaK _ hc)) (λc hc=>hb c (QaK _ hc))
  obtain⟨x1,x2⟩:=ha x (Qbm ..);obtain⟨y1,y2⟩:=hb y (Qbm ..);have va:=Kh a λc hc=>ha c (QaK _ hc)
  have vb:=Kh b λc hc=>hb c (QaK _ hc)
  have key:∀(x y:UInt8) (p q:Nat),48<=x.toNat->x.toNat<y.toNat->p<10 ^ b.length->(x.toNat-48)*10 ^ b.length+p<(y.toNat-48)*10 ^ b.length+q:=λx y p q h1 h2 h3=>by
   have:=QdB (10 ^ b.length) (show x.toNat-48+1<=y.toNat-48 by omega)
   rw[Qb4]at this;omega
  rw[V9,V9,Ko];rw[Ko]at va;show(if x<y then -1 else if y<x then 1 else Go.Lib.compareBytes a b)=_
  by_cases h1:x<y
  ·rw[if_pos h1,qp (Int.ofNat_lt.2 (key x y _ _ x1 (UInt8.lt_iff_toNat_lt.1 h1) va))]
  ·rw[if_neg h1];by_cases h2:y<x
   ·rw[if_pos h2,pr (Int.ofNat_lt.2 (key y x _ _ y1 (UInt8.lt_iff_toNat_lt.1 h2) vb))]
   ·rw[if_neg h2,ih];have hxy:x.toNat=y.toNat:=by
     rw[UInt8.lt_iff_toNat_lt]at h1 h2;omega
    rw[hxy];unfold Go.Lib.compareInt;generalize(y.toNat-48)*10 ^ b.length=p;generalize jh a=u;generalize jh b=w
    repeat' split
    all_goals omega
theorem JN{m n:Nat}:kf (bP m) (bP n)=some (Go.Lib.compareInt m n):=by
 unfold kf;have h1:ca (bP m)=((dB m).length:Int):=dE;have h2:ca (bP n)=((dB n).length:Int):=dE;rw[h1,h2];by_cases hl:(dB m).length=(dB n).length
 ·rw[aR (by rw[vu];omega)]
  show aQ (some (Go.Lib.compareBytes (dB m) (dB n))) _=_;rw[af,Qc3 _ _ hl (mj m) (mj n),ug,ug]
 ·rw[bk (by rw[uA];omega),Ec]
  congr 1;by_cases h:(dB m).length<(dB n).length
  ·have hmn:m<n:=by
    rcases sh m n with h'|h'
    ·exact h'
    ·have:=oB h';omega
   rw[if_pos (by rw[ew];omega),qp (by omega)]
  ·have hmn:n<m:=by
    rcases sh n m with h'|h'
    ·exact h'
    ·have:=oB h';omega
   rw[if_neg (by rw[ew];omega),pr (by omega)]
def sg(s:Bool)(n:Nat):Int:=if s=true then -(n:Int)else n
theorem QiW(z:Int):sg (decide (z<0)) z.natAbs=z:=by
 unfold sg;by_cases h:z<0
 ·rw[if_pos (Qdl h)];omega
 ·rw[if_neg (by simpa using h)];omega
theorem PR{m:Bool}{n:Nat}(h:dl 4096 n):eW (aG.mk m (bP n)) 0=some (zT (sg m n),0):=QfE h
theorem Qi4{s t:Bool}{m n:Nat}(hm:dl 4096 m)(hn:dl 4096 n)(h:dl 4096 (m+n)):xp (aG.mk s (bP m)) (aG.mk t (bP n))=some (zT (sg s m+sg t n),0):=by
 unfold xp;show br (GL s t) (aQ (Bu (bP m) (bP n)) _) (aQ (kf (bP m) (bP n)) _)=_;by_cases ir:s=t
 ·subst ir;rw[bk (by simp),QcL hm hn h,af]
  show aQ (eW (aG.mk s (bP (m+n))) 0) _=_;rw[PR h,af];show some (zT (sg s (m+n)),(0:Int))=_;rw[show sg s (m+n)=sg s m+sg s n by unfold sg;split <;> omega]
 ·rw[aR (by simpa using ir),JN,af]
  have J:∀(s t:Bool) (m n:Nat),s≠t->n<=m->dl 4096 m->dl 4096 n->vf (aG.mk s (bP m)) (aG.mk t (bP n))=some (zT (sg s m+sg t n),0):=λs t m n ir hle hm hn=>by
   unfold vf;show aQ (Dj (bP m) (bP n)) _=_;rw[QcR hm hn hle,af];have hd:dl 4096 (m-n):=QaE (oB (Nat.sub_le m n)) hm;show aQ (eW (aG.mk s (bP (m-n))) 0) _=_;rw[PR hd,af];show some (zT (sg s (m-n)),(0:Int))=_;have e:sg s (m-n)=sg s m+sg t n:=by
    unfold sg;cases s <;> cases t <;> simp at ir ⊢ <;> omega
   rw[e]
  by_cases iq:m<n
  ·rw[qp (by omega),bk (by rfl),J t s n m (Ne.symm ir) (by omega) hn hm,Int.add_comm]
  ·have hc:bh (Go.Lib.compareInt (m:Int) (n:Int)) 0=false:=by
    rw[eC];rcases Qjh (Nat.le_of_not_lt iq)with h'|h'
    ·rw[pr (by omega)];omega
    ·rw[h',Aj];omega
   rw[aR hc,J s t m n ir (by omega) hm hn]
theorem QoK{a b:Int}(ha:zl 4096 a)(hb:zl 4096 b)(h:dl 4096 (a.natAbs+b.natAbs)):Fg (zT a) (zT b)=some (zT (a+b),0):=by
 unfold Fg;rw[NR ha hb,af,aR (by rfl)]
 show aQ (bn [wN a,wN b] 0) (λx0=>aQ (bn [wN a,wN b] 1) _)=_
 rw[show bn [wN a,wN b] 0=some (wN a)from rfl,af,show bn [wN a,wN b] 1=some (wN b)from rfl,af];rw[show xp (wN a) (wN b)=some (zT (sg (decide (a<0)) a.natAbs+sg (decide (b<0)) b.natAbs),0)from Qi4 ha hb h,af,QiW,QiW]
theorem QoU{a b:Int}(ha:zl 4096 a)(hb:zl 4096 b)(h:dl 4096 (a.natAbs+b.natAbs)):Fh (zT a) (zT b)=some (zT (a-b),0):=by
 unfold Fh;rw[NR ha hb,af,aR (by rfl)]
 show aQ (bn [wN a,wN b] 0) (λx0=>aQ (bn [wN a,wN b] 1) _)=_
 rw[show bn [wN a,wN b] 0=some (wN a)from rfl,af,show bn [wN a,wN b] 1=some (wN b)from rfl,af];rw[show xp (wN a) (aG.mk (!(wN b).mN) (wN b).qa)=some (zT (sg (decide (a<0)) a.natAbs+sg (!decide (b<0)) b.natAbs),0)from Qi4 ha hb h,af,QiW];have:sg (!decide (b<0)) b.natAbs=-b:=by
  unfold sg;by_cases RM:b<0
  ·rw[Qdl RM];simp;omega
  ·rw[QbV RM];simp;omega
 rw[this,<-Int.sub_eq_add_neg]
theorem Qgn{a b:Int}(ha:zl 4096 a)(hb:zl 4096 b)(h:zl 4096 (a * b)):nz (zT a) (zT b) = some (zT (a * b),0):= by
  have h':dl 4096 (a.natAbs * b.natAbs):= by rw[<-Int.natAbs_mul];exact h
  unfold nz;rw[NR ha hb,af,aR (by rfl)]
  show aQ (bn [wN a,wN b] 0) (λx0 => aQ (bn [wN a,wN b] 1) _) = _
  rw[show bn [wN a,wN b] 0 = some (wN a)from rfl,af,show bn [wN a,wN b] 1 = some (wN b)from rfl,af];show aQ (J9 (bP a.natAbs) (bP b.natAbs)) _ = _;rw[QjI ha hb h',af];show aQ (eW (aG.mk (!GL (decide (a < 0)) (decide (b < 0))) (bP (a.natAbs * b.natAbs))) 0) _ = _;rw[PR h',af];show some (zT (sg (!GL (decide (a < 0)) (decide (b < 0))) (a.natAbs * b.natAbs)),(0:Int)) = _;have e:sg (!GL (decide (a < 0)) (decide (b < 0))) (a.natAbs * b.natAbs) = a * b:= by
   obtain⟨m,hm⟩: ∃m:Nat,m = a.natAbs:=⟨_,rfl⟩;obtain⟨n,hn⟩: ∃n:Nat,n = b.natAbs:=⟨_,rfl⟩;unfold sg;rw[<-hm,<-hn,QeV];by_cases WR:a < 0 <;> by_cases RM:b < 0
   · rw[Qdl WR,Qdl RM,if_neg (by decide),show a = -(m:Int) by omega,show b = -(n:Int) by omega,Int.neg_mul_neg]
   · rw[Qdl WR,QbV RM,if_pos (by decide),show a = -(m:Int) by omega,show b =(n:Int) by omega,Int.neg_mul]
   · rw[QbV WR,Qdl RM,if_pos (by decide),show a =(m:Int) by omega,show b = -(n:Int) by omega,Int.mul_neg]
   · rw[QbV WR,QbV RM,if_neg (by decide),show a =(m:Int) by omega,show b =(n:Int) by omega]
  rw[e]
theorem dl.mono{k m n:Nat}(h:dl k n)(hmn:m<=n):dl k m:=QaE (oB hmn) h
theorem dl.more{k j n:Nat}(h:dl k n)(hk:k<=j):dl j n:=QaE h hk
theorem dl.succ{k n:Nat}(h:dl k n):dl (k+1) (n+1):=by
 have h1:=h.lt;refine M7 (by omega) ?_
 have hp:0<10 ^ k:=Nat.pow_pos (by omega)
 rw[Qdw];omega
theorem Qeq{a b:Int}(ha:zl 4096 a)(hb:zl 4096 b):tP (zT a) (zT b)=some (Go.Lib.compareInt a b):=by
 have ha':(dB a.natAbs).length<=4096:=ha;have OE:(dB b.natAbs).length<=4096:=hb;unfold tP;rw[Tm (by omega),af,Tm (by omega),af]
 show br (!true||!true) _ (br (decide (a<0)&&decide (b<0)) (aQ (kf (bP b.natAbs) (bP a.natAbs)) _) (br (decide (a<0)) _ (br (decide (b<0)) _ (aQ (kf (bP a.natAbs) (bP b.natAbs)) _))))=_;rw[aR (by rfl),JN,af,JN,af]
 by_cases WR:a<0 <;> by_cases RM:b<0
 ·rw[Qdl WR,Qdl RM,bk (by rfl)]
  congr 1;unfold Go.Lib.compareInt
  repeat' split
  all_goals omega
 ·rw[Qdl WR,QbV RM,aR (by rfl),dT,qp (by omega)]
 ·rw[QbV WR,Qdl RM,aR (by rfl),dX,dT,pr (by omega)]
 ·rw[QbV WR,QbV RM,aR (by rfl),dX,dX]
  congr 1;unfold Go.Lib.compareInt
  repeat' split
  all_goals omega
theorem QcM{a:Int}{n:Nat}(ha:zl 4095 a)(hn:dl 4096 n)(h0:0<n):tQ (zT a) (bP n)=some (zT (a / (n:Int)),bP (a % (n:Int)).toNat,0):=by
 have ha6:zl 4096 a:=dl.more (show dl 4095 a.natAbs from ha) (by omega)
 have hq:dl 4095 (a.natAbs / n):=dl.mono (show dl 4095 a.natAbs from ha) (Qf3 _ _);have hq6:dl 4096 (a.natAbs / n):=hq.more (by omega)
 have hr:dl 4096 (a.natAbs % n):=hn.mono (Qge (Qgu _ h0));have hdm:=Nat.div_add_mod a.natAbs n;have hml:=Qgu a.natAbs h0;have hzn:zl 4096 (n:Int):=hn;unfold tQ;rw[<-yZ n,NR ha6 hzn,af,aR (by rfl)]
 show aQ (bn [wN a,wN (n:Int)] 0) (λx0=>aQ (bn [wN a,wN (n:Int)] 1) _)=_
 rw[show bn [wN a,wN (n:Int)] 0=some (wN a)from rfl,af,show bn [wN a,wN (n:Int)] 1=some (wN (n:Int))from rfl,af];have hw:wN (n:Int)=aG.mk false (bP n):=by unfold wN;rw[QbV (by omega)];rfl
 rw[hw];have lN:qe (bP n) bZ=false:=by
  rw[E8,show bP n=bs (dB n)from rfl,sG,QeQ];intro e;have:=sH e;omega
 show br (qe (bP n) bZ) _ (aQ (J8 (bP a.natAbs) (bP n)) _)=_;rw[lN,dX,Qjy ha6 hn h0,af];show br (cp 0 0) _ (br (!GL (decide (a<0)) false&&!qe (bP (a.natAbs % n)) bZ) (aQ (Bu (bP (a.natAbs / n)) od) _) (qR (wN a) (aG.mk false (bP n)) (bP (a.natAbs / n)) (bP (a.natAbs % n))))=_;rw[aR (by rfl)]
 have he:qe (bP (a.natAbs % n)) bZ=decide (a.natAbs % n=0):=by
  rw[E8,show bP (a.natAbs % n)=bs (dB (a.natAbs % n))from rfl,sG,Qdg,QbB,QbB];exact⟨λe=>sH e,λe=>by rw[e]⟩
 rw[he];have J:∀(q r:Nat),dl 4096 q->dl 4096 r->a / (n:Int)=sg (decide (a<0)) q->a % (n:Int)=(r:Int)->qR (wN a) (aG.mk false (bP n)) (bP q) (bP r)=some (zT (a / (n:Int)),bP (a % (n:Int)).toNat,0):=λq r q1 q2 q3 q4=>by
  unfold qR;show aQ (gV (aG.mk (!GL (decide (a<0)) false) (bP q))) (λr5=>aQ (gV (aG.mk false (bP r))) _)=_
  have hb:(!GL (decide (a<0)) false)=decide (a<0):=by cases decide (a<0) <;> rfl
  rw[hb,X0 q1,af,X0 q2,af,q4,q3,QaC];show some (zT (sg (decide (a<0)) q),zT (r:Int),(0:Int))=_;rw[yZ]
 by_cases hc:a<0
 ·rw[Qdl hc];by_cases hz:a.natAbs % n=0
  ·rw[Qdl hz,aR (by rfl)]
   have e:a=(n:Int)*(-((a.natAbs / n:Nat):Int)):=by
    have:((n*(a.natAbs / n):Nat):Int)=-a:=by omega
    rw[Int.mul_neg,<-QeV];omega
   refine J _ _ hq6 hr ?_ ?_
   ·rw[Qdl hc];show a / (n:Int)=-((a.natAbs / n:Nat):Int);generalize((a.natAbs / n:Nat):Int)=q at e;rw[e,Int.mul_ediv_cancel_left _ (by omega)]
   ·rw[hz];generalize((a.natAbs / n:Nat):Int)=q at e;rw[e,Int.mul_emod_right];rfl
  ·rw[QbV hz,bk (by rfl),Z7]
   have h1:dl 4096 1:=by unfold dl;rw[rA (by omega)];simp
   show aQ (Bu (bP (a.natAbs / n)) (bP 1)) _=_;rw[QcL hq6 h1 hq.succ,af];show br (cp 0 0) _ (aQ (Dj (bP n) (bP (a.natAbs % n))) _)=_;rw[aR (by rfl),QcR hn hr (Qge hml),af]
   show br (cp 0 0) _ (qR (wN a) (aG.mk false (bP n)) (bP (a.natAbs / n+1)) (bP (n-a.natAbs % n)))=_;rw[aR (by rfl)]
   have e:a=(n:Int)*(-((a.natAbs / n+1:Nat):Int))+((n-a.natAbs % n:Nat):Int):=by
    have:((n*(a.natAbs / n)+a.natAbs % n:Nat):Int)=-a:=by omega
    rw[Qjo,QeV]at this;rw[Int.mul_neg,Qjo,QdY];omega
   have hd:dl 4096 (n-a.natAbs % n):=hn.mono (Nat.sub_le _ _);have iq:n-a.natAbs % n<n:=by omega
   generalize n-a.natAbs % n=r at e hd iq ⊢;refine J _ _ hq.succ hd ?_ ?_
   ·rw[Qdl hc];show a / (n:Int)=-((a.natAbs / n+1:Nat):Int);generalize((a.natAbs / n+1:Nat):Int)=q at e;rw[e,Int.mul_add_ediv_left _ _ (by omega),Int.ediv_eq_zero_of_lt (by omega) (by omega),Qkj]
   ·generalize((a.natAbs / n+1:Nat):Int)=q at e;rw[e,Int.mul_add_emod_self_left,Int.emod_eq_of_lt (by omega) (by omega)]
 ·rw[QbV hc,aR (by rfl)]
  have e:a=(a.natAbs:Int):=by omega
  refine J _ _ hq6 hr ?_ ?_
  ·rw[QbV hc];show a / (n:Int)=((a.natAbs / n:Nat):Int);rw[Int.natCast_ediv,<-e]
  ·rw[Int.natCast_emod,<-e]
theorem On:mX=bs [47]:=by kernel_rfl
theorem S1:∀{l:List UInt8},(∀b∈l,b≠47)->Go.Lib.indexByte l 47=-1
 | [],_=>rfl
 |c ::r,h=>by
  have hc:=h c (Qbm ..);have ih:=S1 (l:=r) λb hb=>h b (QaK _ hb)
  show(if c == 47 then(0:Int)else if Go.Lib.indexByte r 47 == -1 then -1 else Go.Lib.indexByte r 47+1)=-1
  rw[if_neg (by simpa using hc),ih];rfl
theorem QbJ:∀{a b:List UInt8},(∀c∈a,c≠47)->Go.Lib.indexByte (a++47 ::b) 47=(a.length:Int)
 | [],b,_=>by
  show(if(47:UInt8) == 47 then(0:Int)else _)=_
  rw[if_pos (by simp)];rfl
 |c ::r,b,h=>by
  have hc:=h c (Qbm ..);have ih:=QbJ (a:=r) (b:=b) λb hb=>h b (QaK _ hb)
  show(if c == 47 then(0:Int)else if Go.Lib.indexByte (r++47 ::b) 47 == -1 then -1 else Go.Lib.indexByte (r++47 ::b) 47+1)=_
  rw[if_neg (by simpa using hc),ih,if_neg (by rw[Qbb];omega)]
  simp
theorem Qmq(l:List UInt8):(∀b∈l,b≠47)\/∃a b,l=a++47 ::b/\∀c∈a,c≠47:=by
 induction l with
 |nil=>exact .inl λb h=>by cases h
 |cons c r ih =>
  by_cases hc:c=47
  ·exact .inr ⟨[],r,by rw[hc];rfl,λc h=>by cases h⟩
  ·rcases ih with ih|⟨a,b,rfl,ih⟩
   ·refine .inl λb hb=>?_
    rcases Qbt.1 hb with rfl|hb
    ·exact hc
    ·exact ih b hb
   ·refine .inr ⟨c ::a,b,rfl,λd hd=>?_⟩
    rcases Qbt.1 hd with rfl|hd
    ·exact hc
    ·exact ih d hd
theorem FA{l:List UInt8}:Qh1 (bs l) mX=some (Go.Lib.indexByte l 47):=by rw[On];rfl
theorem TE{l:List UInt8}(h:∀b∈l,b≠47):mO (bs l)=some (bs l,bP 1)/\iL (bs l) mX=some false:=by
 constructor
 ·unfold mO AE tG;rw[FA,S1 h,af,aR (by rfl),af,af,aR (by rfl),Z7];rfl
 ·unfold iL wo;rw[FA,S1 h];rfl
theorem Qaj{a b:List UInt8}(h:∀c∈a,c≠47)(hl:a.length+b.length<=1048576):mO (bs (a++47 ::b))=some (bs a,bs b)/\iL (bs (a++47 ::b)) mX=some true:=by
 constructor
 ·unfold mO AE tG;have h1:ca mX=1:=by rw[On,dE];rfl
  have h2:ca (bs (a++47 ::b))=((a.length+b.length+1:Nat):Int):=by rw[dE];simp;omega
  rw[FA,QbJ h,af,bk (by rw[gX];omega),h1,h2]
  have ha:aV .i64 (a.length:Int) 1=((a.length+1:Nat):Int):=dZ (by omega) (by omega)
  rw[ha,show xu (bs (a++47 ::b)) 0 (a.length:Int)=some ()from zX (QaD _) (by simp),af,show xu (bs (a++47 ::b)) ((a.length+1:Nat):Int) ((a.length+b.length+1:Nat):Int)=some ()from zX (by omega) (by simp;omega),af,af,af]
  have e1:(bs (a++47 ::b)).extract (0:Int).toNat ((a.length:Nat):Int).toNat=bs a:=by
   rw[xz,QaC,List.take_left];rfl
  have e2:(bs (a++47 ::b)).extract ((a.length+1:Nat):Int).toNat ((a.length+b.length+1:Nat):Int).toNat=bs b:=by
   rw[xz,QaC,QaC,QeR (by simp;omega)]
   congr 1;rw[show a++47 ::b=(a++[47])++b by simp,List.drop_left' (by simp)]
  rw[e1,e2];rfl
 ·unfold iL wo;rw[FA,QbJ h,af,af];show some (cT (a.length:Int) 0)=_;rw[show cT (a.length:Int) 0=true by rw[gX];omega]
def zB(z:Int):List UInt8:=if z<0 then 45 ::dB z.natAbs else dB z.natAbs
theorem JP(z:Int):zT z=bs (zB z):=by
 unfold zT zB;split <;> rfl
theorem UZ(n:Nat):∀b∈dB n,b≠47:=λb hb h=>by
 have:=mj n b hb;subst h;unfold AN at this;have h2:(47:UInt8).toNat=47:=rfl;omega
theorem Qav(z:Int):∀b∈zB z,b≠47:=λb hb=>by
 unfold zB at hb;split at hb
 ·rcases Qbt.1 hb with rfl|hb
  ·decide
  ·exact UZ _ b hb
 ·exact UZ _ b hb
def jG(r:Rat):I:=if r.den=1 then zT r.num else bs (zB r.num++47 ::dB r.den)
theorem JO(z:Int):(zB z).length<=(dB z.natAbs).length+1:=by
 unfold zB;split <;> simp
theorem My{r:Rat}(h1:zl 500000 r.num)(h2:dl 500000 r.den):mO (jG r)=some (zT r.num,bP r.den)/\iL (jG r) mX=some (decide (r.den≠1)):=by
 have h1':(dB r.num.natAbs).length<=500000:=h1;have h2':(dB r.den).length<=500000:=h2;have hz:=JO r.num;unfold jG;by_cases hd:r.den=1
 ·rw[if_pos hd,JP,hd];have:=TE (Qav r.num);exact⟨this.1,by rw[this.2];rfl⟩
 ·rw[if_neg hd,JP];have:=Qaj (a:=zB r.num) (b:=dB r.den) (Qav r.num) (by omega)
  exact⟨this.1,by rw[this.2,Qdl hd]⟩
theorem TK{l:List UInt8}(hl:l.length<=1048576):strings_TrimPrefix (bs l) pP=some (bs (Io l).1):=by
 unfold strings_TrimPrefix stringslite_TrimPrefix stringslite_HasPrefix;rw[WE,dE,dE];cases l with
 |nil=>rfl
 |cons c r =>
  have hg:cT (((c ::r).length:Nat):Int) ((([45]:List UInt8).length:Nat):Int)=true:=by rw[gX];simp;omega
  rw[bk hg];have hs:xu (bs (c ::r)) 0 ((([45]:List UInt8).length:Nat):Int)=some ():=zX (QaD _) (by simp)
  have he:(bs (c ::r)).extract (0:Int).toNat (((([45]:List UInt8).length:Nat):Int)).toNat=bs [c]:=by
   rw[xz,QaC];rfl
  have Ve:xu (bs (c ::r)) ((([45]:List UInt8).length:Nat):Int) (((c ::r).length:Nat):Int)=some ():=zX (by simp) (fa _)
  have OG:(bs (c ::r)).extract (((([45]:List UInt8).length:Nat):Int)).toNat ((((c ::r).length:Nat):Int)).toNat=bs r:=by
   rw[xz,QaC,QaC,QbC];rfl
  rw[hs,af,he,sG,af];by_cases hc:c=45
  ·subst hc;rw[bk (by simp),Ve,af,OG,af,WC]
  ·rw[aR (by simpa using hc),af,WB hc]
theorem U0{l:List UInt8}(hl:l.length<=1048576):sU (bs l)=some (((Io l).1.length:Nat):Int):=by
 unfold sU;rw[TK hl,af,dE]
theorem C8(z:Int):Io (zB z)=(dB z.natAbs,decide (z<0)):=by
 unfold zB;by_cases h:z<0
 ·rw[if_pos h,WC,Qdl h]
 ·rw[if_neg h,QbV h];rcases Fv (dB z.natAbs)with⟨r,e,_⟩|⟨_,e⟩
  ·exact(C9 e).elim
  ·exact e
theorem Ip(n:Nat):Io (dB n)=(dB n,false):=by
 rcases Fv (dB n)with⟨r,e,_⟩|⟨_,e⟩
 ·exact(C9 e).elim
 ·exact e
theorem QcH{l:List UInt8}(hl:l.length<=1048576):∃b,xo (bs l)=some b/\(b=true↔∃z:Int,l=zB z):=by
 obtain⟨r,h1,h2⟩:=Qfu hl;refine⟨r.2.2,by unfold xo;rw[h1,af],?_⟩
 rw[h2];exact⟨λ⟨z,h⟩=>⟨z,by rw[JP]at h;exact Ly h⟩,λ⟨z,h⟩=>⟨z,by rw[JP,h]⟩⟩
theorem H8{a p q:List UInt8}{c:Bool}(hp:p.length<=1048576)(hq:q.length<=1048576)(h1:mO (bs a)=some (bs p,bs q))(h2:iL (bs a) mX=some c):
  ∃b,oN (bs a)=some b/\(b=true↔(∃z:Int,p=zB z/\dl 4096 z.natAbs/\(Io q).1.length<=4096/\(c=true->∃n:Nat,q=dB n/\n≠0/\n≠1/\z≠0/\Nat.gcd z.natAbs n=1))):=by
 unfold oN;rw[h1,af];obtain⟨b,e1,e2⟩:=QcH hp;show ∃b',aQ (xo (bs p)) _=some b'/\_;rw[e1,af];cases b with
 |false =>
  refine⟨false,rfl,⟨λh=>(by cases h),λ⟨z,hz,_⟩=>?_⟩⟩
  have:=e2.2 ⟨z,hz⟩;cases this
 |true =>
  obtain⟨z,rfl⟩:=e2.1 rfl;rw[dT,U0 hp,af,C8];by_cases hz:(dB z.natAbs).length<=4096
  ·rw[aR (by rw[iu];show((dB z.natAbs).length:Int)<=4096;omega)]
   show ∃b',aQ (sU (bs q)) _=some b'/\_;rw[U0 hq,af];by_cases TV:(Io q).1.length<=4096
   ·rw[aR (by rw[iu];omega),h2,af]
    cases c with
    |false=>exact⟨true,rfl,⟨λ_=>⟨z,rfl,hz,TV,λh=>by cases h⟩,λ_=>rfl⟩⟩
    |true =>
     rw[dT];obtain⟨d,f1,f2⟩:=MM hq;show ∃b',aQ (nv (bs q)) _=some b'/\_;rw[f1,af];cases d with
     |false =>
      refine⟨false,rfl,⟨λh=>(by cases h),λ⟨z',hz',_,_,hc⟩=>?_⟩⟩
      obtain⟨n,hn,_⟩:=hc rfl;have:=f2.2 ⟨n,hn⟩;cases this
     |true =>
      obtain⟨n,rfl⟩:=f2.1 rfl;rw[Ip]at TV;show ∃b',br (((!true||qe (bs (dB n)) bZ)||qe (bs (dB n)) od)||qe (bs (zB z)) bZ) _ (aQ (strings_TrimPrefix (bs (zB z)) pP) _)=some b'/\_;rw[E8,Z7,sG,sG,sG];have i0:decide (dB n=dB 0)=decide (n=0):=by rw[Qkd];exact⟨sH,λe=>by rw[e]⟩
      have i1:decide (dB n=dB 1)=decide (n=1):=by rw[Qkd];exact⟨sH,λe=>by rw[e]⟩
      have Qod:∀{u v:Int},zB u=zB v->u=v:=λ{u v} e=>by
       have h1:=QaB Io e;rw[C8,C8,Qlq]at h1;have h2:=sH h1.1;have h3:=Qkd.1 h1.2;omega
      have iz:decide (zB z=dB 0)=decide (z=0):=by
       rw[Qkd,show dB 0=zB 0 from rfl];exact⟨Qod,λe=>by rw[e]⟩
      rw[i0,i1,iz];by_cases Qsi:n=0\/n=1\/z=0
      ·rw[bk (by
        simp only[QfW,QhE,Yj,QhY];rcases Qsi with h|h|h
        ·exact .inl (.inl h)
        ·exact .inl (.inr h)
        ·exact .inr h)]
       refine⟨false,rfl,⟨λh=>(by cases h),λ⟨z',hz',_,_,hc⟩=>?_⟩⟩
       obtain⟨n',QS,g1,g2,g3,_⟩:=hc rfl;have:=sH QS;have:=Qod hz';omega
      ·rw[aR (by
        simp only[QfW,QhE,Ja,QeQ];omega),TK hp,af,C8]
       show ∃b',aQ (Gj (bP z.natAbs) (bP n)) _=some b'/\_;rw[QcN hz TV,af];refine⟨_,rfl,?_⟩;show(dk 0 0&&qe (bP (Nat.gcd z.natAbs n)) (bs (dB 1)))=true↔_;rw[show bP (Nat.gcd z.natAbs n)=bs (dB (Nat.gcd z.natAbs n))from rfl,sG,Ae,QbB];constructor
       ·rintro⟨_,h⟩;exact⟨z,rfl,hz,by rw[Ip];exact TV,λ_=>⟨n,rfl,by omega,by omega,by omega,sH h⟩⟩
       ·rintro⟨z',hz',_,_,hc⟩;obtain⟨n',QS,_,_,_,g⟩:=hc rfl;rw[<-Qod hz',<-sH QS]at g;exact⟨rfl,by rw[g]⟩
   ·rw[bk (by rw[oH];omega)]
    exact⟨false,rfl,⟨λh=>(by cases h),λ⟨_,_,_,h,_⟩=>absurd h TV⟩⟩
  ·rw[bk (by rw[oH];show(4096:Int)<((dB z.natAbs).length:Int);omega)]
   refine⟨false,rfl,⟨λh=>(by cases h),λ⟨z',hz',h,_⟩=>?_⟩⟩
   have h1:=QaB Io hz';rw[C8,C8,Qlq]at h1;rw[h1.1]at hz;exact absurd h hz
structure rl (k:Nat) (r:Rat):Prop where
 num:zl k r.num
 den:dl k r.den
theorem QnM(r:Rat):∃l,jG r=bs l/\l.length<=(dB r.num.natAbs).length+(dB r.den).length+2:=by
 have:=JO r.num;unfold jG;split
 ·exact⟨zB r.num,JP _,by omega⟩
 ·exact⟨_,rfl,by simp;omega⟩
theorem UI{r:Rat}(h:rl 4096 r):oN (jG r)=some true:=by
 have hn:(dB r.num.natAbs).length<=4096:=h.num;have hd:(dB r.den).length<=4096:=h.den;have hz:=JO r.num;obtain⟨l,e,hl⟩:=QnM r;obtain⟨s1,s2⟩:=My (r:=r) (dl.more h.num (by omega)) (dl.more h.den (by omega))
 rw[e]at s1 s2 ⊢;rw[JP]at s1;obtain⟨b,b1,b2⟩:=H8 (a:=l) (p:=zB r.num) (q:=dB r.den) (by omega) (by omega) s1 s2
 rw[b1];congr 1;refine b2.2 ⟨r.num,rfl,h.num,by rw[Ip];exact hd,λhc=>?_⟩
 have CJ:=QbF hc;refine⟨r.den,rfl,r.den_nz,CJ,λh0=>?_,r.reduced⟩
 have:=r.reduced;unfold Nat.Coprime at this;rw[h0]at this;simp at this;exact CJ this
theorem Qet{l:List UInt8}(hl:l.length<=1000000):∃b,oN (bs l)=some b/\(b=true->∃r:Rat,bs l=jG r/\rl 4096 r):=by
 rcases Qmq l with h|⟨a,q,rfl,h⟩
 ·obtain⟨s1,s2⟩:=TE h;obtain⟨b,b1,b2⟩:=H8 (a:=l) (p:=l) (q:=dB 1) (by omega) (by rw[rA (by omega)];simp) s1 s2
  refine⟨b,b1,λhb=>?_⟩
  obtain⟨z,hz,hd,_,_⟩:=b2.1 hb;refine⟨(z:Rat),?_,hd,?_⟩
  ·unfold jG;rw[if_pos (by rfl),JP,hz];rfl
  ·show dl 4096 1;unfold dl;rw[rA (by omega)];simp
 ·simp only[Qay,QaA]at hl;obtain⟨s1,s2⟩:=Qaj (b:=q) h (by omega)
  obtain⟨b,b1,b2⟩:=H8 (by omega) (by omega) s1 s2
  refine⟨b,b1,λhb=>?_⟩
  obtain⟨z,hz,hd,hq,hc⟩:=b2.1 hb;obtain⟨n,hn,n0,n1,z0,hg⟩:=hc rfl;refine⟨⟨z,n,n0,hg⟩,?_,hd,?_⟩
  ·unfold jG;rw[if_neg n1,hz,hn]
  ·rw[hn,Ip]at hq;exact hq
theorem X3{a b:Rat}(ha:rl 4096 a)(hb:rl 4096 b):zV (jG a) (jG b)=some (zT a.num,bP a.den,zT b.num,bP b.den,0):=by
 have sa:=(My (r:=a) (dl.more ha.num (by omega)) (dl.more ha.den (by omega))).1
 have sb:=(My (r:=b) (dl.more hb.num (by omega)) (dl.more hb.den (by omega))).1
 unfold zV;rw[UI ha,af,dT,UI hb,af,dT,sa,af,sb,af]
theorem Qir{p:Int}{q:Nat}(hq:q≠0):(mkRat p q).num=p / (Nat.gcd p.natAbs q:Nat)/\(mkRat p q).den=q / Nat.gcd p.natAbs q:=by
 rw[<-Rat.normalize_eq_mkRat hq,Rat.normalize_eq];exact⟨rfl,rfl⟩
theorem Vu{p:Int}{q:Nat}(hq:q≠0)(hp:zl 4095 p)(hd:dl 4095 q):u0 (zT p) (bP q)=some (jG (mkRat p q),0):=by
 have hp6:dl 4096 p.natAbs:=dl.more (show dl 4095 p.natAbs from hp) (by omega)
 have hd6:dl 4096 q:=hd.more (by omega)
 have hz:=JO p;have Dc:(dB p.natAbs).length<=4095:=hp;have hg0:0<Nat.gcd p.natAbs q:=Nat.gcd_pos_of_pos_right _ (QlG hq);have hg6:dl 4096 (Nat.gcd p.natAbs q):=hd6.mono (Nat.gcd_le_right _ (QlG hq));obtain⟨m1,m2⟩:=Qir (p:=p) hq;unfold u0;have ht:strings_TrimPrefix (zT p) pP=some (bP p.natAbs):=by
  rw[JP,TK (by omega),C8];rfl
 rw[ht,af,QcN hp6 hd6,af,aR (by rfl)]
 show aQ (tQ (zT p) (bP (Nat.gcd p.natAbs q))) _=_;rw[QcM hp hg6 hg0,af,aR (by rfl)]
 show aQ (tQ (bP q) (bP (Nat.gcd p.natAbs q))) _=_;have hzq:zl 4095 (q:Int):=hd;rw[<-yZ q,QcM hzq hg6 hg0,af,aR (by rfl)]
 have hdq:(q:Int) / ((Nat.gcd p.natAbs q:Nat):Int)=((q / Nat.gcd p.natAbs q:Nat):Int):=(Int.natCast_ediv ..).symm;rw[hdq,<-m1,<-m2];generalize mkRat p q=r at *;have hrd:dl 4096 r.den:=by rw[m2];exact hd6.mono (Qf3 _ _)
 have Qp:(dB r.den).length<=4096:=hrd;have Zj:(dB r.num.natAbs).length<=4096:=by
  rw[m1];refine dl.mono hp6 ?_
  rw[Int.natAbs_ediv_of_dvd (Int.ofNat_dvd_left.2 (Nat.gcd_dvd_left _ _))];exact Qf3 _ _
 have hzr:=JO r.num;show br (qe (zT (r.den:Int)) od) (some (zT r.num,0)) (ft ((zT r.num).size+mX.size<=9223372036854775807) (ft ((ee (zT r.num) mX).size+(zT (r.den:Int)).size<=9223372036854775807) (some ((ee (ee (zT r.num) mX) (zT (r.den:Int))),0))))=_;rw[yZ,Z7,show bP r.den=bs (dB r.den)from rfl,sG];unfold jG;by_cases h1:r.den=1
 ·rw[bk (by rw[h1];simp),if_pos h1]
 ·have e1:(zT r.num).size=(zB r.num).length:=by rw[JP,js]
  have e2:mX.size=1:=by rw[On,js];rfl
  have e3:ee (zT r.num) mX=bs (zB r.num++[47]):=by rw[JP,On,Lx]
  have e4:(bs (zB r.num++[47])).size=(zB r.num).length+1:=by rw[js,Qay];rfl
  have e5:(bs (dB r.den)).size=(dB r.den).length:=js;have lN:decide (dB r.den=dB 1)=false:=by
   rw[QeQ];exact λe=>h1 (sH e)
  rewrite [lN,dX,if_neg h1,e3,e1,e2,e4,e5,eU (by omega),eU (by omega),Lx,Qds]
  exact QaB (λt=>some (bs t,(0:Int))) rfl
theorem QlO{n:Nat}(h:n<=1000):Bd 0 (n:Int) 16 ByteArray.empty=some []:=by
 unfold Bd;rw[if_pos (by omega)];rfl
theorem ZS{x y z w u v:I}(h1:nz x y=some (u,0))(h2:nz z w=some (v,0)):fz [bj.mk x y,bj.mk z w]=some ([u,v],0):=by
 unfold fz;rw[show Bd 0 (ay [bj.mk x y,bj.mk z w]) 16 ByteArray.empty=some []from QlO (n:=2) (by omega),af]
 have hl:aL (λs=>dy [bj.mk x y,bj.mk z w] [] s.1 s.2) ([],0)=some (.inl [u,v]):=by
  refine gQ (B:=λs:List I×Int=>dy [bj.mk x y,bj.mk z w] [] s.1 s.2) 2 (λi=>([u,v].take i,(i:Int))) (by decide) (λi hi=>?_) ?_
  ·match i,hi with
   |0,_ =>
    show dy _ [] [] ((0:Nat):Int)=_;unfold dy;rw[cO (a:=bj.mk x y) rfl];show aQ (nz x y) _=_;rw[h1,af,aR (by rfl),eU (eV (by simp))];rfl
   |1,_ =>
    show dy _ [] [u] ((1:Nat):Int)=_;unfold dy;rw[cO (a:=bj.mk z w) rfl];show aQ (nz z w) _=_;rw[h2,af,aR (by rfl),eU (eV (by simp))];rfl
  ·show dy _ [] [u,v] ((2:Nat):Int)=_;unfold dy;exact aR (by rfl)
 rw[cN hl,c5]
theorem ZR{x y u:I}(h1:nz x y=some (u,0)):fz [bj.mk x y]=some ([u],0):=by
 unfold fz;rw[show Bd 0 (ay [bj.mk x y]) 16 ByteArray.empty=some []from QlO (n:=1) (by omega),af]
 have hl:aL (λs=>dy [bj.mk x y] [] s.1 s.2) ([],0)=some (.inl [u]):=by
  refine gQ (B:=λs:List I×Int=>dy [bj.mk x y] [] s.1 s.2) 1 (λi=>([u].take i,(i:Int))) (by decide) (λi hi=>?_) ?_
  ·match i,hi with
   |0,_ =>
    show dy _ [] [] ((0:Nat):Int)=_;unfold dy;rw[cO (a:=bj.mk x y) rfl];show aQ (nz x y) _=_;rw[h1,af,aR (by rfl),eU (eV (by simp))];rfl
  ·show dy _ [] [u] ((1:Nat):Int)=_;unfold dy;exact aR (by rfl)
 rw[cN hl,c5]
theorem dl.mul{j k m n:Nat}(hm:dl j m)(hn:dl k n):dl (j+k) (m*n):=by
 have h1:=hm.lt;have h2:=hn.lt;have hj:0<j:=Qby (qq m) hm;refine M7 (by omega) ?_
 rw[Nat.pow_add];exact Nat.mul_lt_mul'' h1 h2
theorem dl.add{k m n:Nat}(hm:dl k m)(hn:dl k n):dl (k+1) (m+n):=by
 have h1:=hm.lt;have h2:=hn.lt;refine M7 (by omega) ?_
 rw[Qdw];omega
theorem VM{a b:Rat}(ha:rl 1000 a)(hb:rl 1000 b):nz (zT a.num) (bP b.den)=some (zT (a.num*b.den),0)/\nz (zT b.num) (bP a.den)=some (zT (b.num*a.den),0)/\nz (bP a.den) (bP b.den)=some (bP (a.den*b.den),0)/\
  zl 2000 (a.num*b.den)/\zl 2000 (b.num*a.den)/\dl 2000 (a.den*b.den):=by
 have p1:zl 2000 (a.num*b.den):=by
  unfold zl;rw[Int.natAbs_mul];exact dl.mul ha.num hb.den
 have p2:zl 2000 (b.num*a.den):=by
  unfold zl;rw[Int.natAbs_mul];exact dl.mul hb.num ha.den
 have p3:dl 2000 (a.den*b.den):=dl.mul ha.den hb.den;have q1:zl 4096 a.num:=dl.more ha.num (by omega)
 have q2:zl 4096 b.num:=dl.more hb.num (by omega)
 have q3:zl 4096 (a.den:Int):=dl.more ha.den (by omega)
 have q4:zl 4096 (b.den:Int):=dl.more hb.den (by omega)
 refine⟨?_,?_,?_,p1,p2,p3⟩
 ·rw[<-yZ b.den];exact Qgn q1 q4 (dl.more p1 (by omega))
 ·rw[<-yZ a.den];exact Qgn q2 q3 (dl.more p2 (by omega))
 ·rw[<-yZ a.den,<-yZ b.den,<-yZ (a.den*b.den),QeV];exact Qgn q3 q4 (by unfold zl;rw[<-QeV];exact dl.more p3 (by omega))
theorem Qjv{a b:Rat}(ha:rl 1000 a)(hb:rl 1000 b):BK (jG a) (jG b)=some (jG (a+b),0):=by
 obtain⟨h1,h2,h3,p1,p2,p3⟩:=VM ha hb;have hs:=dl.add (show dl 2000 (a.num*b.den).natAbs from p1) p2;have Uf:zl 2001 (a.num*b.den+b.num*a.den):=dl.mono hs (Int.natAbs_add_le _ _);unfold BK uc;rw[X3 ⟨dl.more ha.num (by omega),dl.more ha.den (by omega)⟩ ⟨dl.more hb.num (by omega),dl.more hb.den (by omega)⟩,af,aR (by rfl)]
 show aQ (aQ (fz [bj.mk (zT a.num) (bP b.den),bj.mk (zT b.num) (bP a.den)]) _) _=_;rw[ZS h1 h2,af,aR (by rfl)]
 show aQ (aQ (some (zT (a.num*b.den))) (λx0=>aQ (some (zT (b.num*a.den))) _)) _=_
 rw[af,af,QoK (dl.more p1 (by omega)) (dl.more p2 (by omega)) (hs.more (by omega)),af,aR (by rfl)]
 show aQ (aQ (fz [bj.mk (bP a.den) (bP b.den)]) _) _=_;rw[ZR h3,af,aR (by rfl)]
 show aQ (aQ (some (bP (a.den*b.den))) _) _=_;rw[af,Vu (Nat.mul_ne_zero a.den_nz b.den_nz) (dl.more Uf (by omega)) (p3.more (by omega)),af,af]
 have e:=Rat.mkRat_add_mkRat a.num b.num a.den_nz b.den_nz;rw[Qlp,Qlp]at e;rw[e]
theorem QcS{a b:Rat}(ha:rl 1000 a)(hb:rl 1000 b):zU (jG a) (jG b)=some (jG (a-b),0):=by
 obtain⟨h1,h2,h3,p1,p2,p3⟩:=VM ha hb;have hs:=dl.add (show dl 2000 (a.num*b.den).natAbs from p1) p2;have Uf:zl 2001 (a.num*b.den-b.num*a.den):=dl.mono hs (by omega)
 unfold zU ud;rw[X3 ⟨dl.more ha.num (by omega),dl.more ha.den (by omega)⟩ ⟨dl.more hb.num (by omega),dl.more hb.den (by omega)⟩,af,aR (by rfl)]
 show aQ (aQ (fz [bj.mk (zT a.num) (bP b.den),bj.mk (zT b.num) (bP a.den)]) _) _=_;rw[ZS h1 h2,af,aR (by rfl)]
 show aQ (aQ (some (zT (a.num*b.den))) (λx0=>aQ (some (zT (b.num*a.den))) _)) _=_
 rw[af,af,QoU (dl.more p1 (by omega)) (dl.more p2 (by omega)) (hs.more (by omega)),af,aR (by rfl)]
 show aQ (aQ (fz [bj.mk (bP a.den) (bP b.den)]) _) _=_;rw[ZR h3,af,aR (by rfl)]
 show aQ (aQ (some (bP (a.den*b.den))) _) _=_;rw[af,Vu (Nat.mul_ne_zero a.den_nz b.den_nz) (dl.more Uf (by omega)) (p3.more (by omega)),af,af]
 have e:=Rat.mkRat_add_mkRat a.num (-b.num) a.den_nz b.den_nz;rw[Qlp,<-Rat.neg_mkRat,Qlp,<-Rat.sub_eq_add_neg,Int.neg_mul,<-Int.sub_eq_add_neg]at e;rw[e]
theorem Qff{m n:Nat}(h:m<=n):m.log2<=n.log2:=by
 rcases QcW m with rfl|hm
 ·rw[show Nat.log2 0=0 from rfl];omega
 ·rw[Nat.le_log2 (by omega)]
  exact QaE (Nat.log2_self_le (by omega)) h
def cfM(P:Int)(Q:Nat):Nat:=if P<0 then 2*Q.log2+3 else LC P.toNat Q
theorem Qg0{P:Int}{Q:Nat}(hQ:0<Q):cfM (Q:Int) (P % (Q:Int)).toNat<cfM P Q:=by
 have h1:0<=P % (Q:Int):=Ql5 _ (by omega)
 have h2:P % (Q:Int)<Q:=QlP _ (by omega)
 have e:cfM (Q:Int) (P % (Q:Int)).toNat=LC Q (P % (Q:Int)).toNat:=by
  unfold cfM;rw[if_neg (by omega),QaC]
 rw[e];by_cases hP:P<0
 ·have h3:=Qff (show(P % (Q:Int)).toNat<=Q by omega)
  unfold cfM LC;rw[if_pos hP,if_neg (show ¬Q<(P % (Q:Int)).toNat by omega)]
  split <;> omega
 ·have h3:=O2 (x:=P.toNat) hQ;unfold cfM;rw[if_neg hP];have h4:(P % (Q:Int)).toNat=P.toNat % Q:=by
   obtain⟨n,rfl⟩:∃n:Nat,P=n:=⟨P.toNat,by omega⟩
   rw[<-Int.natCast_emod,QaC,QaC]
  rw[h4];exact h3
theorem Qj0(x y:Int):Go.Lib.compareInt y x=- Go.Lib.compareInt x y:=by
 unfold Go.Lib.compareInt
 repeat' split
 all_goals omega
theorem QeI{x y u v:Int}(h:x-y=u-v):Go.Lib.compareInt x y=Go.Lib.compareInt u v:=by
 unfold Go.Lib.compareInt
 repeat' split
 all_goals omega
theorem UU{P R:Int}{Q S:Nat}(hQ:0<Q)(hS:0<S)(h:P / (Q:Int)<R / (S:Int)):P*S<R*Q:=by
 have d1:=Qly P Q;have d2:=Qly R S;have m1:P % (Q:Int)<Q:=QlP _ (by omega)
 have m2:0<=R % (S:Int):=Ql5 _ (by omega)
 generalize P / (Q:Int)=f at *;generalize R / (S:Int)=g at *;have h1:P<Q*(f+1):=by rw[QdY];omega
 have h2:(S:Int)*g<=R:=by omega
 have h3:P*S<(Q*(f+1))*S:=Int.mul_lt_mul_of_pos_right h1 (by omega)
 have h4:((Q:Int)*(f+1))*S<=(Q*g)*S:=Ql7 (Ql8 (by omega) (by omega)) (by omega)
 have h5:(S:Int)*g*Q<=R*Q:=Ql7 h2 (by omega)
 have h6:((Q:Int)*g)*S=S*g*Q:=by rw[QfX,Qdr g S,Qdr (Q:Int)]
 omega
theorem Qde{n:Nat}:qe (bP n) bZ=decide (n=0):=by
 rw[E8,show bP n=bs (dB n)from rfl,sG,Qkd];exact⟨sH,λe=>by rw[e]⟩
theorem Qg9{b:I}{P R:Int}{Q S:Nat}(hQ:0<Q)(hS:0<S)(h1:zl 4095 P)(h2:dl 4095 Q)(h3:zl 4095 R)(h4:dl 4095 S):
  aL (λs=>lY b s.1 s.2.1 s.2.2.1 s.2.2.2.1 s.2.2.2.2) (zT P,bP Q,zT R,bP S,1)=some (Go.Lib.compareInt (P*S) (R*Q)):=by
 apply post.eq;refine xl (λm (s:I×I×I×I×Int)=>∃(p r:Int) (q u:Nat) (t:Int),s=(zT p,bP q,zT r,bP u,t)/\0<q/\0<u/\(zl 4095 p/\dl 4095 q/\zl 4095 r/\dl 4095 u)/\(t=1\/t=-1)/\t*Go.Lib.compareInt (p*u) (r*q)=Go.Lib.compareInt (P*S) (R*Q)/\cfM p q=m) (cfM P Q)
  ⟨P,R,Q,S,1,rfl,hQ,hS,⟨h1,h2,h3,h4⟩,.inl rfl,Int.one_mul _,rfl⟩ ?_ ?_
 ·have e1:=RU (n:=Q) (QaE BI h2);have e2:=RU (n:=P.toNat) (L:=4095) (QaE BI (dl.mono (show dl 4095 P.natAbs from h1) (by omega)))
  unfold cfM LC
  repeat' split
  all_goals omega
 ·rintro m _ ⟨p,r,q,u,t,rfl,g1,g2,⟨d1,d2,d3,d4⟩,ht,hv,rfl⟩;show post (lY b (zT p) (bP q) (zT r) (bP u) t) _;have fq:∀{z:Int} {n:Nat},zl 4095 z->zl 4096 (z / (n:Int)):=λ{z n} h=>by
   refine dl.mono (show dl 4096 (z.natAbs+1)from dl.succ h) ?_
   rcases QcW n with rfl|hn
   ·simp
   ·have a1:=Qly z n;have a2:0<=z % (n:Int):=Ql5 _ (by omega)
    have a3:z % (n:Int)<n:=QlP _ (by omega)
    generalize z / (n:Int)=f at *;rcases Int.lt_or_le f 0 with hf|hf
    ·have:(n:Int)*(f+1)<=1*(f+1):=Int.mul_le_mul_of_nonpos_right (by omega) (by omega)
     rw[QdY]at this;omega
    ·have:1*f<=(n:Int)*f:=Ql7 (by omega) hf
     omega
  unfold lY;rw[QcM d1 (d2.more (by omega)) g1,af,QcM d3 (d4.more (by omega)) g2,af]
  show post (aQ (tP (zT (p / (q:Int))) (zT (r / (u:Int)))) _) _;rw[Qeq (fq d1) (fq d3),af];have hp:=Qly p q;have hr:=Qly r u;have x0:0<=p % (q:Int):=Ql5 _ (by omega)
  have x1:p % (q:Int)<q:=QlP _ (by omega)
  have y0:0<=r % (u:Int):=Ql5 _ (by omega)
  have y1:r % (u:Int)<u:=QlP _ (by omega)
  have ir:=Qg0 (P:=p) g1;refine bg (λlN=>?_) (λheq=>?_)
  ·refine⟨_,rfl,λs' e=>(by cases e),λe he=>?_⟩
   cases he;rw[<-hv];have hc:Go.Lib.compareInt (p / (q:Int)) (r / (u:Int))=Go.Lib.compareInt (p*u) (r*q):=by
    rcases Int.lt_trichotomy (p / (q:Int)) (r / (u:Int))with h|h|h
    ·rw[qp h,qp (UU g1 g2 h)]
    ·rw[h,Aj]at lN;cases lN
    ·rw[pr h,pr (UU g2 g1 h)]
   rw[hc];have hb:Go.Lib.compareInt (p*u) (r*q)=-1\/Go.Lib.compareInt (p*u) (r*q)=0\/Go.Lib.compareInt (p*u) (r*q)=1:=by
    unfold Go.Lib.compareInt;repeat' split
    all_goals simp
   rcases ht with rfl|rfl <;> rcases hb with h|h|h <;> rw[h] <;> rfl
  ·have hfg:p / (q:Int)=r / (u:Int):=by
    rcases Int.lt_trichotomy (p / (q:Int)) (r / (u:Int))with h|h|h
    ·rw[qp h]at heq;cases heq
    ·exact h
    ·rw[pr h]at heq;cases heq
   obtain⟨X,hX⟩:∃X:Nat,p % (q:Int)=X:=⟨(p % (q:Int)).toNat,by omega⟩
   obtain⟨Y,hY⟩:∃Y:Nat,r % (u:Int)=Y:=⟨(r % (u:Int)).toNat,by omega⟩
   rw[hX]at hp x1 ir ⊢;rw[hY]at hr y1 ⊢;rw[hfg]at hp;generalize r / (u:Int)=f at *;have k9:Go.Lib.compareInt (p*u) (r*q)=Go.Lib.compareInt ((X:Int)*u) ((Y:Int)*q):=by
    refine QeI ?_
    rw[<-hp,<-hr,Qkl,Qkl];have:(q:Int)*f*u=u*f*q:=by rw[Int.mul_right_comm,Qdr (q:Int) u,Int.mul_right_comm]
    omega
   rw[k9]at hv;have QeX:cX .i64 0 t=-t:=by
    rcases ht with rfl|rfl <;> decide
   show post (br (qe (bP X) bZ&&qe (bP Y) bZ) _ (br (qe (bP X) bZ) _ (br (qe (bP Y) bZ) _ _))) _;rw[Qde,Qde,QeX];by_cases hx:X=0 <;> by_cases hy:Y=0
   ·rw[Qdl hx,Qdl hy,bk (by rfl)]
    refine⟨_,rfl,λs' e=>(by cases e),λe he=>?_⟩
    cases he;rw[<-hv,hx,hy];simp [Aj]
   ·rw[Qdl hx,QbV hy,aR (by rfl),dT]
    refine⟨_,rfl,λs' e=>(by cases e),λe he=>?_⟩
    cases he;have:(0:Int)<(Y:Int)*q:=Int.mul_pos (by omega) (by omega)
    rw[<-hv,hx,qp (by simpa using this)];omega
   ·rw[QbV hx,Qdl hy,aR (by rfl),dX,dT]
    refine⟨_,rfl,λs' e=>(by cases e),λe he=>?_⟩
    cases he;have:(0:Int)<(X:Int)*u:=Int.mul_pos (by omega) (by omega)
    rw[<-hv,hy,pr (by simpa using this)];omega
   ·rw[QbV hx,QbV hy,aR (by rfl),dX,dX]
    refine⟨_,rfl,λs' e=>?_,λe he=>by cases he⟩
    cases e;refine⟨cfM (q:Int) X,by rw[QaC]at ir;exact ir,(q:Int),(u:Int),X,Y,-t,by rw[yZ,yZ];rfl,by omega,by omega,⟨d2,dl.mono d2 (by omega),d4,dl.mono d4 (by omega)⟩,by omega,?_,rfl⟩
    rw[<-hv,Qdr (q:Int) Y,Qdr (u:Int) X,Qj0 ((X:Int)*u),Int.neg_mul_neg]
theorem Qb{a b:Rat}(ha:rl 4095 a)(hb:rl 4095 b):jn (jG a) (jG b)=some (Go.Lib.compareInt (a.num*b.den) (b.num*a.den)):=by
 unfold jn;rw[X3 ⟨dl.more ha.num (by omega),dl.more ha.den (by omega)⟩ ⟨dl.more hb.num (by omega),dl.more hb.den (by omega)⟩,af,aR (by rfl)]
 show aQ (aL (λs=>lY (jG b) s.1 s.2.1 s.2.2.1 s.2.2.2.1 s.2.2.2.2) (zT a.num,bP a.den,zT b.num,bP b.den,1)) _=_
 rw[cN (Qg9 (QlG a.den_nz) (QlG b.den_nz) ha.num ha.den hb.num hb.den)]
theorem ZT(z:Int):jG (z:Rat)=zT z:=by
 unfold jG;rw[if_pos (by rfl)];rfl
theorem Qgp{n:Nat}(h:n<=9223372036854775807):EX (n:Int)=some (jG (((n:Nat):Int):Rat)):=by
 unfold EX OA yU;rw[IJ ⟨by omega,by omega⟩,Go.Lib.itoa_nonneg,af,af,ZT,yZ]
 rfl
end Go.Proofs.YtkcilfpbgjjjbaaGreatDoor
