/- Part MZ. -/
import Derived.Test.YtkcilfpbgjjjbaaGreatDoorMI
import Derived.Test.YtkcilfpbgjjjbaaGreatDoorMY
set_option linter.unusedSimpArgs false
set_option linter.unusedVariables false
set_option linter.unusedSectionVars false
namespace Go.Proofs.YtkcilfpbgjjjbaaGreatDoor
noncomputable section
theorem Qgq{l:List UInt8}(hl:l.length<=1048576):∃b,fR (bs l)=some b/\(b=true↔∃n,l=dB n):=by
 have QqJ:∀c0:UInt8,aL (λs=>fN (bs l) c0 s) 0=some (if l.any (λb=>bh (cQ b) 48||dt (cQ b) 57)=true then .inr false else .inl ()):=λc0 =>
  fD (B:=λs=>fN (bs l) c0 s) (l:=l) hl (λb=>bh (cQ b) 48||dt (cQ b) 57) (y:=(.inr false:Unit⊕Bool)) (N:=.inl ()) (λi b e=>by
   have hi:=(pB.1 e).1;show fN (bs l) c0 i=_;unfold fN;rw[bk (by rw[ew,dE];omega),uj e,af,dZ (by omega) (by omega)]
   cases bh (cQ b) 48 <;> cases dt (cQ b) 57 <;> rfl) (by
   show fN (bs l) c0 (l.length:Int)=_;unfold fN;rw[aR (by rw[eC,dE];omega)])
 have QqK:aL (λs=>fO (bs l) s) 0=some (if l.any (λb=>bh (cQ b) 48||dt (cQ b) 57)=true then .inr false else .inl ()):=
  fD (B:=λs=>fO (bs l) s) (l:=l) hl (λb=>bh (cQ b) 48||dt (cQ b) 57) (y:=(.inr false:Unit⊕Bool)) (N:=.inl ()) (λi b e=>by
   have hi:=(pB.1 e).1;show fO (bs l) i=_;unfold fO;rw[bk (by rw[ew,dE];omega),uj e,af,dZ (by omega) (by omega)]
   cases bh (cQ b) 48 <;> cases dt (cQ b) 57 <;> rfl) (by
   show fO (bs l) (l.length:Int)=_;unfold fO;rw[aR (by rw[eC,dE];omega)])
 unfold fR;rw[dE];cases l with
 |nil =>
  refine⟨false,rfl,⟨λh=>(by cases h),λ⟨n,h⟩=>?_⟩⟩
  have:=qq n;rw[<-h]at this;simp at this
 |cons c r =>
  rw[aR (by rw[rC];simp;omega)]
  have bad:(c ::r).any (λb=>bh (cQ b) 48||dt (cQ b) 57)=true->∃b,some false=some b/\(b=true↔∃n,c ::r=dB n):=λha=>by
   refine⟨false,rfl,⟨λh=>(by cases h),λ⟨n,h⟩=>?_⟩⟩
   obtain⟨b,hb,hp⟩:=Qf0.1 ha;rw[h]at hb;have:=FB.1 (mj n b hb);rw[this.1,this.2]at hp;cases hp
  have Es:¬(c ::r).any (λb=>bh (cQ b) 48||dt (cQ b) 57)=true->(r≠[]->cQ c≠48)->∃b,some true=some b/\(b=true↔∃n,c ::r=dB n):=λha hc=>by
   refine⟨true,rfl,⟨λ_=>?_,λ_=>rfl⟩⟩
   have hd:∀b∈c ::r,AN b:=λb hb=>by
    rw[FB];have:((c ::r).any λb=>bh (cQ b) 48||dt (cQ b) 57)=false:=by simpa using ha
    have:=QeP.1 this b hb;simpa using this
   refine⟨jh (c ::r),SB (by simp) hd λb r' e hb=>?_⟩
   cases e;cases r with
   |nil=>rfl
   |cons d r=>exact absurd (show cQ c=48 by unfold cQ;omega) (hc (by simp))
  by_cases h1:r=[]
  ·subst h1;rw[aR (by rw[iu];simp),cN QqK]
   by_cases ha:([c]:List UInt8).any (λb=>bh (cQ b) 48||dt (cQ b) 57)=true
   ·rw[if_pos ha,iJ];exact bad ha
   ·rw[if_neg ha,c5];exact Es ha λh=>absurd rfl h
  ·have h2:1<(c ::r).length:=by
    have:=QmH.2 h1;simp;omega
   rw[bk (by rw[oH];omega),show(0:Int)=((0:Nat):Int)from rfl,uj (l:=c ::r) (i:=0) rfl,af]
   by_cases h0:cQ c=48
   ·rw[bk (by rw[kp];exact h0)]
    refine⟨false,rfl,⟨λh=>(by cases h),λ⟨n,h⟩=>?_⟩⟩
    exfalso;rcases QcW n with rfl|hp
    ·rw[rA (by omega)]at h
     exact h1 (Qf5 h).2
    ·obtain⟨b,r',e,hb⟩:=BD hp;rw[e]at h;cases h;unfold cQ at h0;omega
   ·rw[aR (by rw[rC];exact h0),show((0:Nat):Int)=0 from rfl,cN (QqJ c)]
    by_cases ha:(c ::r).any (λb=>bh (cQ b) 48||dt (cQ b) 57)=true
    ·rw[if_pos ha,iJ];exact bad ha
    ·rw[if_neg ha,c5];exact Es ha λ_=>h0
theorem Rx{n:Nat}(hl:(dB n).length<=1048576):fR (bP n)=some true:=by
 obtain⟨b,h1,h2⟩:=Qgq hl;rw[show bP n=bs (dB n)from rfl,h1,h2.2 ⟨n,rfl⟩]
theorem Qcz{l:List UInt8}(h0:l≠[])(hd:∀b∈l,AN b)(hl:l.length<=1048576):lq (bs l)=some (bP (jh l)):=by
 unfold lq;refine cN (post.eq (dP (λs=>∃l':List UInt8,s=bs l'/\l'≠[]/\(∀b∈l',AN b)/\l'.length<=1048576/\jh l'=jh l) (λs=>s.size) ⟨l,rfl,h0,hd,hl,rfl⟩ (by rw[js];omega) ?_))
 rintro _ ⟨l',rfl,h1,h2,h3,h4⟩;show post (pD (bs l')) _;unfold pD;rw[dE];cases l' with
 |nil=>exact absurd rfl h1
 |cons c r =>
  have fin:(c.toNat=48->r=[])->post (some (Sum.inr (bs (c ::r))):O (I⊕I)) λx=>(∀s',x=.inl s'->(∃l':List UInt8,s'=bs l'/\l'≠[]/\(∀b∈l',AN b)/\l'.length<=1048576/\jh l'=jh l)/\s'.size<(bs (c ::r)).size)/\∀e,x=.inr e->e=bP (jh l):=λhc=>by
   refine⟨_,rfl,λs' e=>(by cases e),λe he=>?_⟩
   cases he;unfold bP;rw[<-h4];congr 1;exact SB (by simp) h2 λb r' e hb=>by cases e;exact hc hb
  refine bg (λhg=>?_) (λhg=>fin λ_=>?_)
  ·rw[show(0:Int)=((0:Nat):Int)from rfl,uj (l:=c ::r) (i:=0) rfl,af];refine bg (λhe=>?_) (λhe=>fin λhc=>?_)
   ·rw[oH]at hg;have hr:r≠[]:=λe=>by subst e;simp at hg
    have hs:xu (bs (c ::r)) 1 (((c ::r).length:Nat):Int)=some ():=zX (a:=1) (by simp) (fa _)
    rw[hs,af,show((1:Int)).toNat=1 from rfl,QaC,xz,QbC];refine⟨_,rfl,λs' e=>?_,λe he=>by cases he⟩
    cases e;refine⟨⟨r,rfl,hr,λb hb=>h2 b (QaK _ hb),by simp at h3;omega,?_⟩,by rw[js,js];simp⟩
    rw[<-h4,show c ::r=[c]++r from rfl,tJ,qQ];rw[kp]at he;unfold cQ at he;rw[show c.toNat-48=0 by omega];simp
   ·rw[rC]at he;unfold cQ at he;omega
  ·rw[iu]at hg;simp at hg;exact Qdx (by omega)
theorem Qn1:yQ=bs [48,49,50,51,52,53,54,55,56,57]:=by kernel_rfl
theorem Zs{d:Nat}(h:d<10):kr (d:Int)=some (bs [UInt8.ofNat (48+d)]):=by
 unfold kr;rw[Qn1,dZ (by omega) (by omega),show(d:Int)+1=((d+1:Nat):Int) by omega,zX (by omega) (by simp;omega),af,QaC,QaC,xz]
 congr 2
 match d,h with
 |0,_=>rfl
 |1,_=>rfl
 |2,_=>rfl
 |3,_=>rfl
 |4,_=>rfl
 |5,_=>rfl
 |6,_=>rfl
 |7,_=>rfl
 |8,_=>rfl
 |9,_=>rfl
def BZ(l:List UInt8)(i:Nat):Nat:=if i<l.length then(l.getD (l.length-1-i) 48).toNat-48 else 0
def X5(l:List UInt8)(i:Nat):Nat:=jh (l.drop (l.length-i))
theorem Wb{l:List UInt8}:X5 l 0=0:=by unfold X5;rw[Qgc,Qjk];rfl
theorem Ff{l:List UInt8}{i:Nat}(h:l.length<=i):X5 l i=jh l:=by unfold X5;rw[Nat.sub_eq_zero_of_le h,Qjq]
theorem Wa{l:List UInt8}(i:Nat):X5 l (i+1)=BZ l i*10 ^ i+X5 l i:=by
 unfold BZ;split
 ·rename_i h;have e:l.length-(i+1)+1=l.length-i:=by omega
  have hk:l.length-1-i<l.length:=by omega
  unfold X5;rw[show l.length-(i+1)=l.length-1-i by omega,Qfa hk,show l.length-1-i+1=l.length-i by omega]
  rw[show l[l.length-1-i] ::l.drop (l.length-i)=[l[l.length-1-i]]++l.drop (l.length-i)from rfl,tJ,qQ,Qk0,show l.length-(l.length-i)=i by omega]
  congr 2;rw[Qbo,dr hk];rfl
 ·rename_i h;rw[Ff (by omega),Ff (by omega)];omega
theorem Qda{l:List UInt8}(hd:∀b∈l,AN b){i:Nat}:BZ l i<10:=by
 unfold BZ;split
 ·rename_i h;rw[Qbo,dr (by omega)]
  have:=hd _ (QaH (l:=l) (n:=l.length-1-i) (by omega))
  unfold AN at this;simp only[QbG];omega
 ·omega
theorem Qdb{l:List UInt8}(hd:∀b∈l,AN b)(hl:l.length<=1048576)(i:Nat)(hi:i<=1048576):o8 (bs l) (i:Int)=some (BZ l i:Int):=by
 unfold o8 BZ;rw[dE];by_cases h:i<l.length
 ·rw[aR (by rw[A7];omega),if_pos h,nd (a:=(l.length:Int)) (by omega) (by omega),nd (by omega) (by omega)]
  have hk:l.length-1-i<l.length:=by omega
  have e:l[l.length-1-i]?=some l[l.length-1-i]:=dr hk;have hb:=hd _ (QaH hk);rw[Qbo,e];generalize l[l.length-1-i]=c at e hb;rw[show((l.length:Int)-1-(i:Int))=((l.length-1-i:Nat):Int) by omega,uj e,af]
  unfold AN at hb;have:cX .u8 (cQ c) 48=cQ c-48:=by
   unfold cX cQ;rw[IntKind.wrap_u8];omega
  rw[this];unfold cQ;rw[cvI (by omega) (by omega)]
  simp only[QbG];congr 1;omega
 ·rw[bk (by rw[gX];omega),if_neg h];rfl
theorem Qh5{d:Nat}(h:d<10):AN (UInt8.ofNat (48+d)):=by
 unfold AN;rw[v8 h];omega
structure UF (a b:List UInt8) (i:Nat) (out:List UInt8) (w:Int):Prop where
 len:out.length=i
 dB:∀c∈out,AN c
 w01:w=0\/w=1
 val:(jh out:Int)+X5 b i=X5 a i+w*(10 ^ i:Nat)
theorem Qfc{a b:List UInt8}{i:Nat}{out:List UInt8}{w:Int}(ha:∀c∈a,AN c)(hb:∀c∈b,AN c)(h:UF a b i out w){m:Nat}{w':Int}(hw:w'=0\/w'=1)(hm:m<10)
  (e:(m:Int)=BZ a i-BZ b i-w+10*w'):UF a b (i+1) (UInt8.ofNat (48+m) ::out) w':=by
 refine⟨by rw[QaA,h.len],λc hc=>?_,hw,?_⟩
 ·rcases Qbt.1 hc with rfl|hc
  ·exact Qh5 hm
  ·exact h.dB c hc
 ·have h1:=h.val;rw[show UInt8.ofNat (48+m) ::out=[UInt8.ofNat (48+m)]++out from rfl,tJ,qQ,v8 hm,h.len,Wa,Wa,Qdw];generalize 10 ^ i=p at *;rw[show 48+m-48=m by omega]
  simp only[Qjo,QeV];rw[e];simp only[Int.sub_mul,Qkl,QdY];have e2:w'*((p:Int)*((10:Nat):Int))=10*(w'*p):=by rw[show((10:Nat):Int)=10 from rfl,<-QfX,Qdr]
  have e3:10*w'*(p:Int)=10*(w'*p):=QfX ..;rw[e2,e3];omega
theorem Qnu{m n:Nat}(hm:dl 4097 m)(h:n<=m):ti (bP m) (bP n)=some (bP (m-n)):=by
 have hlm:(dB m).length<=4097:=hm;have hln:(dB n).length<=4097:=dl.mono hm h;have da:=mj m;have db:=mj n;have hle:(dB n).length<=(dB m).length:=by
  have:dl (dB m).length n:=dl.mono (show dl (dB m).length m from fa _) h;exact this
 unfold ti;refine post.eq (bw (R:=λe=>∃out,e=bs out/\UF (dB m) (dB n) (dB m).length out 0) ?_ ?_)
 ·refine p6 (dB m).length (by omega) (λ(i:Nat) (s:I×Int×Int)=>∃out w,s=(bs out,w,(i:Int))/\UF (dB m) (dB n) i out w) ⟨[],0,rfl,rfl,λc hc=>(by cases hc),.inl rfl,by rw[Wb,Wb];rfl⟩ ?_ ?_
  ·rintro i _ hi ⟨out,w,rfl,hI⟩;show post (jF (bP m) (bP n) (bs out) w (i:Int)) _;unfold jF;have g1:=Qda da (i:=i);have g2:=Qda db (i:=i);have hw:=hI.w01;rw[show bP m=bs (dB m)from rfl,show bP n=bs (dB n)from rfl,dE,bk (by rw[ew];omega),Qdb da (by omega) i (by omega),af,Qdb db (by omega) i (by omega),af,nd (a:=(BZ (dB m) i:Int)) (by omega) (by omega),nd (by omega) (by omega)]
   have key:∀(q:Nat) (w':Int),(w'=0\/w'=1)->q<10->(q:Int)=BZ (dB m) i-BZ (dB n) i-w+10*w'->post (lQ (bs (dB m)) (bs (dB n)) (bs out) (i:Int) w' (q:Int)) λx=>(∀s',x=.inl s'->∃out w,s'=(bs out,w,((i+1:Nat):Int))/\UF (dB m) (dB n) (i+1) out w)/\∀e,x=.inr e->∃out,e=bs out/\UF (dB m) (dB n) (dB m).length out 0:=λq w' h1 h2 h3=>by
    unfold lQ;rw[Zs h2,af];refine bY (by rw[js,js];have:=hI.len;simp;omega) ?_
    rw[Lx,dZ (by omega) (by omega)]
    exact cZ (C:=λs'=>_) ⟨_,w',by rw[show(i:Int)+1=((i+1:Nat):Int) by omega];rfl,Qfc da db hI h1 h2 h3⟩
   refine bg (λhb=>?_) (λhb=>?_)
   ·rw[ew]at hb;rw[dZ (by omega) (by omega)]
    have:=key ((BZ (dB m) i:Int)-BZ (dB n) i-w+10).toNat 1 (.inr rfl) (by omega) (by omega)
    rw[show((((BZ (dB m) i:Int)-BZ (dB n) i-w+10).toNat:Nat):Int)=(BZ (dB m) i:Int)-BZ (dB n) i-w+10 by omega]at this
    exact this
   ·rw[eC]at hb;have:=key ((BZ (dB m) i:Int)-BZ (dB n) i-w).toNat 0 (.inl rfl) (by omega) (by omega)
    rw[show((((BZ (dB m) i:Int)-BZ (dB n) i-w).toNat:Nat):Int)=(BZ (dB m) i:Int)-BZ (dB n) i-w by omega]at this
    exact this
  ·rintro _ ⟨out,w,rfl,hI⟩;show post (jF (bP m) (bP n) (bs out) w ((dB m).length:Int)) _;unfold jF;rw[show bP m=bs (dB m)from rfl,dE,aR (by rw[eC];omega)]
   have hw0:w=0:=by
    have h1:=hI.val;rw[Ff (fa _),Ff hle,ug,ug]at h1;have h2:=Kh _ hI.dB;rw[hI.len]at h2;rcases hI.w01 with h3|h3
    ·exact h3
    ·subst h3;generalize 10 ^ (dB m).length=p at *;omega
   subst hw0;refine⟨_,rfl,λs' e=>(by cases e),λe he=>?_⟩
   cases he;exact⟨out,rfl,hI⟩
 ·rintro _ ⟨out,rfl,hI⟩;have lN:out≠[]:=λe=>by
   have:=hI.len;have h2:=qq m;rw[e]at this;simp at this;omega
  rw[Qcz lN hI.dB (by rw[hI.len];omega),af]
  refine aI.2 ?_
  have h1:=hI.val;rw[Ff (fa _),Ff hle,ug,ug]at h1;congr 1;omega
theorem Zr:∀{a b:List UInt8},a.length=b.length->(∀c∈a,AN c)->(∀c∈b,AN c)->(Op.bytesLess a b=decide (jh a<jh b))
 | [],[],_,_,_=>by simp [Op.bytesLess,jh]
 | [],_ ::_,h,_,_=>by cases h
 |_ ::_,[],h,_,_=>by cases h
 |c ::a,d ::b,h,ha,hb=>by
  have hl:a.length=b.length:=by simpa using h
  have ih:=Zr hl (λx hx=>ha x (QaK _ hx)) (λx hx=>hb x (QaK _ hx))
  have h1:=ha c (Qbm ..);have h2:=hb d (Qbm ..);have h3:=Kh _ λx hx=>ha x (QaK _ hx)
  have h4:=Kh _ λx hx=>hb x (QaK _ hx)
  unfold AN at h1 h2;rw[show c ::a=[c]++a from rfl,show d ::b=[d]++b from rfl,tJ,tJ,qQ,qQ,<-hl];rw[<-hl]at h4;show(decide (c<d)||(c == d&&Op.bytesLess a b))=_;rw[ih];rw[Qdg];simp only[QeZ,ma,QhY,Qbb];have e1:c<d↔c.toNat<d.toNat:=Iff.rfl;have e2:c=d↔c.toNat=d.toNat:=Qlm.symm;rw[e1,e2];rcases Qkq c.toNat d.toNat with hc|hc|hc
  ·have:(c.toNat-48+1)*10 ^ a.length<=(d.toNat-48)*10 ^ a.length:=QdB _ (by omega)
   rw[Nat.succ_mul]at this;omega
  ·rw[hc];omega
  ·have:(d.toNat-48+1)*10 ^ a.length<=(c.toNat-48)*10 ^ a.length:=QdB _ (by omega)
   rw[Nat.succ_mul]at this;omega
theorem SA{m n:Nat}(h:(dB m).length<(dB n).length):m<n:=by
 rcases sh m n with h'|h'
 ·exact h'
 ·have:dl (dB m).length n:=dl.mono (show dl (dB m).length m from fa _) h';unfold dl at this;omega
theorem Qo1{m n:Nat}(hm:dl 4097 m)(hn:dl 4097 n):pz (bP m) (bP n)=some (if m=n then 0 else if m<n then -1 else 1):=by
 have h1:(dB m).length<=4097:=hm;have h2:(dB n).length<=4097:=hn;unfold pz;rw[Rx (by omega),af,dT,Rx (by omega),af,show bP m=bs (dB m)from rfl,show bP n=bs (dB n)from rfl,sG,dE,dE]
 have i0:decide (dB m=dB n)=decide (m=n):=by rw[Qkd];exact⟨sH,λe=>by rw[e]⟩
 rw[i0];by_cases he:m=n
 ·rw[bk (by simp [he]),if_pos he]
 ·rw[aR (by simp [he]),if_neg he]
  unfold ltS;rw[JV,JV];rcases Qkq (dB m).length (dB n).length with h|h|h
  ·rw[bk (by rw[Yj,ew];left;omega),if_pos (SA h)]
  ·have:=Zr h (mj m) (mj n);rw[ug,ug]at this;rw[this];by_cases iq:m<n
   ·rw[if_pos iq,bk (by rw[Yj,Ae,kp,QbB];right;exact⟨by omega,iq⟩)]
   ·rw[if_neg iq,aR (by rw[Ja,Wj,eC,QeQ];exact⟨by omega,.inr iq⟩)]
  ·have:=SA h;rw[if_neg (by omega),aR (by rw[Ja,Wj,eC,rC];exact⟨by omega,.inl (by omega)⟩)]
theorem Qel{m n:Nat}(hm:dl 4096 m)(hn:dl 4096 n):o9 (bP m) (bP n)=some 0:=by
 have h1:(dB m).length<=4096:=hm;have h2:(dB n).length<=4096:=hn;unfold o9;rw[Rx (by omega),af,dT,Rx (by omega),af,dT,show bP m=bs (dB m)from rfl,show bP n=bs (dB n)from rfl,dE,dE,aR (by rw[Ja,iu,iu];omega)]
theorem ZE{m n:Nat}:qe (bP m) (bP n)=decide (m=n):=by
 rw[show bP m=bs (dB m)from rfl,show bP n=bs (dB n)from rfl,sG,Qkd];exact⟨sH,λe=>by rw[e]⟩
theorem Qmt{k n R:Nat}(hn:dl k n)(hR:R<10*n):dl (k+1) R:=by
 refine M7 (by omega) ?_
 have h1:=hn.lt;rw[Qdw];omega
theorem Qik{k n:Nat}(h:dl k n):n.log2<=4*k:=by
 rcases QcW n with rfl|hn
 ·rw[show Nat.log2 0=0 from rfl];omega
 ·have h1:=h.lt;have h2:10 ^ k<=16 ^ k:=Nat.pow_le_pow_left (by omega) _
  rw[show(16:Nat)=2 ^ 4 from rfl,<-Nat.pow_mul]at h2;exact Qge ((Nat.log2_lt (by omega)).2 (Qby h1 h2))
theorem Qhj{a q:I}{i:Int}{n R0:Nat}(hn:dl 4096 n)(h0:0<n)(hR:R0<10*n):post (aL (λs=>nn a (bP n) q i s.1 s.2) (bP R0,0)) λe=>∃k:Nat,k<10/\e=(bP (R0 % n),(k:Int)):=by
 have hd:dl 4097 R0:=Qmt hn hR;refine xl (λt (s:I×Int)=>∃R k:Nat,s=(bP R,(k:Int))/\R+k*n=R0/\t=10-k/\k<10) 10 ⟨R0,0,rfl,by omega,rfl,by omega⟩ (by omega) ?_
 rintro t _ ⟨R,k,rfl,h1,h2,h3⟩;show post (nn a (bP n) q i (bP R) (k:Int)) _;unfold nn;have hR1:dl 4097 R:=dl.mono hd (by omega)
 rw[Qo1 hR1 (hn.more (by omega)),af]
 refine bg (λhg=>?_) (λhg=>?_)
 ·rw[gX]at hg;have hle:n<=R:=by
   split at hg
   ·omega
   ·split at hg <;> omega
  rw[Qnu hR1 hle,af,dZ (by omega) (by omega)]
  refine⟨_,rfl,λs' e=>?_,λe he=>by cases he⟩
  cases e;have hk:(k+1)*n<=R0:=by rw[Nat.succ_mul];omega
  have hk2:k+1<10:=by
   rcases sh (k+1) 10 with h|h
   ·exact h
   ·have:=QdB n h;omega
  exact⟨10-(k+1),by omega,R-n,k+1,rfl,by rw[Nat.succ_mul];omega,rfl,hk2⟩
 ·rw[A7]at hg;have iq:R<n:=by
   split at hg
   ·omega
   ·split at hg
    ·omega
    ·omega
  refine⟨_,rfl,λs' e=>(by cases e),λe he=>?_⟩
  cases he;refine⟨k,h3,?_⟩;rw[<-h1,Nat.add_mul_mod_self_right,QfS iq]
theorem Qk9{l:List UInt8}{i:Nat}(hi:i<l.length):jh (l.take (i+1))=10*jh (l.take i)+(l[i].toNat-48):=by
 rw[Qdp,dr hi];show jh (l.take i++[l[i]])=_;rw[tJ,qQ];simp;omega
theorem Qo6{m n:Nat}(hm:dl 4096 m)(hn:dl 4096 n)(h0:0<n):∃q,rH (bP m) (bP n)=some (q,bP (m % n),0):=by
 have hlm:(dB m).length<=4096:=hm;have hp:post (rH (bP m) (bP n)) λe=>e.2=(bP (m % n),0):=by
  unfold rH;rw[Qel hm hn,af,aR (by simp),E8,show bs (dB 0)=bP 0 from rfl,ZE,aR (by rw[QeQ];omega)]
  refine bw (R:=λe=>∃q,e=(bs q,bP (m % n))/\q.length=(dB m).length/\∀c∈q,AN c) ?_ ?_
  ·refine p6 (dB m).length (by omega) (λ(i:Nat) (s:I×I×Int)=>∃q,s=(bs q,bP (jh ((dB m).take i) % n),(i:Int))/\q.length=i/\∀c∈q,AN c) ⟨[],by rw[Qjp,show jh []=0 from rfl,Nat.zero_mod];rfl,rfl,λc hc=>by cases hc⟩ ?_ ?_
   ·rintro i _ hi ⟨q,rfl,h1,h2⟩;show post (kq (bP m) (bP n) (bs q) (bP (jh ((dB m).take i) % n)) (i:Int)) _;unfold kq;obtain⟨R,hR⟩:∃R,R=jh ((dB m).take i) % n:=⟨_,rfl⟩;have hRn:R<n:=by rw[hR];exact Qgu _ h0
    have hRd:dl 4096 R:=dl.mono hn (Qge hRn);have O5:(dB R).length<=4096:=hRd;have hc:=mj m _ (QaH hi);have hv:=Qk9 hi;rw[<-hR];have hex:(bs (dB m)).extract (i:Int).toNat ((i:Int)+1).toNat=bs [(dB m)[i]]:=by
     rw[QaC,show((i:Int)+1).toNat=i+1 by omega,xz]
     congr 1;rw[Qdp,dr hi,Qnm (by simp;omega),QiZ (by simp;omega)]
     rfl
    generalize(dB m)[i]=c at hc hv hex;have hs:xu (bs (dB m)) (i:Int) ((i:Int)+1)=some ():=by
     rw[show(i:Int)+1=((i+1:Nat):Int) by omega]
     exact zX (by omega) (by omega)
    rw[show bP m=bs (dB m)from rfl,dE,bk (by rw[ew];omega),dZ (by omega) (by omega),hs,af,hex,show bP R=bs (dB R)from rfl]
    refine bY (by rw[js,js];simp;omega) ?_
    unfold AN at hc;rw[Lx,Qcz (by simp) (λb hb=>by
     rcases QaI.1 hb with hb|hb
     ·exact mj R b hb
     ·rw[Qaz.1 hb];exact hc) (by simp;omega),af]
    have Zk:jh (dB R++[c])=10*R+(c.toNat-48):=by rw[tJ,qQ,ug];simp;omega
    rw[Zk];refine bw (Qhj (n:=n) (R0:=10*R+(c.toNat-48)) hn h0 (by omega)) ?_
    rintro _ ⟨k,hk,rfl⟩;show post (aQ (kr (k:Int)) _) _;rw[Zs hk,af];refine bY (by rw[js,js];simp;omega) ?_
    rw[Lx];refine⟨_,rfl,λs' e=>?_,λe he=>by cases he⟩
    cases e;refine⟨_,by
     have Zg:(10*R+(c.toNat-48)) % n=jh ((dB m).take (i+1)) % n:=by
      rw[hv,hR,Nat.add_mod,Nat.mul_mod,Nat.mod_mod,<-Nat.mul_mod,<-Nat.add_mod]
     rw[Zg,show(i:Int)+1=((i+1:Nat):Int) by omega],by simp;omega,λb hb=>?_⟩
    rcases QaI.1 hb with hb|hb
    ·exact h2 b hb
    ·rw[Qaz.1 hb];exact Qh5 hk
   ·rintro _ ⟨q,rfl,h1,h2⟩;show post (kq (bP m) (bP n) (bs q) (bP (jh ((dB m).take (dB m).length) % n)) ((dB m).length:Int)) _;unfold kq;rw[show bP m=bs (dB m)from rfl,dE,aR (by rw[eC];omega),QbC,ug]
    refine⟨_,rfl,λs' e=>(by cases e),λe he=>?_⟩
    cases he;exact⟨q,rfl,h1,h2⟩
  ·rintro _ ⟨q,rfl,h1,h2⟩;show post (aQ (lq (bs q)) _) _;have lN:q≠[]:=λe=>by
    have:=qq m;rw[e]at h1;simp at h1;omega
   rw[Qcz lN h2 (by omega),af]
   exact aI.2 rfl
 obtain⟨⟨q,r⟩,h1,h2⟩:=hp;exact⟨q,by rw[h1];simp only at h2;rw[h2]⟩
theorem Qpa{x y:Nat}(hx:dl 4096 x)(hy:dl 4096 y):∃r,pC (bP x) (bP y)=some r:=by
 have hp:post (pC (bP x) (bP y)) λ_=>True:=by
  unfold pC;rw[Qel hx hy,af,aR (by simp)]
  refine bw (R:=λ_=>True) ?_ λ_ _=>aI.2 trivial
  refine xl (λm (s:I×I)=>∃X Y:Nat,s=(bP X,bP Y)/\LC X Y=m/\dl 4096 X/\dl 4096 Y) (LC x y) ⟨x,y,rfl,rfl,hx,hy⟩ ?_ ?_
  ·have h1:=Qik hx;have h2:=Qik hy;unfold LC;split <;> split <;> omega
  ·rintro m _ ⟨X,Y,rfl,h2,h3,h4⟩;show post (qx (bP y) (bP X) (bP Y)) _;unfold qx;rw[E8,show bs (dB 0)=bP 0 from rfl,ZE];refine bg (λh=>⟨_,rfl,λs' e=>(by cases e),λ_ _=>trivial⟩) (λh=>?_)
   have hY:0<Y:=by rw[QeQ]at h;omega
   obtain⟨q,hq⟩:=Qo6 h3 h4 hY;rw[hq,af];refine⟨_,rfl,λs' e=>?_,λe he=>by cases he⟩
   cases e;exact⟨LC Y (X % Y),by rw[<-h2];exact O2 hY,Y,X % Y,rfl,rfl,h4,dl.mono h4 (Qge (Qgu X hY))⟩
 obtain⟨r,h,_⟩:=hp;exact⟨r,h⟩
theorem OQ:(45:UInt8).toNat=45:=rfl
theorem Qgr{l:List UInt8}{f:Nat}{b:UInt8}(hf:f<=l.length)(hl:l.length<=1048576)(Ub:f<=1):
  post (kE (bs l) b (f:Int)) λr=>(r=true↔l.drop f≠[]/\(∀c∈l.drop f,AN c)/\((∀c,l[f]?=some c->c.toNat≠48)\/l=dB 0)):=by
 unfold kE;rw[dE];refine bg (λh=>?_) (λh=>?_)
 ·rw[kp]at h;refine aI.2 ⟨λh=>(by cases h),λ⟨h1,_⟩=>absurd (QiZ (by omega)) h1⟩
 ·rw[rC]at h;have iq:f<l.length:=by omega
  have lN:l.drop f≠[]:=λe=>by have:=List.drop_eq_nil_iff.1 e;omega
  refine bw (R:=λe=>(e=.inl ()/\∀c∈l.drop f,AN c)\/(e=.inr false/\¬∀c∈l.drop f,AN c)) ?_ ?_
  ·refine dP (λs=>∃k:Nat,s=(k:Int)/\f<=k/\k<=l.length/\∀j c,f<=j->j<k->l[j]?=some c->AN c) (λs=>l.length-s.toNat) ⟨f,rfl,fa _,hf,λj c h1 h2=>by omega⟩ (by simp;omega) ?_
   rintro _ ⟨k,rfl,h1,h2,h3⟩;show post (nV (bs l) b (f:Int) (k:Int)) _;unfold nV;rw[dE];refine bg (λhk=>?_) (λhk=>?_)
   ·rw[ew]at hk;have xw:k<l.length:=by omega
    have e:l[k]?=some l[k]:=dr xw;have rF:l[k]∈l.drop f:=by
     rw[QeT];exact⟨k-f,by rw[Qf_,show f+(k-f)=k by omega,e]⟩
    generalize l[k]=c at e rF;rw[uj e,af,dZ (by omega) (by omega)]
    have bad:¬AN c->post (some (Sum.inr (Sum.inr false)):O (Int⊕(Unit⊕Bool))) λx=>(∀s',x=.inl s'->(∃k:Nat,s'=(k:Int)/\f<=k/\k<=l.length/\∀j c,f<=j->j<k->l[j]?=some c->AN c)/\l.length-s'.toNat<l.length-(k:Int).toNat)/\∀e,x=.inr e->((e=.inl ()/\∀c∈l.drop f,AN c)\/(e=.inr false/\¬∀c∈l.drop f,AN c)):=λhc =>
     ⟨_,rfl,λs' e=>(by cases e),λe he=>by cases he;exact .inr ⟨rfl,λo6=>hc (o6 c rF)⟩⟩
    refine bg (λhb=>bad λhd=>?_) (λhb=>bg (λFz=>bad λhd=>?_) (λFz=>?_))
    ·rw[(FB.1 hd).1]at hb;cases hb
    ·rw[(FB.1 hd).2]at Fz;cases Fz
    ·refine⟨_,rfl,λs' e=>?_,λe he=>by cases he⟩
     cases e;refine⟨⟨k+1,by omega,by omega,by omega,λj c' g1 g2 g3=>?_⟩,by omega⟩
     rcases sh j k with g|g
     ·exact h3 j c' g1 g g3
     ·obtain rfl:j=k:=by omega
      rw[e]at g3;cases g3;exact FB.2 ⟨hb,Fz⟩
   ·rw[eC]at hk;refine⟨_,rfl,λs' e=>(by cases e),λe he=>?_⟩
    cases he;refine .inl ⟨rfl,λc hc=>?_⟩
    obtain⟨j,hj⟩:=QeT.1 hc;rw[Qf_]at hj;have:=(pB.1 hj).1;exact h3 (f+j) c (by omega) (by omega) hj
  ·rintro _ (⟨rfl,hd⟩|⟨rfl,hd⟩)
   ·rw[c5];have e:l[f]?=some l[f]:=dr iq;generalize l[f]=c at e;rw[uj e,af,E8,sG];refine aI.2 ?_
    rw[Yj,uA,QbB];unfold cQ;constructor
    ·intro h';refine⟨lN,hd,h'.imp (λg c' CJ=>?_) id⟩
     rw[e]at CJ;cases CJ;omega
    ·rintro⟨_,_,h'⟩;exact h'.imp (λg=>by have:=g c e;omega) id
   ·rw[iJ];exact aI.2 ⟨λh=>(by cases h),λ⟨_,h,_⟩=>absurd h hd⟩
theorem Qgs{l:List UInt8}(hl:l.length<=1048576):post (jK (bs l)) λr=>(r=true↔∃z:Int,l=zB z):=by
 unfold jK;rw[dE];cases l with
 |nil =>
  refine aI.2 ⟨λh=>(by cases h),λ⟨z,h⟩=>?_⟩
  have:=JO z;unfold zB at h;split at h
  ·cases h
  ·have h2:=qq z.natAbs;rw[<-h]at h2;simp at h2
 |cons c r =>
  rw[bk (by rw[oH];simp),show(0:Int)=((0:Nat):Int)from rfl,uj (l:=c ::r) (i:=0) rfl,af]
  refine bg (λhc=>?_) (λhc=>?_)
  ·rw[kp]at hc;have Qsn:c=45:=by
    unfold cQ at hc;exact Qlm.1 (by rw[OQ];omega)
   subst Qsn;refine(Qgr (l:=45 ::r) (f:=1) (by simp) hl (fa _)).mono λx hx=>?_
   rw[hx];rw[show(45 ::r).drop 1=r from rfl];constructor
   ·rintro⟨h1,h2,h3⟩;have lN:¬(45 ::r:List UInt8)=dB 0:=λe=>by
     rw[rA (by omega)]at e
     have:=(Qf5 e).1;exact absurd (QaB UInt8.toNat this) (by decide)
    have h3:=h3.resolve_right lN;cases r with
    |nil=>exact absurd rfl h1
    |cons d r =>
     have Qps:=h3 d rfl;have e:=SB h1 h2 λb r' e hb=>by cases e;exact absurd hb Qps
     have hp:0<jh (d ::r):=by
      rcases QcW (jh (d ::r))with h'|h'
      ·exfalso;rw[h',rA (by omega)]at e
       have:=(Qf5 e).1;subst this;exact Qps (by decide)
      ·exact h'
     refine⟨-(jh (d ::r):Int),?_⟩;unfold zB;rw[if_pos (by omega),Int.natAbs_neg,QlI,<-e]
   ·rintro⟨z,hz⟩;unfold zB at hz;split at hz
    ·rename_i QeX;have hr:=(Qf5 hz).2;subst hr;refine⟨λe=>by have:=qq z.natAbs;rw[e]at this;simp at this,mj _,.inl λc' CJ=>?_⟩
     obtain⟨b,r',e,hb⟩:=BD (n:=z.natAbs) (by omega)
     rw[e]at CJ;cases CJ;omega
    ·exfalso;have:=mj z.natAbs 45 (by rw[<-hz];exact Qbm ..)
     unfold AN at this;rw[OQ]at this;omega
  ·rw[rC]at hc;refine(Qgr (l:=c ::r) (f:=0) (by simp) hl (by omega)).mono λx hx=>?_
   rw[hx,Qjq];constructor
   ·rintro⟨h1,h2,h3⟩;have e:c ::r=dB (jh (c ::r)):=by
     rcases h3 with h3|h3
     ·exact SB h1 h2 λb r' e hb=>by cases e;exact absurd hb (h3 c rfl)
     ·rw[h3,ug]
    refine⟨(jh (c ::r):Int),?_⟩;unfold zB;rw[if_neg (by omega),QlI,<-e]
   ·rintro⟨z,hz⟩;unfold zB at hz;split at hz
    ·exfalso;have:=(Qf5 hz).1;subst this;exact hc (by unfold cQ;rw[OQ];rfl)
    ·refine⟨by simp,by rw[hz];exact mj _,?_⟩
     rcases QcW z.natAbs with h0|h0
     ·right;rw[hz,h0]
     ·left;intro c' CJ;cases CJ;obtain⟨b,r',e,hb⟩:=BD h0;rw[hz.trans e |> Qf5 |>.1];omega
theorem Qhi{z:Int}(h:(dB z.natAbs).length<=1048576):nq (bs (zB z))=some ((dB z.natAbs).length:Int):=by
 have hl:=qq z.natAbs;unfold nq;by_cases hz:z<0
 ·have e:zB z=45 ::dB z.natAbs:=by unfold zB;rw[if_pos hz]
  rw[e,dE,bk (by rw[oH];simp),show(0:Int)=((0:Nat):Int)from rfl,uj (i:=0) rfl,af,bk (by rw[kp];rfl),nd (by simp <;> omega) (by simp <;> omega)]
  simp
 ·have e:zB z=dB z.natAbs:=by unfold zB;rw[if_neg hz]
  have e0:(dB z.natAbs)[0]?=some (dB z.natAbs)[0]:=dr hl;have hd:=mj _ _ (QaH hl);generalize(dB z.natAbs)[0]=c at e0 hd;unfold AN at hd;rw[e,dE,bk (by rw[oH];omega),show(0:Int)=((0:Nat):Int)from rfl,uj e0,af,aR (by rw[rC];unfold cQ;omega)]
theorem YJ{l:List UInt8}(h:l.length<=1048576):iZ (bs l)=some ((Io l).1.length:Int):=by
 unfold iZ;rw[dE];cases l with
 |nil=>rfl
 |cons c r =>
  simp only[QaA]at h;rw[bk (by rw[oH];simp),show(0:Int)=((0:Nat):Int)from rfl,uj (l:=c ::r) (i:=0) rfl,af]
  by_cases hc:c=45
  ·subst hc;rw[bk (by rw[kp];rfl),nd (by simp <;> omega) (by simp <;> omega),WC]
   simp
  ·rw[aR (by
    rw[rC];intro h';unfold cQ at h';exact hc (Qlm.1 (by rw[OQ];omega))),WB hc]
def dv(c:UInt8):Int:=Bn .i64 (cX .u8 (cQ c) 48)
theorem Qho{c:UInt8}(h:AN c):dv c=(c.toNat:Int)-48:=by
 unfold AN at h;unfold dv;have:cX .u8 (cQ c) 48=cQ c-48:=by
  unfold cX cQ;rw[IntKind.wrap_u8];omega
 rw[this];unfold cQ;rw[cvI (by omega) (by omega)]
theorem Qi6{l:List Int}(hl:l.length<=1048576)(h0:∀i a,l=i++[a]->a≠0):qf l=some l:=by
 unfold qf;have e1:aL (λs=>pG l s) (ay l)=some (ay l):=by
  refine Ar 1 (by decide) ?_
  simp only[sC];unfold pG ay;rcases RT l with rfl|⟨i,a,rfl⟩
  ·rfl
  ·have lN:=h0 i a rfl;simp only[Qay,QeU]at hl ⊢;rw[bk (by rw[oH];omega),nd (by omega) (by omega),show(((i.length+1:Nat):Int)-1)=((i.length:Nat):Int) by omega,bB (a:=a) (by simp),af,aR (by rw[rC];exact lN)]
 rw[cN e1];unfold wm ay;rw[if_pos ⟨by omega,by omega,QaJ _⟩,af]
 simp
theorem QkO{z:Int}(h:dl 4096 z.natAbs)(hz:z≠0):∃b,rJ (bs (zB z))=some (b,(dB z.natAbs).reverse.map dv):=by
 have hlen:(dB z.natAbs).length<=4096:=h;have hL:=JO z;obtain⟨pre,Qe0,hp⟩:∃pre:List UInt8,zB z=pre++dB z.natAbs/\(pre=[]\/pre=[45]):=by
  unfold zB;split
  ·exact⟨[45],rfl,.inr rfl⟩
  ·exact⟨[],rfl,.inl rfl⟩
 have y9:∃c,(zB z)[0]?=some c:=by
  have h2:=qq z.natAbs;have:0<(zB z).length:=by rw[Qe0,Qay];omega
  exact⟨_,dr this⟩
 obtain⟨c0,kZ⟩:=y9;unfold rJ;rw[show(0:Int)=((0:Nat):Int)from rfl,uj kZ,af];have Ao:aL (λs=>gC (bs (zB z)) c0 s.1 s.2) ([],cX .i64 (ca (bs (zB z))) 1)=some ((dB z.natAbs).reverse.map dv):=by
  apply post.eq;generalize hX:zB z=X at *;have hXl:X.length<=4098:=by omega
  refine p6 X.length (by omega) (λ(k:Nat) (s:List Int×Int)=>s=((((X.drop (X.length-k)).filter λc=>decide (c≠45)).reverse.map dv),(X.length:Int)-1-k)) (by rw[Qgc,Qjk,dE,nd (by omega) (by omega)];simp) ?_ ?_
  ·rintro k _ hk rfl;show post (gC (bs X) c0 _ ((X.length:Int)-1-k)) _;unfold gC;have hi:X.length-1-k<X.length:=by omega
   have e:X[X.length-1-k]?=some X[X.length-1-k]:=dr hi;have hd:X.drop (X.length-(k+1))=X[X.length-1-k] ::X.drop (X.length-k):=by
    rw[show X.length-(k+1)=X.length-1-k by omega,Qfa hi,show X.length-1-k+1=X.length-k by omega]
   rw[hd];generalize X[X.length-1-k]=c at e;rw[show((X.length:Int)-1-k)=((X.length-1-k:Nat):Int) by omega,bk (by rw[gX];omega),uj e,af,nd (by omega) (by omega)]
   have H4:((X.drop (X.length-k)).filter λc=>decide (c≠45)).length<=X.length:=by
    refine QaE (QmD ..) ?_
    rw[Qk0];omega
   refine bg (λhb=>?_) (λhb=>?_)
   ·have hc:c≠45:=λe=>by rw[e,uA]at hb;exact hb rfl
    refine bY (by unfold fQ;simp only[Qay,Qbn,List.length_reverse,QeU];omega) ?_
    refine cZ (C:=λs'=>_) ?_
    rw[Qma (by simpa using hc),Qkv,Qh0]
    refine Prod.ext rfl ?_
    show((X.length-1-k:Nat):Int)-1=_;omega
   ·have hc:c=45:=by
     rw[vu]at hb;unfold cQ at hb;exact Qlm.1 (by rw[OQ];omega)
    refine cZ (C:=λs'=>_) ?_
    rw[Qlv (by simpa using hc)]
    refine Prod.ext rfl ?_
    show((X.length-1-k:Nat):Int)-1=_;omega
  ·rintro _ rfl;show post (gC (bs X) c0 _ ((X.length:Int)-1-X.length)) _;unfold gC;rw[aR (by rw[A7];omega),Qkh,Qjq]
   refine dd ?_
   have Nj:(dB z.natAbs).filter (λc=>decide (c≠45))=dB z.natAbs:=QlF.2 λc hc=>by
    have:=mj _ c hc;unfold AN at this;simp only[QhY];intro e;rw[e,OQ]at this;omega
   rw[Qe0,QmR,Nj];rcases hp with rfl|rfl <;> rfl
 rw[cN Ao,Qi6 (by simp;omega) λi a e=>?_,af]
 ·exact⟨_,rfl⟩
 ·obtain⟨b,r,e2,hb⟩:=BD (n:=z.natAbs) (by omega)
  rw[e2,Qkv,Qh0]at e;have:=(List.append_inj' e rfl).2;have ha:dv b=a:=(Qf5 this).1;rw[<-ha,Qho (mj z.natAbs b (by rw[e2];exact Qbm ..))]
  omega
theorem Qn2{n:Nat}(h:dl 4096 n)(h0:0<n):tj false ((dB n).reverse.map dv)=some (bP n):=by
 have hlen:(dB n).length<=4096:=h;have SY:=qq n;unfold tj;rw[Qi6 (by simp;omega) λi a e=>?_,af]
 ·rw[aR (by rw[rC];unfold ay;simp only[Qbn,List.length_reverse];omega),aR rfl]
  unfold pF;obtain⟨R,hR⟩:∃R,R=(dB n).reverse.map dv:=⟨_,rfl⟩;rw[<-hR];have O5:R.length=(dB n).length:=by rw[hR];simp
  have Ao:aL (λs=>hG R R s.1 s.2) ([],cX .i64 (ay R) 1)=some (R.reverse.map λx=>Bn .u8 (aV .i64 48 x)):=by
   apply post.eq;refine p6 R.length (by omega) (λ(k:Nat) (s:List Int×Int)=>s=(((R.drop (R.length-k)).reverse.map λx=>Bn .u8 (aV .i64 48 x)),(R.length:Int)-1-k)) (by rw[Qgc,Qjk];unfold ay;rw[nd (by omega) (by omega)];simp) ?_ ?_
   ·rintro k _ hk rfl;show post (hG R R _ ((R.length:Int)-1-k)) _;unfold hG;have hi:R.length-1-k<R.length:=by omega
    have e:R[R.length-1-k]?=some R[R.length-1-k]:=dr hi;have hd:R.drop (R.length-(k+1))=R[R.length-1-k] ::R.drop (R.length-k):=by
     rw[show R.length-(k+1)=R.length-1-k by omega,Qfa hi,show R.length-1-k+1=R.length-k by omega]
    rw[hd];generalize R[R.length-1-k]=c at e;rw[show((R.length:Int)-1-k)=((R.length-1-k:Nat):Int) by omega,bk (by rw[gX];omega),bB e,af,nd (by omega) (by omega)]
    refine bY (by unfold fQ;simp only[Qay,Qbn,List.length_reverse,QeU,Qk0];omega) ?_
    refine cZ (C:=λs'=>_) ?_
    rw[Qkv,Qh0];refine Prod.ext rfl ?_
    show((R.length-1-k:Nat):Int)-1=_;omega
   ·rintro _ rfl;show post (hG R R _ ((R.length:Int)-1-R.length)) _;unfold hG;rw[aR (by rw[A7];omega),Qkh,Qjq]
    exact dd rfl
  rw[cN Ao];congr 1;unfold wC bP bs;congr 2;rw[hR,<-List.map_reverse,List.reverse_reverse,List.map_map,List.map_map]
  conv=>rhs;rw[<-List.map_id (dB n)]
  refine List.map_congr_left λc hc=>?_
  have hd:=mj n c hc;have hv:=Qho hd;unfold AN at hd;show UInt8.ofNat (Bn .u8 (aV .i64 48 (dv c))).toNat=c;rw[hv,dZ (by omega) (by omega)]
  unfold Bn;rw[IntKind.wrap_u8];apply Qlm.1;rw[UInt8.toNat_ofNat'];omega
 ·obtain⟨b,r,e2,hb⟩:=BD h0;rw[e2,Qkv,Qh0]at e;have:=(List.append_inj' e rfl).2;have ha:dv b=a:=(Qf5 this).1;rw[<-ha,Qho (mj n b (by rw[e2];exact Qbm ..))]
  omega
theorem QoV{z:Int}(h:dl 4096 z.natAbs)(hz:z≠0):rI (bs (zB z))=some (bP z.natAbs,0):=by
 have hlen:(dB z.natAbs).length<=4096:=h;have hL:=JO z;have hr:jK (bs (zB z))=some true:=by
  obtain⟨b,h1,h2⟩:=Qgs (l:=zB z) (by omega)
  rw[h1,h2.2 ⟨z,rfl⟩]
 obtain⟨b,hp⟩:=QkO h hz;unfold rI uW;rw[hr,af,dT,af,dT,Qhi (by omega),af,aR (by rw[iu];omega),af,aR (by rw[iu];omega),af,aR (by simp),hp,af,Qn2 h (by omega),af]
theorem QhD{l:List UInt8}(hl:l.length<=1048576):post (qy (bs l)) λr=>∃p q,r.1=bs p/\r.2.1=bs q/\p.length<=1048576/\q.length<=1048576:=by
 unfold qy;refine bw (R:=λe=>e=.inl ()\/∃p q c,e=.inr (bs p,bs q,c)/\p.length<=1048576/\q.length<=1048576) ?_ ?_
 ·refine dP (λs=>∃k:Nat,s=(k:Int)/\k<=l.length) (λs=>l.length-s.toNat) ⟨0,rfl,QaD _⟩ (by simp;omega) ?_
  rintro _ ⟨k,rfl,hk⟩;show post (mJ (bs l) (k:Int)) _;unfold mJ;rw[dE];refine bg (λh=>?_) (λh=>⟨_,rfl,λs' e=>(by cases e),λe he=>by cases he;exact .inl rfl⟩)
  rw[ew]at h;have e:l[k]?=some l[k]:=dr (by omega)
  generalize l[k]=c at e;rw[uj e,af,dZ (by omega) (by omega)]
  refine bg (λ_=>?_) (λ_=>?_)
  ·have s1:xu (bs l) 0 (k:Int)=some ():=zX (QaD _) (by omega)
   have s2:xu (bs l) ((k:Int)+1) (l.length:Int)=some ():=by
    rw[show(k:Int)+1=((k+1:Nat):Int) by omega]
    exact zX (by omega) (fa _)
   rw[s1,af,s2,af,xz,xz];refine⟨_,rfl,λs' e=>(by cases e),λe he=>?_⟩
   cases he;exact .inr ⟨_,_,_,rfl,by simp;omega,by simp;omega⟩
  ·refine⟨_,rfl,λs' e=>?_,λe he=>by cases he⟩
   cases e;exact⟨⟨k+1,by omega,by omega⟩,by omega⟩
 ·rintro _ (rfl|⟨p,q,c,rfl,h1,h2⟩)
  ·rw[c5];exact aI.2 ⟨l,dB 1,rfl,Z7,hl,by rw[rA (by omega)];simp⟩
  ·rw[iJ];exact aI.2 ⟨p,q,rfl,rfl,h1,h2⟩
theorem QjK{l:List UInt8}(hl:l.length<=1048576):∃b,o_ (bs l)=some b:=by
 have hp:post (o_ (bs l)) λ_=>True:=by
  unfold o_;refine bw (QhD hl) ?_
  rintro⟨p',q',c⟩ ⟨p,q,e1,e2,h1,h2⟩;simp only at e1 e2;subst e1 e2;refine bw (Qgs h1) λr1 QT=>bg (λg1=>?_) (λ_=>aI.2 trivial)
  obtain⟨z,rfl⟩:=QT.1 g1;obtain⟨r2,f1,f2⟩:=Qgq h2;show post (aQ (fR (bs q)) _) _;rw[f1,af];refine bg (λg2=>?_) (λ_=>aI.2 trivial)
  obtain⟨n,rfl⟩:=f2.1 g2;show post (aQ (iZ (bs (zB z))) _) _;rw[YJ h1,af,C8];refine bg (λ_=>aI.2 trivial) (λg3=>?_)
  show post (aQ (iZ (bs (dB n))) _) _;rw[YJ h2,af,Ip];refine bg (λ_=>aI.2 trivial) (λg4=>?_)
  rw[iu]at g3 g4;have d1:dl 4096 z.natAbs:=by show(dB z.natAbs).length<=4096;simp only at g3;omega
  have d2:dl 4096 n:=by show(dB n).length<=4096;simp only at g4;omega
  refine bg (λ_=>bg (λ_=>aI.2 trivial) (λg5=>?_)) (λ_=>aI.2 trivial)
  have hz:z≠0:=λe=>by
   subst e;rw[Ja,Ja]at g5;have:=g5.1.1;rw[E8,sG,show zB 0=dB 0 from rfl]at this;simp at this
  show post (aQ (rI (bs (zB z))) _) _;rw[QoV d1 hz,af];obtain⟨r,hr⟩:=Qpa d1 d2;show post (aQ (pC (bP z.natAbs) (bP n)) _) _;rw[hr,af];exact aI.2 trivial
 obtain⟨b,h,_⟩:=hp;exact⟨b,h⟩
theorem rl.more{j k:Nat}{r:Rat}(h:rl j r)(hk:j<=k):rl k r:=⟨dl.more h.num hk,dl.more h.den hk⟩
theorem QqI{k:Nat}{p:Int}{q:Nat}(hq:q≠0)(hp:zl k p)(hd:dl k q):rl k (mkRat p q):=by
 obtain⟨m1,m2⟩:=Qir (p:=p) hq;have iG:dl k p.natAbs:=hp;refine⟨?_,?_⟩
 ·show dl k (mkRat p q).num.natAbs;rw[m1,Int.natAbs_ediv_of_dvd (Int.ofNat_dvd_left.2 (Nat.gcd_dvd_left _ _))];exact dl.mono iG (Qf3 _ _)
 ·rw[m2];exact dl.mono hd (Qf3 _ _)
theorem PI{j k:Nat}{a b:Rat}(ha:rl j a)(hb:rl k b):rl (j+k+1) (a+b):=by
 have e:=Rat.mkRat_add_mkRat a.num b.num a.den_nz b.den_nz;rw[Qlp,Qlp]at e;rw[e];have h1:dl (j+k) (a.num*b.den).natAbs:=by rw[Int.natAbs_mul];exact dl.mul ha.num hb.den
 have h2:dl (j+k) (b.num*a.den).natAbs:=by rw[Int.natAbs_mul,QfY j k];exact dl.mul hb.num ha.den
 exact QqI (Nat.mul_ne_zero a.den_nz b.den_nz) (dl.mono (dl.add h1 h2) (Int.natAbs_add_le _ _)) ((dl.mul ha.den hb.den).more (by omega))
theorem QnR{k:Nat}{a:Rat}(h:rl k a):rl k (-a):=⟨by show dl k (-a).num.natAbs;rw[Rat.neg_num,Int.natAbs_neg];exact h.num,by rw[Rat.neg_den];exact h.den⟩
theorem Qcj{j k:Nat}{a b:Rat}(ha:rl j a)(hb:rl k b):rl (j+k+1) (a-b):=by
 rw[Rat.sub_eq_add_neg];exact PI ha (QnR hb)
theorem Mg{n:Nat}(h:n<=9223372036854775807):rl 19 (((n:Nat):Int):Rat):=by
 refine⟨?_,?_⟩
 ·show dl 19 ((((n:Nat):Int):Rat).num.natAbs);rw[show(((n:Nat):Int):Rat).num=(n:Int)from rfl,QlI];exact M7 (by omega) (by omega)
 ·show dl 19 1;exact M7 (by omega) (by omega)
theorem QkW{l:List UInt8}{r:Rat}(h:bs l=jG r)(hl:l.length<=20):rl 20 r:=by
 have hd:=qq r.den;unfold jG at h;split at h
 ·rename_i h1;rw[JP]at h;have e:=Ly h;have hz:(dB r.num.natAbs).length<=(zB r.num).length:=by unfold zB;split <;> simp
  rw[<-e]at hz;exact⟨QaE hz hl,by rw[h1];exact M7 (by omega) (by omega)⟩
 ·have e:=Ly h;have hz:(dB r.num.natAbs).length<=(zB r.num).length:=by unfold zB;split <;> simp
  have hlen:=QaB List.length e;simp only[Qay,QaA]at hlen;exact⟨by show(dB r.num.natAbs).length<=20;omega,by show(dB r.den).length<=20;omega⟩
theorem Qg8{a b:Rat}(ha:rl 4095 a)(hb:rl 4095 b):∃c,jn (jG a) (jG b)=some c/\(c<=0↔a<=b):=by
 refine⟨_,Qb ha hb,?_⟩;rw[Rat.le_iff];unfold Go.Lib.compareInt;split
 ·rename_i h;exact⟨λ_=>Int.le_of_lt h,λ_=>by omega⟩
 ·rename_i h;split
  ·rename_i h2;exact⟨λh'=>by omega,λh'=>by omega⟩
  ·exact⟨λ_=>by omega,λ_=>by omega⟩
theorem MG{w:ax}{a:Rat}{n:Nat}(ha:rl 1000 a)(hn:n<=9223372036854775807):gy w (jG a) (n:Int)=some (jG (a+((n:Int):Rat))):=by
 unfold gy;rw[Qgp hn,af,Qjv ha ((Mg hn).more (by omega)),af]
section
variable {α : Type}
theorem Zm{l:List α}(hl:l.length<=1048576)(p:α->Bool){B:Int->O (Int⊕(Unit⊕Int))}
  (qc:∀(i:Nat) a,l[i]?=some a->B (i:Int)=some (if p a=true then .inr (.inr (i:Int))else .inl ((i:Int)+1))) (Bp:B (l.length:Int)=some (.inr (.inl ()))):
  ∃e,aL B 0=some e/\(l.any p=true->∃k:Nat,e=.inr (k:Int))/\(l.any p=false->e=.inl ()):=by
 have h:post (aL B 0) λe=>(e=.inl ()/\l.any p=false)\/(∃k:Nat,e=.inr (k:Int)/\l.any p=true):=by
  refine dP (λs=>∃k:Nat,s=(k:Int)/\k<=l.length/\∀(j:Nat) a,j<k->l[j]?=some a->p a=false) (λs=>l.length-s.toNat) ⟨0,rfl,QaD _,λj a h=>by omega⟩ (by simp;omega) ?_
  rintro _ ⟨k,rfl,hk,hp⟩;rcases sh k l.length with h|h
  ·have e:l[k]?=some l[k]:=dr h;have hm:=QaH h;generalize l[k]=a at e hm;rw[qc k a e];by_cases ha:p a=true
   ·rw[if_pos ha];refine⟨_,rfl,λs' e=>(by cases e),λe he=>?_⟩
    cases he;exact .inr ⟨k,rfl,Qf0.2 ⟨a,hm,ha⟩⟩
   ·rw[if_neg ha];refine⟨_,rfl,λs' e'=>?_,λe he=>by cases he⟩
    cases e';refine⟨⟨k+1,by omega,by omega,λj b hj hb=>?_⟩,by omega⟩
    rcases sh j k with g|g
    ·exact hp j b g hb
    ·obtain rfl:j=k:=by omega
     rw[e]at hb;cases hb;simpa using ha
  ·obtain rfl:k=l.length:=by omega
   rw[Bp];refine⟨_,rfl,λs' e=>(by cases e),λe he=>?_⟩
   cases he;refine .inl ⟨rfl,?_⟩;rw[QeP];intro a ha;obtain⟨j,hj⟩:=QeT.1 ha;have:=hp j a ((pB.1 hj).1) hj;simp [this]
 obtain⟨e,h1,h2⟩:=h;refine⟨e,h1,λha=>?_,λha=>?_⟩
 ·rcases h2 with⟨_,h⟩|⟨k,h,_⟩
  ·rw[ha]at h;cases h
  ·exact⟨k,h⟩
 ·rcases h2 with⟨h,_⟩|⟨k,_,h⟩
  ·exact h
  ·rw[ha]at h;cases h
end
def zD(c d:ag):Bool:=dk c.ready d.ready&&gB c.cz d.cz
theorem Wy{c d:ag}:zD c d=true↔c.ready=d.ready/\c.cz<=d.cz:=by
 unfold zD;rw[Ae,kp,xa]
theorem Qha{l:List ag}(hl:l.length<=1048576)(c:ag):cq l c=some (l.any λd=>zD d c):=by
 obtain⟨e,h1,h2,h3⟩:=Zm (B:=λs=>bL l c s) hl (λd=>zD d c) (λi a h=>by
  have hi:=(pB.1 h).1;show bL l c (i:Int)=_;unfold bL yL kC;rw[bk (by rw[ew];unfold ay;omega),bB h,af,af,af,dZ (by omega) (by omega),GJ]
  unfold zD;split <;> rfl) (by
  show bL l c (l.length:Int)=_;unfold bL;rw[aR (by rw[eC];unfold ay;omega)])
 unfold cq dM;rw[cN h1];cases ha:l.any λd=>zD d c with
 |true =>
  obtain⟨k,rfl⟩:=h2 ha;rw[iJ,af];exact QaB some (gX.2 (by omega))
 |false =>
  rw[h3 ha,c5,af];rfl
theorem Qg_{l:List ag}(hl:l.length<=1048576)(c:ag):cu l c=some (l.any λd=>zD d c):=by
 obtain⟨e,h1,h2,h3⟩:=Zm (B:=λs=>bO l c s) hl (λd=>zD d c) (λi a h=>by
  have hi:=(pB.1 h).1;show bO l c (i:Int)=_;unfold bO p7 kC;rw[bk (by rw[ew];unfold ay;omega),bB h,af,af,af,dZ (by omega) (by omega),GJ]
  unfold zD;split <;> rfl) (by
  show bO l c (l.length:Int)=_;unfold bO;rw[aR (by rw[eC];unfold ay;omega)])
 unfold cu dQ;rw[cN h1];cases ha:l.any λd=>zD d c with
 |true =>
  obtain⟨k,rfl⟩:=h2 ha;rw[iJ,af];exact QaB some (gX.2 (by omega))
 |false =>
  rw[h3 ha,c5,af];rfl
def GY(b:Int)(c:ag):Prop:=0<=c.ready/\c.ready<=b/\0<=c.cz/\c.cz<=4096
section
variable (n : aC) (t : av) (a b : Int)
def um(s:List ag×Int)(c:ag):List ag×Int:=
 if(goN n t.aJ a b c.ready).2.2=0/\c.cz+(goN n t.aJ a b c.ready).1-c.ready<=t.eu then(s.1++[ag.mk (goN n t.aJ a b c.ready).1 (c.cz+(goN n t.aJ a b c.ready).1-c.ready)],(goN n t.aJ a b c.ready).2.1)else s
def Bf(c:ag):ag:=ag.mk (c.ready+t.bJ) 0
def uR(l:List ag):List ag×Int:=l.foldl (λs c=>um n t a b (um n t a b s c) (Bf t c)) ([],0)
end
section
variable {n : aC} {t : av} {a b : Int} {w : ax} {p : ah}
theorem Na{s:List ag×Int}{c:ag}:(um n t a b s c).1.length<=s.1.length+1:=by
 unfold um;split <;> simp
theorem Qhn(hn:Ef n)(hw:w.x.bV=n)(Yg:w.t=t)(hp:p.place=a){l:List ag}{v v1 m:Int}{l1:List ag}{c:ag}(hc:0<=c.ready/\c.ready<=16384/\0<=c.cz/\c.cz<=4096)(hd:t.eu<=4096)(hl:l1.length<=1000000)(hv:0<=v1/\v1<=2):
  jl w p b l v l1 m v1 c=some (.inl ((um n t a b (l1,m) c).1,c,(um n t a b (l1,m) c).2,v1+1)):=by
 have qc:QW c.ready:=⟨hc.1,by omega⟩
 unfold jl um;rw[hw,Yg,hp,go_eq hn _ _ _ qc,af];by_cases h0:(goN n t.aJ a b c.ready).2.2=0
 ·have hb:=AK hn qc h0;rw[dZ (a:=c.cz) (by omega) (by omega),nd (by omega) (by omega),dZ (a:=v1) (by omega) (by omega)]
  by_cases h1:c.cz+(goN n t.aJ a b c.ready).1-c.ready<=t.eu
  ·rw[if_pos ⟨h0,h1⟩,bk (by rw[Ae,kp,xa];exact⟨h0,h1⟩),eU (by unfold fQ;simp only[Qay,QeU];omega)]
  ·rw[if_neg λh=>h1 h.2,aR (by rw[Wj,S5];exact .inr (by omega))]
 ·rw[if_neg λh=>h0 h.1,aR (by rw[Wj,rC];exact .inl h0),dZ (by omega) (by omega)]
theorem YM(hn:Ef n)(hw:w.x.bV=n)(Yg:w.t=t)(hp:p.place=a)(hd:t.eu<=4096)(hr:0<=t.bJ/\t.bJ<=4096)(hl:p.fi.length<=10000)(hc:∀c∈p.fi,GY 8192 c):
  jH w p b=some ((uR n t a b p.fi).1,(uR n t a b p.fi).2,w):=by
 unfold jH;have Ao:aL (λs:List ag×Int×Int=>fM w p b s.1 s.2.1 s.2.2) ([],0,0)=some (uR n t a b p.fi):=by
  refine post.eq (p6 p.fi.length (by omega) (λ(k:Nat) (s:List ag×Int×Int)=>s=((uR n t a b (p.fi.take k)).1,(uR n t a b (p.fi.take k)).2,(k:Int))/\(uR n t a b (p.fi.take k)).1.length<=2*k) ⟨rfl,QaD _⟩ ?_ ?_)
  ·rintro k _ hk ⟨rfl,hlen⟩;have e:p.fi[k]?=some p.fi[k]:=dr hk;have hm:=hc _ (QaH hk);have TX:uR n t a b (p.fi.take (k+1))=um n t a b (um n t a b (uR n t a b (p.fi.take k)) p.fi[k]) (Bf t p.fi[k]):=by
    unfold uR;rw[Qdp,e,Qhq];rfl
   generalize p.fi[k]=c at e hm TX;obtain⟨c0,c1,c2,c3⟩:=hm;rw[TX];generalize uR n t a b (p.fi.take k)=D at hlen;show post (fM w p b D.1 D.2 (k:Int)) _;unfold fM;rw[bk (by rw[ew];unfold ay;omega),bB e,af]
   have l1:=Na (n:=n) (t:=t) (a:=a) (b:=b) (s:=D) (c:=c);have l2:=Na (n:=n) (t:=t) (a:=a) (b:=b) (s:=um n t a b D c) (c:=Bf t c);have j1:=Qhn (w:=w) (p:=p) (b:=b) hn hw Yg hp (l:=D.1) (v:=(k:Int)) (v1:=0) (m:=D.2) (l1:=D.1) (c:=c) ⟨c0,by omega,c2,c3⟩ hd (by omega) (by omega)
   have j2:=Qhn (w:=w) (p:=p) (b:=b) hn hw Yg hp (l:=D.1) (v:=(k:Int)) (v1:=1) (m:=(um n t a b D c).2) (l1:=(um n t a b D c).1) (c:=Bf t c) ⟨by show 0<=c.ready+t.bJ;omega,by show c.ready+t.bJ<=16384;omega,QaJ _,by show(0:Int)<=4096;omega⟩ hd (by omega) (by omega)
   have qc:aL (λs:List ag×ag×Int×Int=>eS w p b D.1 (k:Int) s.1 s.2.1 s.2.2.1 s.2.2.2) (D.1,c,D.2,0)=some (um n t a b (um n t a b D c) (Bf t c)):=by
    refine Ar 3 (by decide) ?_
    have s1:eS w p b D.1 (k:Int) D.1 c D.2 0=some (.inl ((um n t a b D c).1,c,(um n t a b D c).2,1)):=by
     unfold eS;rw[bk (b:=bh 0 (ay [false,true])) rfl,show bn [false,true] 0=some false from rfl,af,dX];exact j1
    have s2:eS w p b D.1 (k:Int) (um n t a b D c).1 c (um n t a b D c).2 1=some (.inl ((um n t a b (um n t a b D c) (Bf t c)).1,Bf t c,(um n t a b (um n t a b D c) (Bf t c)).2,2)):=by
     unfold eS;rw[bk (b:=bh 1 (ay [false,true])) rfl,show bn [false,true] 1=some true from rfl,af,dT,Yg,dZ (by omega) (by omega)]
     exact j2
    have s3:∀(L:List ag) (q:ag) (m:Int),eS w p b D.1 (k:Int) L q m 2=some (.inr (L,m)):=λL q m=>by
     unfold eS;rw[aR (b:=bh 2 (ay [false,true])) rfl]
    simp only[sC,s1,s2,s3]
   rw[cN qc,dZ (by omega) (by omega)]
   refine cZ (C:=λs'=>_) ⟨?_,by omega⟩
   rw[show(k:Int)+1=((k+1:Nat):Int) by omega]
  ·rintro _ ⟨rfl,hlen⟩;show post (fM w p b _ _ (p.fi.length:Int)) _;unfold fM;rw[aR (by rw[eC];unfold ay;omega),QbC]
   exact dd rfl
 rw[cN Ao]
theorem U9(s u:Int):(goN n t.aJ a b s).2.1=(goN n t.aJ a b u).2.1:=by
 unfold goN;split
 ·split
  ·rfl
  ·split <;> rfl
 ·rfl
structure QrJ (l:List ag) (r:List ag×Int):Prop where
 len:r.1.length<=2*l.length
 BY:∀c∈r.1,GY 98304 c
 all:∀c∈l,∀d,(d=c\/d=Bf t c)->(goN n t.aJ a b d.ready).2.2=0->d.cz+(goN n t.aJ a b d.ready).1-d.ready<=t.eu->ag.mk (goN n t.aJ a b d.ready).1 (d.cz+(goN n t.aJ a b d.ready).1-d.ready)∈r.1
 cV:r.1≠[]->r.2=(goN n t.aJ a b 0).2.1
 Xn:0<=r.2/\r.2<=10000
theorem SD{s:List ag×Int}{c d:ag}(h:d∈s.1):d∈(um n t a b s c).1:=by
 unfold um;split
 ·exact Qf9 _ h
 ·exact h
theorem YN{s:List ag×Int}{c:ag}(h0:(goN n t.aJ a b c.ready).2.2=0)(h1:c.cz+(goN n t.aJ a b c.ready).1-c.ready<=t.eu):ag.mk (goN n t.aJ a b c.ready).1 (c.cz+(goN n t.aJ a b c.ready).1-c.ready)∈(um n t a b s c).1:=by
 unfold um;rw[if_pos ⟨h0,h1⟩];exact QhL _ (Qaz.2 rfl)
def Qjz(s:List ag×Int):Prop:=(∀c∈s.1,GY 98304 c)/\(s.1≠[]->s.2=(goN n t.aJ a b 0).2.1)/\0<=s.2/\s.2<=10000
theorem Qhl(hn:Ef n)(hd:t.eu<=4096){s:List ag×Int}{c:ag}(hc:0<=c.ready/\c.ready<=16384/\0<=c.cz)(h:Qjz (n:=n) (t:=t) (a:=a) (b:=b) s):Qjz (n:=n) (t:=t) (a:=a) (b:=b) (um n t a b s c):=by
 unfold um;split
 ·rename_i h0;obtain⟨h0,h1⟩:=h0;have hb:=AK hn ⟨hc.1,by omega⟩ h0
  refine⟨λd gm=>?_,λ_=>U9 _ _,hb.2.2.1,hb.2.2.2⟩
  rcases QaI.1 gm with gm|gm
  ·exact h.1 d gm
  ·rw[Qaz.1 gm];exact⟨by show 0<=(goN n t.aJ a b c.ready).1;omega,by show(goN n t.aJ a b c.ready).1<=98304;omega,by show 0<=c.cz+(goN n t.aJ a b c.ready).1-c.ready;omega,by show c.cz+(goN n t.aJ a b c.ready).1-c.ready<=4096;omega⟩
 ·exact h
theorem Qhm(hn:Ef n)(hd:t.eu<=4096)(hr:0<=t.bJ/\t.bJ<=4096):∀(l:List ag) (s:List ag×Int),(∀c∈l,GY 8192 c)->Qjz (n:=n) (t:=t) (a:=a) (b:=b) s->
  let r:=l.foldl (λs c=>um n t a b (um n t a b s c) (Bf t c)) s
  r.1.length<=s.1.length+2*l.length/\Qjz (n:=n) (t:=t) (a:=a) (b:=b) r/\(∀d∈s.1,d∈r.1)/\∀c∈l,∀d,(d=c\/d=Bf t c)->(goN n t.aJ a b d.ready).2.2=0->d.cz+(goN n t.aJ a b d.ready).1-d.ready<=t.eu->ag.mk (goN n t.aJ a b d.ready).1 (d.cz+(goN n t.aJ a b d.ready).1-d.ready)∈r.1
 | [],s,_,hq=>⟨by simp,hq,λd h=>h,λc h=>by cases h⟩
 |c ::l,s,hl,hq=>by
  intro r;obtain⟨c0,c1,c2,c3⟩:=hl c (Qbm ..);have q1:=Qhl (a:=a) (b:=b) hn hd (c:=c) ⟨c0,by omega,c2⟩ hq
  have q2:=Qhl (a:=a) (b:=b) hn hd (c:=Bf t c) ⟨by show 0<=c.ready+t.bJ;omega,by show c.ready+t.bJ<=16384;omega,QaJ _⟩ q1
  obtain⟨h1,h2,h3,h4⟩:=Qhm hn hd hr l _ (λc h=>hl c (QaK _ h)) q2
  have l1:=Na (n:=n) (t:=t) (a:=a) (b:=b) (s:=s) (c:=c);have l2:=Na (n:=n) (t:=t) (a:=a) (b:=b) (s:=um n t a b s c) (c:=Bf t c);refine⟨?_,h2,λd gm=>h3 d (SD (SD gm)),λc' CJ d gm g0 g1=>?_⟩
  ·refine QaE h1 ?_
   simp only[QaA];omega
  ·rcases Qbt.1 CJ with rfl|CJ
   ·rcases gm with rfl|rfl
    ·exact h3 _ (SD (YN g0 g1))
    ·exact h3 _ (YN g0 g1)
   ·exact h4 c' CJ d gm g0 g1
theorem Fx(hn:Ef n)(hd:t.eu<=4096)(hr:0<=t.bJ/\t.bJ<=4096){l:List ag}(hl:∀c∈l,GY 8192 c):QrJ (n:=n) (t:=t) (a:=a) (b:=b) l (uR n t a b l):=by
 obtain⟨h1,h2,_,h4⟩:=Qhm (a:=a) (b:=b) hn hd hr l ([],0) hl ⟨λc h=>(by cases h),λh=>absurd rfl h,QaJ _,by omega⟩
 exact⟨QaE h1 (by simp),h2.1,h4,h2.2.1,h2.2.2⟩
end
section
variable (st : aS)
def Us(c:ag):ag:=ag.mk (max c.ready st.bA+st.dG) c.cz
def Cz(out:List ag)(c:ag):List ag:=
 if st.bI<c.ready then out else if out.any (λd=>zD d (Us st c))=true then out else(out.filter λd=>!zD (Us st c) d)++[Us st c]
end
section
variable {st : aS}
theorem YI{f:ag->O Bool}{p:ag->Bool}:∀{l:List ag},(∀y∈l,f y=some (p y))->YH f l=some (l.filter λy=>!p y)
 | [],_=>rfl
 |a ::r,h=>by
  have ih:=YI (l:=r) λy hy=>h y (QaK _ hy)
  unfold YH;rw[h a (Qbm ..),ih];show some (if p a=true then _ else _)=_
  cases hp:p a with
  |true=>rw[if_pos rfl,Qlv (by rw[hp];simp)]
  |false=>rw[if_neg (by simp),Qma (by rw[hp];rfl)]
theorem Z9{out:List ag}{c:ag}:(Cz st out c).length<=out.length+1:=by
 unfold Cz;split
 ·omega
 ·split
  ·omega
  ·rw[Qay];have:=QmD (λd=>!zD (Us st c) d) out
   simp only[QeU];omega
theorem QfC(hs:Tr st){l:List ag}(hl:l.length<=100000)(hc:∀c∈l,0<=c.ready/\c.ready<=1048576):u5 l st=some (l.foldl (Cz st) []):=by
 unfold u5;have Ao:aL (λs:List ag×Int=>lu l st s.1 s.2) ([],0)=some (l.foldl (Cz st) []):=by
  refine post.eq (p6 l.length (by omega) (λ(k:Nat) (s:List ag×Int)=>s=((l.take k).foldl (Cz st) [],(k:Int))/\((l.take k).foldl (Cz st) []).length<=k) ⟨rfl,QaD _⟩ ?_ ?_)
  ·rintro k _ hk ⟨rfl,hlen⟩;have e:l[k]?=some l[k]:=dr hk;have hm:=hc _ (QaH hk);have TX:(l.take (k+1)).foldl (Cz st) []=Cz st ((l.take k).foldl (Cz st) []) l[k]:=by
    rw[Qdp,e,Qhq];rfl
   generalize l[k]=c at e hm TX;rw[TX];generalize(l.take k).foldl (Cz st) []=D at hlen;show post (lu l st D (k:Int)) _;have Vc:=Z9 (st:=st) (out:=D) (c:=c);unfold lu;rw[bk (by rw[ew];unfold ay;omega),bB e,af,UE hs hm.1 hm.2,af,dZ (by omega) (by omega),show(k:Int)+1=((k+1:Nat):Int) by omega]
   unfold Cz at Vc ⊢;by_cases h1:st.bI<c.ready
   ·rw[if_pos h1,if_pos h1,bk (b:=cp ((0:Int),(14:Int)).2 0) rfl];exact cZ (C:=λs'=>_) ⟨rfl,by omega⟩
   ·rw[if_neg h1]at Vc;rw[if_neg h1,if_neg h1,aR (b:=cp (max c.ready st.bA+st.dG,(0:Int)).2 0) rfl];show post (aQ (cq D (Us st c)) _) _;rw[Qha (by omega),af]
    by_cases h2:D.any (λd=>zD d (Us st c))=true
    ·rw[if_pos h2]at Vc;rw[if_pos h2,bk h2];exact cZ (C:=λs'=>_) ⟨rfl,by omega⟩
    ·rw[if_neg h2]at Vc;rw[if_neg h2,aR (by simpa using h2)]
     have QsB:YH (λy_=>yM y_ (ag.mk (max c.ready st.bA+st.dG,(0:Int)).1 c.cz)) D=some (D.filter λd=>!zD (Us st c) d):=YI λy _=>rfl
     rw[QsB,af];refine bY (by unfold fQ;rw[Qay]at Vc ⊢;simp only[QeU]at Vc ⊢;omega) ?_
     exact cZ (C:=λs'=>_) ⟨rfl,by omega⟩
  ·rintro _ ⟨rfl,hlen⟩;show post (lu l st _ (l.length:Int)) _;unfold lu;rw[aR (by rw[eC];unfold ay;omega),QbC]
   exact dd rfl
 rw[cN Ao]
theorem Sv{a b c:ag}(h:zD a b=true)(k:zD b c=true):zD a c=true:=by
 rw[Wy]at *;omega
theorem BC{a:ag}:zD a a=true:=by rw[Wy];omega
theorem QiU(hs:Tr st){B:Int}(hB:4096<=B):∀(l out:List ag),(∀c∈l,GY B c)->(∀c∈out,GY 8192 c)->
  let r:=l.foldl (Cz st) out
  r.length<=out.length+l.length/\(∀c∈r,GY 8192 c)/\(∀d∈out,∃e∈r,zD e d=true)/\∀c∈l,c.ready<=st.bI->∃e∈r,zD e (Us st c)=true
 | [],out,_,ho=>⟨by simp,ho,λd h=>⟨d,h,BC⟩,λc h=>by cases h⟩
 |c ::l,out,hl,ho=>by
  intro r;have hc:=hl c (Qbm ..);obtain⟨s0,s1,s2,s3,s4⟩:0<=st.bA/\st.bA<=st.bI/\st.bI<=4096/\0<=st.dG/\st.dG<=4096:=⟨hs.VF,hs.Ti,hs.bI,hs.QE,hs.VU⟩;obtain⟨c0,c1,c2,c3⟩:=hc;have ho':∀d∈Cz st out c,GY 8192 d:=λd hd=>by
   unfold Cz at hd;split at hd
   ·exact ho d hd
   ·split at hd
    ·exact ho d hd
    ·rcases QaI.1 hd with hd|hd
     ·exact ho d (Qf2.1 hd).1
     ·rw[Qaz.1 hd];exact⟨by show 0<=max c.ready st.bA+st.dG;omega,by show max c.ready st.bA+st.dG<=8192;omega,c2,c3⟩
  obtain⟨h1,h2,h3,h4⟩:=QiU hs hB l (Cz st out c) (λd hd=>hl d (QaK _ hd)) ho'
  have hlen:=Z9 (st:=st) (out:=out) (c:=c);have AO:∀d∈out,∃e∈Cz st out c,zD e d=true:=λd hd=>by
   unfold Cz;split
   ·exact⟨d,hd,BC⟩
   ·split
    ·exact⟨d,hd,BC⟩
    ·by_cases hq:zD (Us st c) d=true
     ·exact⟨_,QhL _ (Qaz.2 rfl),hq⟩
     ·exact⟨d,Qf9 _ (Qf2.2 ⟨hd,by simpa using hq⟩),BC⟩
  refine⟨?_,h2,λd hd=>?_,λc' CJ hr=>?_⟩
  ·refine QaE h1 ?_
   simp only[QaA];omega
  ·obtain⟨e,he,hq⟩:=AO d hd;obtain⟨f,hf,hg⟩:=h3 e he;exact⟨f,hf,Sv hg hq⟩
  ·rcases Qbt.1 CJ with rfl|CJ
   ·have:∃e∈Cz st out c',zD e (Us st c')=true:=by
     unfold Cz;rw[if_neg (by omega)]
     split
     ·rename_i h;obtain⟨e,he,hq⟩:=Qf0.1 h;exact⟨e,he,hq⟩
     ·exact⟨_,QhL _ (Qaz.2 rfl),BC⟩
    obtain⟨e,he,hq⟩:=this;obtain⟨f,hf,hg⟩:=h3 e he;exact⟨f,hf,Sv hg hq⟩
   ·exact h4 c' CJ hr
end
theorem Qjd{a i:Nat}(ha:a<1024)(hi:i<10):a ^^^ 2 ^ i<1024:=Nat.xor_lt_two_pow (n:=10) ha (Qkn (by omega) hi)
theorem QdP{a i:Nat}(ha:a<1024)(hi:i<10):a |||2 ^ i<1024:=Qkt (n:=10) ha (Qkn (by omega) hi)
theorem QgK{a i:Nat}(ha:a<1024)(hi:i<=62)(h:a.testBit i=true):uO .i64 (a:Int) ((2 ^ i:Nat):Int)=((a ^^^ 2 ^ i:Nat):Int):=by
 show IntKind.i64.wrap (((BitVec.ofInt 64 (a:Int) &&& ~~~BitVec.ofInt 64 ((2 ^ i:Nat):Int)).toNat:Nat):Int)=_;rw[Qjf,Qjf];have hle:(BitVec.ofNat 64 a &&& ~~~BitVec.ofNat 64 (2 ^ i)).toNat<9223372036854775808:=by
  rw[BitVec.toNat_and,Qkp,QfS (by omega)]
  exact QmU Ql3 (by omega)
 rw[wrapN hle];congr 1;apply Nat.eq_of_testBit_eq;intro j;rw[BitVec.testBit_toNat,BitVec.getLsbD_and,BitVec.getLsbD_not,QmG,QmG,Nat.testBit_xor,Qko];rcases sh j 64 with hj|hj
 ·by_cases Qm:i=j
  ·subst Qm;simp [hj,h]
  ·simp [hj,Qm]
 ·have h1:a.testBit j=false:=Qjt (Qby (show a<2 ^ 10 by omega) (Qb2 (by omega) (by omega)))
  have:i≠j:=by omega
  simp [h1,this]
theorem UQ{m i:Nat}(hm:m<9223372036854775808)(hi:i<=62):dk (MO .i64 (AZ .i64 (m:Int) (i:Int)) 1) 1=m.testBit i:=by
 rw[QfD (by omega)]
 have hd:=Qf3 m (2 ^ i);rw[show(1:Int)=((1:Nat):Int)from rfl,QgJ (by omega) (by omega),QmV,Ql6]
 generalize m / 2 ^ i=q;rw[Qdg,kp,QbB];omega
theorem Rw{m i:Nat}(hm:m<9223372036854775808)(hi:i<=62):iN (m:Int) (i:Int)=some (m.testBit i):=by
 unfold iN;rw[bk (by simp;omega),eU (by omega),UQ hm hi]
theorem QiX{a k:Nat}(hk:k<=62)(h:a*2 ^ k<9223372036854775808):uh .i64 (a:Int) (k:Int)=((a*2 ^ k:Nat):Int):=by
 unfold uh;rw[show min (k:Int).toNat IntKind.i64.bits=k by simp [IntKind.bits];omega,show(a:Int)*(2:Int) ^ k=((a*2 ^ k:Nat):Int) by simp]
 exact wrapN h
structure RP where
 place:Int
 M:Nat
 B:Nat
 V:Nat
 f:Nat->Int
 C:List ag
 r:Rat
def RP.p(D:Nat)(s:RP):ah:=ah.mk s.place (s.M:Int) (s.B:Int) (s.V:Int) (dR D s.f) s.C (jG s.r)
structure RI (D:Nat) (s:RP):Prop where
 mem:s.M<1024
 mD:s.B<1024
 load:∀d,d<D->-1000*(s.V:Int)<=s.f d/\s.f d<=1000*(s.V:Int)
 len:s.C.length<=2 ^ s.V
 BY:∀c∈s.C,GY 8192 c
 val:rl (2+70*s.V) s.r
structure UK (x:ae) (t:av) (kind:Int) (nr:Nat->Nat) (du:Nat->Rat) (K:Nat) (w:ax):Prop where
 ok:dn x
 rr:x.ai.length<=3
 xx:w.x=x
 Ed:w.t=t
 kk:w.kind=kind
 tin:t∈x.types
 fZ:∀i,i<x.ai.length->w.fZ[i]?=some (nr i:Int)/\nr i<1024
 Qqo:w.fZ.length=x.ai.length
 cR:∀i,i<x.ai.length->w.cR[i]?=some (jG (du i))/\rl 20 (du i)
 Qt_:w.cR.length=x.ai.length
 tn:w.tn=(K:Int)
 QlR:K<=6
def nB(b:Bool):Nat:=if b=true then 1 else 0
def wJ(kind:Int)(o:aw):Nat:=nB (xE o.now kind)*16+nB (xE o.cr kind)
theorem Sz(a kind:Int):tM a kind=some ((nB (xE a kind):Nat):Int):=by
 unfold tM xE nB;rw[GJ];split <;> rfl
theorem QbZ{kind:Int}{o:aw}:wJ kind o<=17:=by
 unfold wJ nB;split <;> split <;> omega
def CI(n:Nat):Rat:=((n:Int):Rat)
section
variable {x : ae} {t : av} {kind : Int} {nr : Nat -> Nat} {du : Nat -> Rat} {K : Nat} {w : ax} {s : RP} {D i : Nat} {o : aw} {v : ab}
def QgS(kind:Int)(nr:Nat->Nat)(du:Nat->Rat)(s:RP)(i:Nat)(o:aw):RP:={s with M:=(s.M &&& nr i) |||2 ^ i,r:=s.r+CI (wJ kind o*65536)-du i}
theorem QgT(h:s.M<1024)(hi:i<10):(QgS kind nr du s i o).M<1024:=QdP (QmU Ql3 h) hi
theorem start_eq(hw:UK x t kind nr du K w)(hM:s.M<1024)(hB:s.B<1024)(hr:rl 900 s.r)(hi:x.ai[i]?=some o):pO w (s.p D) (i:Int)=some (if(s.M.testBit i||s.B.testBit i)=true then(s.p D,false,w)else((QgS kind nr du s i o).p D,true,w)):=by
 have TU:=(pB.1 hi).1;have h3:=hw.rr;obtain⟨n1,n2⟩:=hw.fZ i TU;obtain⟨d1,d2⟩:=hw.cR i TU;unfold pO;show aQ (iN (s.M:Int) (i:Int)) _=_;rw[Rw (by omega) (by omega),af]
 cases hm:s.M.testBit i with
 |true=>rw[dT];simp
 |false =>
  rw[dX];show aQ (iN (s.B:Int) (i:Int)) _=_;rw[Rw (by omega) (by omega),af]
  cases hb:s.B.testBit i with
  |true=>rw[dT];simp
  |false =>
   rw[dX,if_neg (by simp)]
   have rF:u3 w.fZ (s.M:Int) (i:Int)=some ((((s.M &&& nr i) |||2 ^ i:Nat)):Int):=by
    unfold u3;have hl:ay w.fZ=(x.ai.length:Int):=by unfold ay;rw[hw.Qqo]
    have hp:2 ^ i<9223372036854775808:=Qby (Qkn (by omega) (show i<10 by omega)) (by omega)
    have ha:s.M &&& nr i<=s.M:=Ql3;rw[hl,aR (by rw[Ja,eC,A7];omega),bB n1,af,eU (by omega),QgJ (by omega) (by omega),Qaa (by omega),orN (by omega) hp]
   show aQ (u3 w.fZ (s.M:Int) (i:Int)) _=_;rw[rF,af,hw.xx,bB hi,af,hw.kk,Sz,af,Sz,af];have hn:aV .i64 (nh .i64 ((nB (xE o.now kind):Nat):Int) 16) ((nB (xE o.cr kind):Nat):Int)=((wJ kind o:Nat):Int):=by
    have h1:nB (xE o.now kind)<=1:=by unfold nB;split <;> omega
    have h2:nB (xE o.cr kind)<=1:=by unfold nB;split <;> omega
    rw[I4 (by omega) (by omega),dZ (by omega) (by omega)]
    unfold wJ;omega
   have B4:=QbZ (kind:=kind) (o:=o);rw[hn,show(16:Int)=((16:Nat):Int)from rfl,QiX (by omega) (by omega)]
   show aQ (gy w (jG s.r) ((wJ kind o*2 ^ 16:Nat):Int)) _=_;rw[MG (hr.more (by omega)) (by omega),af]
   have lN:w.cR.isEmpty=false:=by
    cases hd:w.cR with
    |nil=>rw[hd]at d1;cases d1
    |cons _ _=>rfl
   rw[lN,dX,bB d1,af];have Uf:rl 930 (s.r+CI (wJ kind o*2 ^ 16)):=(PI hr (Mg (n:=wJ kind o*2 ^ 16) (by omega))).more (by omega)
   show aQ (zU (jG (s.r+CI (wJ kind o*2 ^ 16))) (jG (du i))) _=_;rw[QcS (Uf.more (by omega)) (d2.more (by omega)),af]
   rfl
def zK(x:ae)(s:RP)(v:ab)(i:Nat)(o:aw):O RP:=
 if v.drop=true then
  (if 0<=o.pick.place/\0<=o.drop.place then(if s.B.testBit i=true then some {s with f:=λd=>s.f d-mh x i d,B:=s.B ^^^ 2 ^ i}else none)else some s)
 else some {s with f:=λd=>s.f d+mh x i d,B:=if 0<=o.pick.place/\0<=o.drop.place then s.B |||2 ^ i else s.B}
def QeL(D:Nat)(t:av)(s:RP):Bool:=!zx t.cap (dR D s.f)
theorem Zu(hw:UK x t kind nr du K w)(hD:D=cU x.types)(hB:s.B<1024)(hf:∀d,d<D->-1000000<=s.f d/\s.f d<=1000000)(hi:x.ai[i]?=some o)(hv:v.aP=(i:Int)):
  post (n_ w (s.p D) v) λr=>r.2.2=w/\match zK x s v i o with
   |none=>r.2.1=false
   |some s'=>r=(s'.p D,QeL D t s',w):=by
 have TU:=(pB.1 hi).1;have h3:=hw.rr;obtain⟨o',e',rF,QhN,lR,yx⟩:=Jb hw.ok TU;rw[hi]at e';cases e';have hd3:=Fw hw.ok;have hT:=hw.ok.Ed _ hw.tin;have fits:∀s':RP,post (fB w (s'.p D)) λr=>r.2.2=w/\r=(s'.p D,QeL D t s',w):=λs'=>by
  unfold fB;have:=(RF (a:=dR D s'.f) (cap:=t.cap) (by rw[fJ,hT.cap,hD]) (by rw[fJ];omega)).1
  show post (aQ (sL (dR D s'.f) w.t.cap) _) _;rw[hw.Ed,this,af];exact aI.2 ⟨rfl,rfl⟩
 have hb:((cT o.pick.place 0)&&(cT o.drop.place 0))=decide (0<=o.pick.place/\0<=o.drop.place):=by
  rw[Qdg,Ae,gX,gX,QbB]
 have iH:2 ^ i<9223372036854775808:=Qby (Qkn (by omega) (show i<10 by omega)) (by omega)
 unfold n_ zK;rw[hw.xx,hv,bB hi,af,hb,QhN,<-hD];cases Va:v.drop with
 |true =>
  rw[dT,if_pos rfl];by_cases TS:0<=o.pick.place/\0<=o.drop.place
  ·rw[if_pos TS,bk (by simpa using TS)]
   show post (aQ (iN (s.B:Int) (i:Int)) _) _;rw[Rw (by omega) (by omega),af]
   by_cases IC:s.B.testBit i=true
   ·rw[bk IC,if_pos IC];show post (aQ (zJ (dR D s.f) (dR D (mh x i))) _) _;rw[Qgw (by omega) (λd hd=>by have:=hf d hd;omega) (λd _=>by have:=lR d;omega),af]
    refine bY (by omega) ?_
    have e:uO .i64 (s.p D).mD (uh .i64 1 (i:Int))=((s.B ^^^ 2 ^ i:Nat):Int):=by
     show uO .i64 (s.B:Int) (uh .i64 1 (i:Int))=_;rw[Qaa (by omega),QgK hB (by omega) IC]
    rw[e];exact fits {s with f:=λd=>s.f d-mh x i d,B:=s.B ^^^ 2 ^ i}
   ·rw[aR (by simpa using IC),if_neg IC]
    exact aI.2 ⟨rfl,rfl⟩
  ·rw[if_neg TS,aR (by simpa using TS)]
   exact fits s
 |false =>
  rw[dX,if_neg (by simp)]
  show post (aQ (xb (dR D s.f) (dR D (mh x i))) _) _;rw[QaN (by omega) (λd hd=>by have:=hf d hd;omega) (λd _=>by have:=lR d;omega),af]
  by_cases TS:0<=o.pick.place/\0<=o.drop.place
  ·rw[bk (by simpa using TS),if_pos TS]
   refine bY (by omega) ?_
   have e:QA .i64 (s.p D).mD (uh .i64 1 (i:Int))=((s.B |||2 ^ i:Nat):Int):=by
    show QA .i64 (s.B:Int) (uh .i64 1 (i:Int))=_;rw[Qaa (by omega),orN (by omega) iH]
   rw[e];exact fits {s with f:=λd=>s.f d+mh x i d,B:=s.B |||2 ^ i}
  ·rw[aR (by simpa using TS),if_neg TS]
   exact fits {s with f:=λd=>s.f d+mh x i d,B:=s.B}
end
def Oy(x:ae)(t:av)(s:RP)(st:aS):List ag:=(uR x.bV t s.place st.place s.C).1.foldl (Cz st) []
def Qn8(x:ae)(t:av)(s:RP)(st:aS):RP:=
 RP.mk st.place s.M s.B (s.V+1) s.f (Oy x t s st) (s.r+CI (t.cP.toNat*(uR x.bV t s.place st.place s.C).2.toNat*2 ^ 24))
def wD(v:ab)(o:aw):Bool:=!v.drop||bh o.pick.place 0
def QeA(kind:Int)(nr:Nat->Nat)(du:Nat->Rat)(s:RP)(v:ab)(i:Nat)(o:aw):O RP:=
 if wD v o=true then(if(s.M.testBit i||s.B.testBit i)=true then none else some (QgS kind nr du s i o))else some s
def V5(x:ae)(t:av)(D:Nat)(v:ab)(s2:RP):O RP:=
 if QeL D t s2=false then none else
  match q8 x v with
  |none=>none
  |some st=>if Oy x t s2 st=[]then none else some (Qn8 x t s2 st)
def I8(x:ae)(t:av)(kind:Int)(nr:Nat->Nat)(du:Nat->Rat)(K D:Nat)(s:RP)(v:ab)(i:Nat)(o:aw):O RP:=
 if K<=s.V\/o.off=true\/Sd t o.cF=false then none else
 match QeA kind nr du s v i o with
 |none=>none
 |some s1=>(zK x s1 v i o).bind (V5 x t D v)
section
variable {x : ae} {t : av} {kind : Int} {nr : Nat -> Nat} {du : Nat -> Rat} {K : Nat} {w : ax} {s : RP} {D i : Nat} {o : aw} {v : ab} {st : aS}
theorem Ot(hx:dn x)(h:q8 x v=some st):Tr st:=by
 have:=TG hx h;exact⟨this.2.2.1,this.2.2.2.1,this.2.2.2.2.1,this.2.2.2.2.2.1,this.2.2.2.2.2.2⟩
theorem Qei(hx:dn x)(ht:t∈x.types)(hs:Tr st)(hc:∀c∈s.C,GY 8192 c):(Oy x t s st).length<=2*s.C.length/\∀c∈Oy x t s st,GY 8192 c:=by
 have hT:=hx.Ed _ ht;have hP:=Fx (a:=s.place) (b:=st.place) hx.bV hT.eu.2 hT.rest hc;obtain⟨h1,h2,_⟩:=QiU hs (B:=98304) (by omega) (uR x.bV t s.place st.place s.C).1 [] hP.BY λc h=>by cases h
 exact⟨QaE h1 (by simpa using hP.len),h2⟩
theorem QcP(hw:UK x t kind nr du K w)(hD:D=cU x.types)(hV:s.V<=6)(hB:s.B<1024)(hf:∀d,d<D->-1000000<=s.f d/\s.f d<=1000000)(hlen:s.C.length<=1000)(hc:∀c∈s.C,GY 8192 c)(hr:rl 970 s.r)(hi:x.ai[i]?=some o)(hv:v.aP=(i:Int)):
  post (f_ v w (s.p D) true) λr=>r.2.2=w/\match(zK x s v i o).bind (V5 x t D v)with
   |none=>r.2.1=false
   |some s'=>r=(s'.p D,true,w):=by
 unfold f_;rw[dT];refine bw (Zu hw hD hB hf hi hv) ?_
 rintro⟨p2,b2,w2⟩ ⟨h1,h2⟩;simp only at h1;subst h1;cases hl:zK x s v i o with
 |none =>
  rw[hl]at h2;simp only at h2;subst h2;exact aI.2 ⟨rfl,rfl⟩
 |some s2 =>
  rw[hl]at h2;simp only[Qlq]at h2;obtain⟨rfl,rfl,-⟩:=h2;have e2:s2.place=s.place/\s2.M=s.M/\s2.V=s.V/\s2.C=s.C/\s2.r=s.r:=by
   unfold zK at hl
   repeat' split at hl
   all_goals first|(cases hl;exact⟨rfl,rfl,rfl,rfl,rfl⟩)|cases hl
  rw[Qjj];unfold V5;cases Et:QeL D t s2 with
  |false =>
   rw[if_pos rfl];show post (br false _ _) _;rw[dX];exact aI.2 ⟨rfl,rfl⟩
  |true =>
   rw[if_neg (by simp)]
   show post (br true _ _) _;rw[dT];show post (aQ (uC w2.x.ai v) _) _;rw[hw.xx,D2,af];cases ir:q8 x v with
   |none =>
    have lN:cp (if 0<=v.aP/\v.aP<x.ai.length then(19:Int)else 2) 0=true:=by split <;> rfl
    show post (br (cp (if 0<=v.aP/\v.aP<x.ai.length then(19:Int)else 2) 0) _ _) _
    rw[bk lN];exact aI.2 ⟨rfl,rfl⟩
   |some st =>
    have hS:=Ot hw.ok ir;have hT:=hw.ok.Ed _ hw.tin;have DH:∀c∈s2.C,GY 8192 c:=by rw[e2.2.2.2.1];exact hc
    have hP:=Fx (n:=x.bV) (a:=s2.place) (b:=st.place) hw.ok.bV hT.eu.2 hT.rest DH;have hW:=Qei hw.ok hw.tin hS DH;show post (br (cp 0 0) _ _) _;rw[aR (by rfl)]
    show post (aQ (jH w2 (s2.p D) st.place) _) _;rw[YM (n:=x.bV) (t:=t) (a:=s2.place) hw.ok.bV (by rw[hw.xx]) hw.Ed rfl hT.eu.2 hT.rest (by show s2.C.length<=10000;rw[e2.2.2.2.1];omega) DH,af]
    show post (aQ (u5 (uR x.bV t s2.place st.place s2.C).1 st) _) _;have k_:=hP.len;rw[e2.2.2.2.1]at k_;rw[QfC hS (by rw[e2.2.2.2.1];omega) λc CJ=>by have:=hP.BY c CJ;exact⟨this.1,by have:=this.2.1;omega⟩,af]
    have hm:=hP.Xn;have hpm:=hT.cP;obtain⟨m,hmm⟩:∃m:Nat,(uR x.bV t s2.place st.place s2.C).2=(m:Int):=⟨_,(Qj8 hm.1).symm⟩;obtain⟨q,hq⟩:∃q:Nat,t.cP=(q:Int):=⟨_,(Qj8 hpm.1).symm⟩;have hmq:q*m<=1000000:=QaE (Nat.mul_le_mul (show q<=100 by omega) (show m<=10000 by omega)) (by omega)
    show post (aQ (gy w2 (jG s2.r) (uh .i64 (nh .i64 w2.t.cP (uR x.bV t s2.place st.place s2.C).2) 24)) _) _;rw[hw.Ed,hmm,hq,I4 (by rw[<-QeV];omega) (by rw[<-QeV];omega),<-QeV,show(24:Int)=((24:Nat):Int)from rfl,QiX (by omega) (by omega),MG (by rw[e2.2.2.2.2];exact hr.more (by omega)) (by omega),af]
    have G8:aV .i64 (s2.p D).ak 1=((s2.V+1:Nat):Int):=by
     show aV .i64 (s2.V:Int) 1=_;rw[dZ (by omega) (by omega)];omega
    show post (some (ah.mk st.place (s2.M:Int) (s2.B:Int) (aV .i64 (s2.p D).ak 1) (dR D s2.f) (Oy x t s2 st) (jG (s2.r+(((q*m*2 ^ 24:Nat):Int):Rat))),dt (ay (Oy x t s2 st)) 0,w2)) _;rw[G8];by_cases y9:Oy x t s2 st=[]
    ·simp only[if_pos y9];refine aI.2 ⟨rfl,?_⟩;rw[y9];rfl
    ·simp only[if_neg y9];refine aI.2 ⟨rfl,?_⟩;have SY:dt (ay (Oy x t s2 st)) 0=true:=by
      rw[oH];unfold ay;have:=QmH.2 y9;omega
     rw[SY];unfold Qn8 RP.p;simp only[hmm,hq,QaC];rfl
theorem QgE(hw:UK x t kind nr du K w)(ho:o∈x.ai):sI w.t o.cF=some (Sd t o.cF):=by
 rw[hw.Ed];obtain⟨b,b1,_⟩:=QgD (hw.ok.Ed _ hw.tin).cF (hw.ok.ord o ho).cF;unfold Sd;rw[b1];rfl
theorem Qfn(hw:UK x t kind nr du K w)(hD:D=cU x.types)(hV:s.V<=6)(hs:RI D s)(hi:x.ai[i]?=some o)(hv:v.aP=(i:Int)):
  post (qM w (s.p D) v) λr=>r.2.2=w/\match I8 x t kind nr du K D s v i o with
   |none=>r.2.1=false
   |some s'=>r=(s'.p D,true,w):=by
 have TU:=(pB.1 hi).1;have ho:=QaG hi;have hr:=hs.val;have hlen:=hs.len;have h64:2 ^ s.V<=64:=Qb2 (by omega) hV
 have hf:∀d,d<D->-1000000<=s.f d/\s.f d<=1000000:=λd hd=>by have:=hs.load d hd;omega
 unfold qM I8;rw[hw.xx,hv,bB hi,af];have Zh:((cT (s.p D).ak w.tn)||o.off)=decide (K<=s.V\/o.off=true):=by
  rw[Qdg,Yj,gX,QbB,hw.tn];show((K:Int)<=(s.V:Int)\/o.off=true)↔_;exact or_congr_left (by omega)
 rw[Zh];by_cases h1:K<=s.V\/o.off=true
 ·rw[bk (by simpa using h1),if_pos (h1.elim .inl λh=>.inr (.inl h))]
  exact aI.2 ⟨rfl,rfl⟩
 ·rw[aR (by simpa using h1),QgE hw ho,af]
  cases hab:Sd t o.cF with
  |false =>
   rw[dX,if_pos (.inr (.inr rfl))];exact aI.2 ⟨rfl,rfl⟩
  |true =>
   rw[dT,if_neg (by
    intro h;rcases h with h|h|h
    ·exact h1 (.inl h)
    ·exact h1 (.inr h)
    ·cases h)]
   unfold QeA;show post (br (wD v o) _ _) _;by_cases hfi:wD v o=true
   ·rw[bk hfi,if_pos hfi,start_eq hw hs.mem hs.mD (hr.more (by omega)) hi,af]
    by_cases IC:(s.M.testBit i||s.B.testBit i)=true
    ·rw[if_pos IC,if_pos IC];show post (f_ v w (s.p D) false) _;unfold f_;rw[dX];exact aI.2 ⟨rfl,rfl⟩
    ·rw[if_neg IC,if_neg IC];have Qp:rl 970 (QgS kind nr du s i o).r:=by
      have B4:=QbZ (kind:=kind) (o:=o);have d2:=(hw.cR i TU).2;exact(Qcj (PI (hr.more (show 2+70*s.V<=900 by omega)) (Mg (n:=wJ kind o*65536) (by omega))) d2).more (by omega)
     exact QcP (s:=QgS kind nr du s i o) hw hD hV hs.mD hf (by show s.C.length<=1000;omega) hs.BY Qp hi hv
   ·rw[aR (by simpa using hfi),if_neg hfi]
    exact QcP hw hD hV hs.mD hf (by omega) hs.BY (hr.more (by omega)) hi hv
theorem QkG(hw:UK x t kind nr du K w)(hD:D=cU x.types)(hV:s.V<=6)(hs:RI D s)(hi:x.ai[i]?=some o){s':RP}(h:I8 x t kind nr du K D s v i o=some s'):RI D s'/\s'.V=s.V+1/\s.V<K:=by
 have TU:=(pB.1 hi).1;have h3:=hw.rr;obtain⟨o',e',_,_,lR,_⟩:=Jb hw.ok TU;unfold I8 at h;split at h
 ·cases h
 ·rename_i hK;have hVK:s.V<K:=by
   rcases sh s.V K with h'|h'
   ·exact h'
   ·exact absurd (.inl h') hK
  split at h
  ·cases h
  ·rename_i s1 h1;have MI:s1.M<1024/\s1.B=s.B/\s1.V=s.V/\s1.f=s.f/\s1.C=s.C/\rl (44+(2+70*s.V)) s1.r:=by
    unfold QeA at h1;split at h1
    ·split at h1
     ·cases h1
     ·cases h1;have B4:=QbZ (kind:=kind) (o:=o);exact⟨QgT hs.mem (by omega),rfl,rfl,rfl,rfl,(Qcj (PI hs.val (Mg (n:=wJ kind o*65536) (by omega))) (hw.cR i TU).2).more (by omega)⟩
    ·cases h1;exact⟨hs.mem,rfl,rfl,rfl,rfl,hs.val.more (by omega)⟩
   cases h2:zK x s1 v i o with
   |none=>rw[h2]at h;cases h
   |some s2 =>
    rw[h2,Qjj]at h;unfold V5 at h;have Fz:s2.M=s1.M/\s2.B<1024/\s2.V=s1.V/\s2.C=s1.C/\s2.r=s1.r/\∀d,d<D->-1000*((s.V:Int)+1)<=s2.f d/\s2.f d<=1000*((s.V:Int)+1):=by
     have hl:∀d,d<D->-1000*(s.V:Int)<=s1.f d/\s1.f d<=1000*(s.V:Int):=by rw[MI.2.2.2.1];exact hs.load
     have hB1:s1.B<1024:=by rw[MI.2.1];exact hs.mD
     unfold zK at h2;split at h2
     ·split at h2
      ·split at h2
       ·cases h2;exact⟨rfl,Qjd hB1 (by omega),rfl,rfl,rfl,λd hd=>by have:=hl d hd;have:=lR d;simp only;omega⟩
       ·cases h2
      ·cases h2;exact⟨rfl,hB1,rfl,rfl,rfl,λd hd=>by have:=hl d hd;omega⟩
     ·cases h2;refine⟨rfl,?_,rfl,rfl,rfl,λd hd=>by have:=hl d hd;have:=lR d;simp only;omega⟩
      simp only;split
      ·exact QdP hB1 (by omega)
      ·exact hB1
    split at h
    ·cases h
    ·split at h
     ·cases h
     ·rename_i st ir;split at h
      ·cases h
      ·cases h;have hS:=Ot hw.ok ir;have hT:=hw.ok.Ed _ hw.tin;have DH:∀c∈s2.C,GY 8192 c:=by rw[Fz.2.2.2.1,MI.2.2.2.2.1];exact hs.BY
       have hP:=Fx (n:=x.bV) (a:=s2.place) (b:=st.place) hw.ok.bV hT.eu.2 hT.rest DH;have hW:=Qei hw.ok hw.tin hS DH;have hlen:s2.C.length<=2 ^ s.V:=by rw[Fz.2.2.2.1,MI.2.2.2.2.1];exact hs.len
       have hV2:s2.V=s.V:=Fz.2.2.1.trans MI.2.2.1;have hmq:t.cP.toNat*(uR x.bV t s2.place st.place s2.C).2.toNat<=1000000:=QaE (Nat.mul_le_mul (show t.cP.toNat<=100 by have:=hT.cP;omega) (show(uR x.bV t s2.place st.place s2.C).2.toNat<=10000 by have:=hP.Xn;omega)) (by omega)
       refine⟨⟨?_,Fz.2.1,?_,?_,hW.2,?_⟩,by show s2.V+1=_;rw[hV2],hVK⟩
       ·show s2.M<1024;rw[Fz.1];exact MI.1
       ·intro d hd;show -1000*((s2.V+1:Nat):Int)<=s2.f d/\s2.f d<=1000*((s2.V+1:Nat):Int);rw[hV2];have:=Fz.2.2.2.2.2 d hd;omega
       ·show(Oy x t s2 st).length<=2 ^ (s2.V+1);rw[hV2,Qdw];have:=hW.1;omega
       ·show rl (2+70*(s2.V+1)) (s2.r+CI _);rw[hV2,Fz.2.2.2.2.1];exact(PI MI.2.2.2.2.2 (Mg (by omega))).more (by omega)
end
section
variable {x : ae} {t : av} {kind : Int} {nr : Nat -> Nat} {du : Nat -> Rat} {K : Nat} {w : ax} {s q : RP} {D i : Nat} {o : aw} {v : ab} {st : aS}
theorem Qiq{r:List ag×Int×ax}(hl:r.1.length<=1048576)(h0:∀c∈r.1,0<=c.ready):post (aL (λs:Int×Int=>gI r s.1 s.2) (-1,0)) λe =>
  (e=-1\/∃c∈r.1,e=c.ready/\c.ready<=r.2.2.t.bI)/\∀c∈r.1,c.ready<=r.2.2.t.bI->0<=e/\e<=c.ready:=by
 refine(p6 r.1.length (by omega) (λ(k:Nat) (s:Int×Int)=>s.2=(k:Int)/\(s.1=-1\/∃c∈r.1,s.1=c.ready/\c.ready<=r.2.2.t.bI)/\∀(j:Nat) c,j<k->r.1[j]?=some c->c.ready<=r.2.2.t.bI->0<=s.1/\s.1<=c.ready) (Q:=λe=>(e=-1\/∃c∈r.1,e=c.ready/\c.ready<=r.2.2.t.bI)/\∀(j:Nat) c,r.1[j]?=some c->c.ready<=r.2.2.t.bI->0<=e/\e<=c.ready) ⟨rfl,.inl rfl,λj c h=>by omega⟩ ?_ ?_).mono ?_
 ·rintro k ⟨out,v⟩ hk ⟨rfl,h1,h2⟩;have e:r.1[k]?=some r.1[k]:=dr hk;have hm:=QaH hk;have h00:=h0 _ hm;generalize r.1[k]=c at e hm h00;show post (gI r out (k:Int)) _;unfold gI;rw[bk (by rw[ew];unfold ay;omega),bB e,af,dZ (by omega) (by omega),show(k:Int)+1=((k+1:Nat):Int) by omega]
  simp only at h1 h2;have take:c.ready<=r.2.2.t.bI->(out<0\/c.ready<out)->post (some (Sum.inl (c.ready,((k+1:Nat):Int))):O ((Int×Int)⊕Int)) λx=>(∀s',x=.inl s'->s'.2=((k+1:Nat):Int)/\(s'.1=-1\/∃c∈r.1,s'.1=c.ready/\c.ready<=r.2.2.t.bI)/\∀(j:Nat) c,j<k+1->r.1[j]?=some c->c.ready<=r.2.2.t.bI->0<=s'.1/\s'.1<=c.ready)/\∀e,x=.inr e->(e=-1\/∃c∈r.1,e=c.ready/\c.ready<=r.2.2.t.bI)/\∀(j:Nat) c,r.1[j]?=some c->c.ready<=r.2.2.t.bI->0<=e/\e<=c.ready:=λg1 g2=>by
   refine cZ (C:=λs'=>_) ⟨rfl,.inr ⟨c,hm,rfl,g1⟩,λj d hj hd y4=>?_⟩
   rcases sh j k with h|h
   ·have:=h2 j d h hd y4;simp only;omega
   ·obtain rfl:j=k:=by omega
    rw[e]at hd;cases hd;exact⟨h00,QaJ _⟩
  have AO:(c.ready<=r.2.2.t.bI->0<=out/\out<=c.ready)->post (some (Sum.inl (out,((k+1:Nat):Int))):O ((Int×Int)⊕Int)) λx=>(∀s',x=.inl s'->s'.2=((k+1:Nat):Int)/\(s'.1=-1\/∃c∈r.1,s'.1=c.ready/\c.ready<=r.2.2.t.bI)/\∀(j:Nat) c,j<k+1->r.1[j]?=some c->c.ready<=r.2.2.t.bI->0<=s'.1/\s'.1<=c.ready)/\∀e,x=.inr e->(e=-1\/∃c∈r.1,e=c.ready/\c.ready<=r.2.2.t.bI)/\∀(j:Nat) c,r.1[j]?=some c->c.ready<=r.2.2.t.bI->0<=e/\e<=c.ready:=λg1=>by
   refine cZ (C:=λs'=>_) ⟨rfl,h1,λj d hj hd y4=>?_⟩
   rcases sh j k with h|h
   ·exact h2 j d h hd y4
   ·obtain rfl:j=k:=by omega
    rw[e]at hd;cases hd;exact g1 y4
  refine bg (λg1=>?_) (λg1=>AO λh=>by rw[S5]at g1;omega)
  rw[xa]at g1;refine bg (λg2=>take g1 (.inl (by rw[ew]at g2;exact g2))) (λg2=>bg (λg3=>take g1 (.inr (by rw[ew]at g3;exact g3))) (λg3=>AO λ_=>?_))
  rw[eC]at g2 g3;omega
 ·rintro⟨out,v⟩ ⟨rfl,h1,h2⟩;show post (gI r out (r.1.length:Int)) _;unfold gI;rw[aR (by rw[eC];unfold ay;omega)]
  exact dd ⟨h1,λj c hc=>h2 j c (pB.1 hc).1 hc⟩
 ·rintro e ⟨h1,h2⟩;refine⟨h1,λc hc=>?_⟩
  obtain⟨j,hj⟩:=QeT.1 hc;exact h2 j c hj
def UG(t:av)(l:List ag):Prop:=∀c∈l,t.bA<=c.ready
theorem Qba(hn:Ef x.bV)(ht:0<=t.bJ){a b:Int}:∀(l:List ag) (s:List ag×Int),(∀c∈l,0<=c.ready/\c.ready<=8192)->t.bJ<=4096->UG t l->UG t s.1->UG t (l.foldl (λs c=>um x.bV t a b (um x.bV t a b s c) (Bf t c)) s).1
 | [],s,_,_,_,h=>h
 |c ::l,s,hc,hr,hl,h=>by
  have one:∀(s:List ag×Int) (d:ag),0<=d.ready/\d.ready<=16384->t.bA<=d.ready->UG t s.1->UG t (um x.bV t a b s d).1:=λs d h0 h1 h2=>by
   unfold um;split
   ·rename_i hg;intro c hc;rcases QaI.1 hc with hc|hc
    ·exact h2 c hc
    ·rw[Qaz.1 hc];have:=(AK hn (aJ:=t.aJ) (a:=a) (b:=b) (t:=d.ready) ⟨h0.1,by omega⟩ hg.1).1
     show t.bA<=(goN x.bV t.aJ a b d.ready).1;omega
   ·exact h2
  have c0:=hc c (Qbm ..);have c1:=hl c (Qbm ..);refine Qba hn ht l _ (λc h=>hc c (QaK _ h)) hr (λc h=>hl c (QaK _ h)) ?_
  exact one _ (Bf t c) ⟨by show 0<=c.ready+t.bJ;omega,by show c.ready+t.bJ<=16384;omega⟩ (by show t.bA<=c.ready+t.bJ;omega) (one _ c ⟨c0.1,by omega⟩ c1 h)
theorem QiV(hs:Tr st):∀(l out:List ag),UG t l->UG t out->UG t (l.foldl (Cz st) out)
 | [],out,_,h=>h
 |c ::l,out,hl,h=>by
  refine QiV hs l _ (λc h=>hl c (QaK _ h)) ?_
  unfold Cz;split
  ·exact h
  ·split
   ·exact h
   ·intro d hd;rcases QaI.1 hd with hd|hd
    ·exact h d (Qf2.1 hd).1
    ·rw[Qaz.1 hd];have:=hl c (Qbm ..);have:=hs.QE;show t.bA<=max c.ready st.bA+st.dG;omega
theorem Qn9(hx:dn x)(ht:t∈x.types)(hs:Tr st)(hc:∀c∈s.C,GY 8192 c)(h:UG t s.C):UG t (Oy x t s st):=by
 have hT:=hx.Ed _ ht;exact QiV hs _ [] (Qba hx.bV hT.rest.1 _ ([],0) (λc CJ=>⟨(hc c CJ).1,(hc c CJ).2.1⟩) hT.rest.2 h λc h=>by cases h) λc h=>by cases h
theorem Qiu(hw:UK x t kind nr du K w)(hs:RI D s)(h:UG t s.C){s':RP}(hn:I8 x t kind nr du K D s v i o=some s'):UG t s'.C:=by
 unfold I8 at hn;split at hn
 ·cases hn
 ·split at hn
  ·cases hn
  ·rename_i s1 h1;have e1:s1.C=s.C:=by
    unfold QeA at h1
    repeat' split at h1
    all_goals first|(cases h1;rfl)|cases h1
   cases h2:zK x s1 v i o with
   |none=>rw[h2]at hn;cases hn
   |some s2 =>
    have e2:s2.C=s1.C:=by
     unfold zK at h2
     repeat' split at h2
     all_goals first|(cases h2;rfl)|cases h2
    rw[h2,Qjj]at hn;unfold V5 at hn;split at hn
    ·cases hn
    ·split at hn
     ·cases hn
     ·rename_i st ir;split at hn
      ·cases hn
      ·cases hn;exact Qn9 hw.ok hw.tin (Ot hw.ok ir) (by rw[e2,e1];exact hs.BY) (by rw[e2,e1];exact h)
structure QoO (x:ae) (t:av) (s:RP) (e m:Int) (ok:Bool):Prop where
 bd:ok=true->t.bA<=e/\e<=4096/\0<=m/\m<=10000
 all:s.V≠0->s.B=0->∀c∈(uR x.bV t s.place t.eI s.C).1,c.ready<=t.bI->ok=true/\e<=c.ready/\m=(goN x.bV t.aJ s.place t.eI 0).2.1
theorem Qhp(hw:UK x t kind nr du K w)(hs:RI D s)(hV:s.V<=6)(lS:UG t s.C):post (rX w (s.p D)) λr=>r.2.2.2=w/\QoO x t s r.1 r.2.1 r.2.2.1:=by
 have hT:=hw.ok.Ed _ hw.tin;have h64:2 ^ s.V<=64:=Qb2 (by omega) hV
 have hlen:=hs.len;unfold rX;refine bg (λh=>?_) (λh=>?_)
 ·refine aI.2 ⟨rfl,λh=>(by cases h),λh1 h2=>?_⟩
  rw[Yj,kp,uA]at h;have h:(s.V:Int)=0\/(s.B:Int)≠0:=h;omega
 ·rw[YM (n:=x.bV) (t:=t) (a:=s.place) hw.ok.bV (by rw[hw.xx]) hw.Ed rfl hT.eu.2 hT.rest (by show s.C.length<=10000;omega) hs.BY,af]
  have hP:=Fx (n:=x.bV) (a:=s.place) (b:=w.t.eI) hw.ok.bV hT.eu.2 hT.rest hs.BY;have hL:UG t (uR x.bV t s.place w.t.eI s.C).1:=Qba hw.ok.bV hT.rest.1 _ ([],0) (λc CJ=>⟨(hs.BY c CJ).1,(hs.BY c CJ).2.1⟩) hT.rest.2 lS λc h=>by cases h
  have k_:=hP.len;have hC:(s.p D).fi=s.C:=rfl;rw[hC];refine bw (Qiq (r:=((uR x.bV t s.place w.t.eI s.C).1,(uR x.bV t s.place w.t.eI s.C).2,w)) (by show(uR x.bV t s.place w.t.eI s.C).1.length<=1048576;omega) λc hc=>(hP.BY c hc).1) ?_
  rintro e ⟨h1,h2⟩;refine aI.2 ⟨rfl,λy5=>?_,λ_ _ c hc y4=>?_⟩
  ·rw[gX]at y5;rcases h1 with h1|⟨c,hc,rfl,y4⟩
   ·omega
   ·have Qsp:c.ready<=w.t.bI:=y4;rw[hw.Ed]at Qsp;have:=hL c hc;have:=hT.bI;have:=hP.Xn;exact⟨by omega,by omega,this⟩
  ·rw[<-hw.Ed]at y4;have CJ:c∈(uR x.bV t s.place w.t.eI s.C).1:=by rw[hw.Ed];rw[hw.Ed]at y4;exact hc
   have:=h2 c CJ y4;refine⟨by rw[gX];exact this.1,this.2,?_⟩
   have:=hP.cV λe=>by rw[e]at CJ;cases CJ
   rw[<-hw.Ed]at this ⊢;exact this
def jP(t:av)(e m:Int):Nat:=(t.gA+t.cP*m+t.de*(e-t.bA)).toNat*2 ^ 24+((e-t.bA) / 64*((e-t.bA) / 64)).toNat
theorem QiI(hw:UK x t kind nr du K w){e m:Int}(hr:rl 900 s.r)(h:t.bA<=e/\e<=4096/\0<=m/\m<=10000):l_ w (s.p D) e m=some (jG (s.r+CI (jP t e m)))/\jP t e m<=9223372036854775807:=by
 have hT:=hw.ok.Ed _ hw.tin;have h1:=hT.gA;have h2:=hT.cP;have h3:=hT.de;have h4:=hT.pL;obtain⟨a,ha⟩:∃a,a=e-t.bA:=⟨_,rfl⟩;have WR:0<=a/\a<=4096:=by omega
 have m1:0<=t.cP*m/\t.cP*m<=1000000:=⟨Qgb h2.1 h.2.2.1,Qgd (QhB h2.2 h.2.2.2 h.2.2.1 (by omega)) (by omega)⟩
 have m2:0<=t.de*a/\t.de*a<=409600:=⟨Qgb h3.1 WR.1,Qgd (QhB h3.2 WR.2 WR.1 (by omega)) (by omega)⟩
 have hq:q_ .i64 a 64=a / 64:=by
  have e:a.tdiv 64=a / 64:=Qix WR.1;rw[XH (by rw[e];omega) (by rw[e];omega),e]
 have TV:0<=a / 64/\a / 64<=64:=by omega
 have m3:0<=(a / 64)*(a / 64)/\(a / 64)*(a / 64)<=4096:=⟨Qgb TV.1 TV.1,Qgd (QhB TV.2 TV.2 TV.1 (by omega)) (by omega)⟩
 have hpn:jP t e m=(t.gA+t.cP*m+t.de*a).toNat*2 ^ 24+(a / 64*(a / 64)).toNat:=by unfold jP;rw[ha]
 have hb:jP t e m<=9223372036854775807:=by rw[hpn];omega
 refine⟨?_,hb⟩;unfold l_;rw[hw.Ed,nd (by omega) (by omega),<-ha,hq,I4 (a:=t.cP) (by omega) (by omega),I4 (a:=t.de) (by omega) (by omega),I4 (a:=a / 64) (by omega) (by omega),dZ (a:=t.gA) (by omega) (by omega),dZ (a:=t.gA+t.cP*m) (by omega) (by omega)]
 obtain⟨c,hc⟩:∃c:Nat,t.gA+t.cP*m+t.de*a=(c:Int):=⟨_,(Qj8 (by omega)).symm⟩
 obtain⟨u,hu⟩:∃u:Nat,a / 64*(a / 64)=(u:Int):=⟨_,(Qj8 m3.1).symm⟩;rw[hc,hu]at hpn;simp only[QaC]at hpn;rw[hc,hu,show(24:Int)=((24:Nat):Int)from rfl,QiX (by omega) (by omega),dZ (by omega) (by omega),<-Qjo,<-hpn]
 show aQ (gy w (jG s.r) ((jP t e m:Nat):Int)) _=_;rw[MG (hr.more (by omega)) hb,af]
 rfl
structure GG (D:Nat) (s q:RP):Prop where
 place:s.place=q.place
 mD:s.B=q.B
 mem:∀i,s.M.testBit i=true->q.M.testBit i=true
 SP:s.V<=q.V
 load:∀d,d<D->s.f d<=q.f d
 val:s.r<=q.r
 BY:∀c∈q.C,∃e∈s.C,zD e c=true
theorem Qb6{f g:Nat->Int}:zx (dR D g) (dR D f)=false↔∀d,d<D->f d<=g d:=by
 unfold zx;rw[QeP];simp only[Qf4,fJ];constructor
 ·intro h d hd;have:=h d hd;rw[BN,BN,if_pos hd,if_pos hd]at this;simpa using this
 ·intro h d hd;have:=h d hd;rw[BN,BN,if_pos hd,if_pos hd];simpa using this
theorem Qa3(hD:D<=3)(hs:RI D s)(hq:RI D q)(hVs:s.V<=6)(hVq:q.V<=6):post (n9 (s.p D) (q.p D)) λb=>b=true->GG D s q:=by
 have no:post (some false:O Bool) λb=>b=true->GG D s q:=aI.2 λh=>by cases h
 have h64:2 ^ s.V<=64:=Qb2 (by omega) hVs
 have h65:2 ^ q.V<=64:=Qb2 (by omega) hVq
 have hl1:=hs.len;have k_:=hq.len;have hm1:=hs.mem;have Zg:=hq.mem;unfold n9;refine bg (λ_=>no) (λh1=>?_)
 rw[Ja,vu,vu]at h1;have Dc:s.place=q.place:=h1.1;have TS:(s.B:Int)=(q.B:Int):=h1.2;unfold DA;rw[af];refine bg (λ_=>no) (λh2=>?_)
 rw[Ja,ntF,kp,iu]at h2;have hme:=(Wk (a:=s.M) (b:=q.M) (by omega) (by omega)).1 h2.1
 have hvi:(s.V:Int)<=(q.V:Int):=h2.2;have hf:=(RF (a:=dR D s.f) (cap:=dR D q.f) (by rw[fJ,fJ]) (by rw[fJ];omega)).1
 show post (aQ (sL (dR D s.f) (dR D q.f)) _) _;rw[hf,af];refine bg (λh3=>?_) (λ_=>no)
 rw[ntT]at h3;obtain⟨c,c1,c2⟩:=Qg8 (a:=s.r) (b:=q.r) (hs.val.more (by omega)) (hq.val.more (by omega))
 show post (aQ (jn (jG s.r) (jG q.r)) _) _;rw[c1,af];refine bg (λ_=>no) (λh4=>?_)
 rw[iu]at h4;refine bw (R:=λe=>(e=.inl ()/\∀c∈q.C,∃d∈s.C,zD d c=true)\/e=.inr false) ?_ ?_
 ·refine qj (B:=λz=>fA (s.p D) (q.p D) z) q.C.length _ (λk=>∀c,q.C[k]?=some c->∃d∈s.C,zD d c=true) (by omega) (λk hk=>?_) ?_
  ·show post (fA (s.p D) (q.p D) (k:Int)) _;unfold fA;have e:q.C[k]?=some q.C[k]:=dr hk;generalize q.C[k]=c at e;rw[bk (by rw[ew];show(k:Int)<(q.C.length:Int);omega)]
   show post (aQ (bn q.C (k:Int)) _) _;rw[bB e,af];show post (aQ (cu s.C c) _) _;rw[Qg_ (by omega),af,dZ (by omega) (by omega)]
   refine bg (λhy=>aI.2 (.inl ⟨rfl,λc' CJ=>?_⟩)) (λ_=>aI.2 (.inr ⟨_,rfl,.inr rfl⟩))
   rw[e]at CJ;cases CJ;obtain⟨d,hd,WS⟩:=Qf0.1 hy;exact⟨d,hd,WS⟩
  ·show post (fA (s.p D) (q.p D) (q.C.length:Int)) _;unfold fA;rw[aR (by rw[eC];show(q.C.length:Int)<=(q.C.length:Int);omega)]
   refine aI.2 ⟨_,rfl,λo6=>.inl ⟨rfl,λc hc=>?_⟩⟩
   obtain⟨k,hk⟩:=QeT.1 hc;exact o6 k (pB.1 hk).1 c hk
 ·rintro _ (⟨rfl,h5⟩|rfl)
  ·rw[c5];exact aI.2 λ_=>⟨Dc,by omega,hme,by omega,Qb6.1 h3,c2.1 h4,h5⟩
  ·rw[iJ];exact no
end
def pn(x:ae):Nat->List ab
 |0=>[]
 |k+1=>pn x k++if L6 x k=true then []else gv x (k:Int)
section
variable {x : ae} {v : ab}
theorem H_:∀k,(pn x k).length<=2*k
 |0=>fa _
 |k+1=>by
  have:=H_ k;have:=uK (x:=x) (o:=(k:Int));unfold pn;rw[Qay];split
  ·simp;omega
  ·omega
theorem Yo:∀{k},v∈pn x k->∃i:Nat,i<k/\v.aP=(i:Int)/\v∈gv x (i:Int)/\L6 x i=false
 |0,h=>by cases h
 |k+1,h=>by
  unfold pn at h;rcases QaI.1 h with h|h
  ·obtain⟨i,h1,h2⟩:=Yo h;exact⟨i,by omega,h2⟩
  ·split at h
   ·cases h
   ·rename_i ho;exact⟨k,by omega,s_ h,h,by simpa using ho⟩
theorem QcV:∀{k i:Nat},i<k->L6 x i=false->v∈gv x (i:Int)->v∈pn x k
 |0,i,h,_,_=>absurd h (Ql1 _)
 |k+1,i,h,ho,hv=>by
  unfold pn;rcases sh i k with h'|h'
  ·exact Qf9 _ (QcV h' ho hv)
  ·obtain rfl:i=k:=by omega
   rw[ho,if_neg (by simp)]
   exact QhL _ hv
theorem all_eq(hx:dn x):BL x=some (pn x x.ai.length):=by
 have dO:=hx.ai;unfold BL;have Ao:aL (λs:List ab×Int=>qL x s.1 s.2) ([],0)=some (pn x x.ai.length):=by
  refine post.eq (p6 x.ai.length (by omega) (λ(k:Nat) (s:List ab×Int)=>s=(pn x k,(k:Int))) rfl ?_ ?_)
  ·rintro k _ hk rfl;show post (qL x (pn x k) (k:Int)) _;unfold qL;have e:x.ai[k]?=some x.ai[k]:=dr hk;have ho:L6 x k=x.ai[k].off:=by unfold L6;rw[e]
   have hl:=H_ (x:=x) k;have k_:=uK (x:=x) (o:=(k:Int));rw[bk (by rw[ew];unfold ay;omega),bB e,af,<-ho,dZ (by omega) (by omega),show(k:Int)+1=((k+1:Nat):Int) by omega]
   refine bg (λh=>cZ (C:=λs'=>_) ?_) (λh=>?_)
   ·show(pn x k,_)=(pn x k++(if L6 x k=true then []else gv x (k:Int)),_)
    rw[if_pos h,Qf1]
   ·rw[BA hx (by omega) (by omega),af]
    refine bY (by unfold fQ;rw[Qay];omega) (cZ (C:=λs'=>_) ?_)
    show _=(pn x k++_,_);rw[if_neg (by rw[h];simp)]
  ·rintro _ rfl;show post (qL x _ (x.ai.length:Int)) _;unfold qL;rw[aR (by rw[eC];unfold ay;omega)]
   exact dd rfl
 rw[cN Ao]
def H6(n:Nat)(l:List Int):Prop:=l.length=n/\∀i,i<n->∃m:Nat,l[i]?=some (m:Int)/\m<1024
theorem QcI(hx:dn x){kind:Int}(hk:0<=kind/\kind<x.types.length){fZ:List Int}(hn:H6 x.ai.length fZ):
  post (wU x kind fZ) λr=>r=(none,2)\/∃t,x.types[kind.toNat]?=some t/\r=(some (ax.mk x kind t fZ [] ((pn x x.ai.length).length:Int)),0):=by
 have dO:=hx.ai;unfold wU;refine bg (λ_=>aI.2 (.inl rfl)) (λ_=>?_)
 refine bw (R:=λe=>e=.inl ()\/e=.inr (none,2)) ?_ ?_
 ·refine qj (B:=λs=>oQ x kind fZ s) fZ.length _ (λ_=>True) (by have:=hn.1;omega) (λk hk=>?_) ?_
  ·show post (oQ x kind fZ (k:Int)) _;unfold oQ;have yw:k<x.ai.length:=by have:=hn.1;omega
   obtain⟨m,m1,m2⟩:=hn.2 k yw;rw[bk (by rw[ew];unfold ay;omega),bB m1,af,dZ (by omega) (by omega)]
   have bad:post (some (Sum.inr (Sum.inr (none,2))):O (Int⊕(Unit⊕(O ax×Int)))) λx=>(x=.inl ((k:Int)+1)/\True)\/∃e,x=.inr e/\(e=.inl ()\/e=.inr (none,2)):=aI.2 (.inr ⟨_,rfl,.inr rfl⟩)
   refine bg (λ_=>bad) (λ_=>?_)
   rw[Rw (by omega) (by omega),af]
   refine bg (λ_=>bY (by unfold ay;omega) (bg (λ_=>bad) λ_=>aI.2 (.inl ⟨rfl,trivial⟩))) (λ_=>bad)
  ·show post (oQ x kind fZ (fZ.length:Int)) _;unfold oQ;rw[aR (by rw[eC];unfold ay;omega)]
   exact aI.2 ⟨_,rfl,λ_=>.inl rfl⟩
 ·rintro _ (rfl|rfl)
  ·rw[c5];have e:x.types[kind.toNat]?=some (x.types[kind.toNat]'(by omega)):=dr _
   rw[Db hk.1 hk.2,af,all_eq hx,af];exact aI.2 (.inr ⟨_,e,rfl⟩)
  ·rw[iJ];exact aI.2 (.inl rfl)
theorem ZJ{size:Int}{l l1:List Int}{v:Nat}(h2:x.ai.length<=2)(hv:v<x.ai.length):post (aL (λs:List Int×Int=>oP x size l l1 (v:Int) s.1 s.2) ([],0)) λo=>o.length<=1/\∀a∈o,0<=a/\a<10:=by
 refine p6 x.ai.length (by omega) (λ(k:Nat) (s:List Int×Int)=>s.2=(k:Int)/\s.1.length+(if v<k then 1 else 0)=k/\∀a∈s.1,0<=a/\a<10) ⟨rfl,by simp,λa h=>by cases h⟩ ?_ ?_
 ·rintro k ⟨o,q⟩ hk ⟨rfl,h3,h4⟩;simp only at h3 h4;show post (oP x size l l1 (v:Int) o (k:Int)) _;unfold oP;rw[bk (by rw[ew];unfold ay;omega),dZ (by omega) (by omega),show(k:Int)+1=((k+1:Nat):Int) by omega]
  refine bg (λlN=>?_) (λlN=>?_)
  ·rw[uA]at lN;refine bY (by unfold fQ;rw[Qay];simp only[QeU];omega) (cZ (C:=λs'=>_) ⟨rfl,?_,λa ha=>?_⟩)
   ·simp only[Qay,QeU];split at h3 <;> split <;> omega
   ·rcases QaI.1 ha with ha|ha
    ·exact h4 a ha
    ·rw[Qaz.1 ha];omega
  ·rw[vu]at lN;refine cZ (C:=λs'=>_) ⟨rfl,?_,h4⟩
   simp only;split at h3 <;> split <;> omega
 ·rintro⟨o,q⟩ ⟨rfl,h3,h4⟩;show post (oP x size l l1 (v:Int) o (x.ai.length:Int)) _;unfold oP;rw[aR (by rw[eC];unfold ay;omega)]
  simp only at h3 h4;refine dd ⟨?_,h4⟩;rw[if_pos hv]at h3;omega
theorem H6.set{n:Nat}{l:List Int}(h:H6 n l){i m:Nat}(hm:m<1024):H6 n (l.set i (m:Int)):=by
 refine⟨by rw[Qjm,h.1],λj hj=>?_⟩
 by_cases e:i=j
 ·subst e;exact⟨m,by rw[Qf8 (by rw[h.1];exact hj)],hm⟩
 ·rw[QgP e];exact h.2 j hj
theorem Qes{size:Int}(h2:x.ai.length<=2):post (Ct x size) λr=>r.2=0->H6 x.ai.length r.1:=by
 unfold Ct;refine bg (λ_=>aI.2 λh=>absurd h (by show ¬(2:Int)=0;omega)) (λjI=>?_)
 rw[Ja,eC,iu]at jI;have RQ:Bd (ay x.ai) (ay x.ai) 8 (0:Int)=some (List.replicate x.ai.length 0):=by
  unfold Bd ay;rw[if_pos (by omega),QaC]
 rw[RQ,af];refine bw (R:=λl=>H6 x.ai.length l) ?_ λl hl=>aI.2 λ_=>hl
 obtain⟨Z,hZ⟩:∃Z,Z=List.replicate x.ai.length (0:Int):=⟨_,rfl⟩;have hZl:Z.length=x.ai.length:=by rw[hZ,Qi0]
 rw[<-hZ];refine p6 x.ai.length (by omega) (λ(k:Nat) (s:List Int×Int)=>s.2=(k:Int)/\H6 x.ai.length s.1) ⟨rfl,hZl,λi hi=>⟨0,by rw[hZ,Qjr,if_pos hi];rfl,by omega⟩⟩ ?_ ?_
 ·rintro v ⟨l1,q⟩ hv ⟨rfl,hN⟩;simp only at hN;show post (qW x size Z l1 (v:Int)) _;unfold qW;rw[bk (by rw[ew];unfold ay;omega)]
  refine bw (ZJ h2 hv) ?_
  rintro o ⟨o1,o2⟩;have ir:R3 o x (v:Int)=some ():=if_pos o1;rw[ir,af];refine bY (by omega) ?_
  obtain⟨m,m1,m2⟩:=hN.2 v hv;rw[bB m1,af,Qaa (by omega),QkD,nd (by omega) (by omega)]
  have Ue:wm o 0 (min (size-1) (ay o))=some (o.take (min (size-1) (ay o)).toNat):=by
   unfold wm ay;rw[if_pos ⟨by omega,by omega,by omega⟩]
   simp
  rw[Ue,af];obtain⟨P,hP⟩:∃P,P=o.take (min (size-1) (ay o)).toNat:=⟨_,rfl⟩;have hPl:P.length<=1:=by rw[hP,Qdo];omega
  have hPm:∀a∈P,0<=a/\a<10:=λa ha=>o2 a (Qi1 (by rw[<-hP];exact ha))
  rw[<-hP];have iH:2 ^ v<1024:=Qkn (n:=10) (by omega) (by omega)
  refine bw (R:=λl=>H6 x.ai.length l) ?_ λl hl=>?_
  ·refine p6 P.length (by omega) (λ(k:Nat) (s:List Int×Int)=>s.2=(k:Int)/\H6 x.ai.length s.1) ⟨rfl,hN.set iH⟩ ?_ ?_
   ·rintro k ⟨l5,q⟩ hk ⟨rfl,h5⟩;simp only at h5;show post (qX x size Z (v:Int) P l5 (k:Int)) _;unfold qX;have e:P[k]?=some P[k]:=dr hk;have hm:=hPm _ (QaH hk);generalize P[k]=a at e hm;obtain⟨u,u1,u2⟩:=h5.2 v hv;obtain⟨b,rfl⟩:∃b:Nat,a=(b:Int):=⟨a.toNat,by omega⟩
    have hp3:2 ^ b<1024:=Qkn (n:=10) (by omega) (by omega)
    rw[bk (by rw[ew];unfold ay;omega),bB e,af,bB u1,af,eU (by omega),Qaa (by omega),orN (by omega) (by omega),dZ (by omega) (by omega),show(k:Int)+1=((k+1:Nat):Int) by omega]
    exact cZ (C:=λs'=>_) ⟨rfl,h5.set (Qkt (n:=10) u2 hp3)⟩
   ·rintro⟨l5,q⟩ ⟨rfl,h5⟩;show post (qX x size Z (v:Int) P l5 (P.length:Int)) _;unfold qX;rw[aR (by rw[eC];unfold ay;omega)]
    exact dd h5
  ·rw[dZ (by omega) (by omega),show(v:Int)+1=((v+1:Nat):Int) by omega]
   exact cZ (C:=λs'=>_) ⟨rfl,hl⟩
 ·rintro⟨l1,q⟩ ⟨rfl,hN⟩;show post (qW x size Z l1 (x.ai.length:Int)) _;unfold qW;rw[aR (by rw[eC];unfold ay;omega)]
  exact dd hN
def QI(t:av):RP:=RP.mk t.aY 0 0 0 (λ_=>0) [ag.mk t.bA 0] 0
theorem QgR{D:Nat}{t:av}(ht:0<=t.bA/\t.bA<=8192):RI D (QI t)/\UG t (QI t).C:=by
 refine⟨⟨by show(0:Nat)<1024;omega,by show(0:Nat)<1024;omega,λd _=>⟨QaJ _,QaJ _⟩,fa _,λc hc=>?_,?_⟩,λc hc=>?_⟩
 ·rw[Qaz.1 hc];exact⟨ht.1,ht.2,QaJ _,by show(0:Int)<=4096;omega⟩
 ·have h2:rl 2 (0:Rat):=⟨M7 (by omega) (by decide),M7 (by omega) (by decide)⟩
  exact h2
 ·rw[Qaz.1 hc];exact QaJ _
theorem QgU{w:ax}{t:av}{D:Nat}(hw:w.t=t)(hD:t.cap.length=D)(h3:D<=3):lZ w=some ((QI t).p D,w):=by
 unfold lZ;rw[hw];have RQ:Bd (ay t.cap) (ay t.cap) 8 (0:Int)=some (dR D λ_=>0):=by
  unfold Bd ay;rw[hD,if_pos (by omega),QaC]
  congr 1;unfold dR;rw[List.map_const'];simp
 have h0:bZ=jG (0:Rat):=by
  rw[show(0:Rat)=((0:Int):Rat)from rfl,ZT,E8];rfl
 rw[RQ,af,h0];rfl
end
theorem Qmn{a b:Rat}(ha:rl 4095 a)(hb:rl 4095 b):∃c,jn (jG a) (jG b)=some c/\(c<=0->a<=b)/\(0<=c->b<=a):=by
 refine⟨_,Qb ha hb,λh=>?_,λh=>?_⟩
 ·rw[Rat.le_iff];unfold Go.Lib.compareInt at h;split at h
  ·rename_i h';exact Int.le_of_lt h'
  ·split at h <;> omega
 ·rw[Rat.le_iff];unfold Go.Lib.compareInt at h;split at h
  ·omega
  ·rename_i h';omega
structure KnI (D:Nat) (t:av) (K:Nat) (s:RP):Prop where
 ri:RI D s
 lo:UG t s.C
 v0:0<s.V
 v1:s.V<=K
section
variable {x : ae} {t : av} {kind : Int} {nr : Nat -> Nat} {du : Nat -> Rat} {K : Nat} {w : ax} {s q : RP} {D i : Nat} {o : aw} {v : ab} {st : aS}
theorem GG.refl:GG D s s:=⟨rfl,rfl,λ_ h=>h,fa _,λ_ _=>QaJ _,Rat.le_refl,λc hc=>⟨c,hc,BC⟩⟩
theorem Qa7{kn:List RP}(hD:D<=3)(hK:K<=6)(hl:kn.length<=1048576)(hk:∀s∈kn,KnI D t K s)(hq:RI D q)(hqv:q.V<=6):
  post (cj (kn.map (RP.p D)) (q.p D)) λb=>b=true->∃s∈kn,GG D s q:=by
 unfold cj dD;refine bw (R:=λr=>0<=r->∃s∈kn,GG D s q) ?_ ?_
 ·refine bw (R:=λe=>(∃u,e=.inl u)\/∃k:Nat,e=.inr (k:Int)/\∃s∈kn,GG D s q) ?_ ?_
  ·refine qj (B:=λz=>bE (kn.map (RP.p D)) (q.p D) z) kn.length _ (λ_=>True) (by omega) (λk hkk=>?_) ?_
   ·show post (bE (kn.map (RP.p D)) (q.p D) (k:Int)) _;unfold bE Ab;have e:(kn.map (RP.p D))[k]?=some (kn[k].p D):=by rw[Qc0,dr hkk];rfl
    have hm:=QaH hkk;have hks:=hk _ hm;generalize kn[k]=s at e hm hks;rw[bk (by rw[ew];unfold ay;rw[Qbn];omega),bB e,af]
    refine bw (R:=λb=>b=true->GG D s q) (bw (Qa3 hD hks.ri hq (by have:=hks.v1;omega) hqv) λb hb=>aI.2 hb) λb hb=>?_
    rw[dZ (by omega) (by omega)]
    exact bg (λh=>aI.2 (.inr ⟨_,rfl,.inr ⟨k,rfl,s,hm,hb h⟩⟩)) λ_=>aI.2 (.inl ⟨rfl,trivial⟩)
   ·show post (bE (kn.map (RP.p D)) (q.p D) (kn.length:Int)) _;unfold bE;rw[aR (by rw[eC];unfold ay;rw[Qbn];omega)]
    exact aI.2 ⟨_,rfl,λ_=>.inl ⟨(),rfl⟩⟩
  ·rintro _ (⟨u,rfl⟩|⟨k,rfl,h⟩)
   ·rw[c5];exact aI.2 λh=>absurd h (by omega)
   ·rw[iJ];exact aI.2 λ_=>h
 ·intro r hr;exact aI.2 λh=>hr (by rw[gX]at h;exact h)
def Qgh(dw:I)(dU:Bool)(b:Rat):Prop:=dU=true->dw=jG b/\rl 1000 b
def Qgk(x:ae)(t:av)(s:RP)(dU:Bool)(b:Rat):Prop:=∃e m ok,QoO x t s e m ok/\(ok=true->dU=true/\b<=s.r+CI (jP t e m))
def BO(x:ae)(t:av)(kind:Int)(nr:Nat->Nat)(du:Nat->Rat)(K D:Nat)(kn:List RP)(s:RP)(v:ab):Prop:=
 ∀(i:Nat) o,v.aP=(i:Int)->x.ai[i]?=some o->∀q,I8 x t kind nr du K D s v i o=some q->∃k∈kn,GG D k q
structure BdI (x:ae) (t:av) (K D:Nat) (kn:List RP) (dw:I) (dU:Bool):Prop where
 all:∀s∈kn,KnI D t K s
 dw:∃b:Rat,Qgh dw dU b/\∀s∈kn,Qgk x t s dU b
theorem BO.more{kn Ap:List RP}(h:BO x t kind nr du K D kn s v)(hs:∀k∈kn,k∈Ap):BO x t kind nr du K D Ap s v:=λi o hv ho q hq=>by
 obtain⟨k,hk,hb⟩:=h i o hv ho q hq;exact⟨k,hs k hk,hb⟩
theorem QjG(hw:UK x t kind nr du K w)(hD:D=cU x.types){c:ax}{SP:List ab}{l l1:List ah}{v1:Int}{kn mo:List RP}{dw:I}{dU:Bool}{j R:Nat}
  (G8:SP=pn x x.ai.length) (hj:SP[j]?=some v) (hs:RI D s) (lS:UG t s.C) (hsV:s.V=R) (hR:R<=K) (hB:BdI x t K D kn dw dU) (hmo:∀m∈mo,m∈kn/\m.V=R+1) (hl:kn.length<=1000000/\mo.length<=1000000):
  post (mS c SP l l1 v1 (s.p D) (kn.map (RP.p D)) (mo.map (RP.p D)) w dw dU (j:Int)) λz=>(∀s',z=.inl s'->∃(Ap GN:List RP) (mA:I) (gM:Bool),s'=(Ap.map (RP.p D),GN.map (RP.p D),w,mA,gM,((j+1:Nat):Int))/\BdI x t K D Ap mA gM/\(∀m∈GN,m∈Ap/\m.V=R+1)/\(∀k∈kn,k∈Ap)/\(∀k∈Ap,k∈kn\/k∈GN)/\(∀k∈mo,k∈GN)/\Ap.length<=kn.length+1/\GN.length<=mo.length+1/\BO x t kind nr du K D Ap s v)/\
   ∀e,z=.inr e->False:=by
 have hjl:=(pB.1 hj).1;have hlen:=H_ (x:=x) x.ai.length;rw[<-G8]at hlen;have h3:=hw.rr;have hK:=hw.QlR;obtain⟨i,hi1,Cc,hi3,hi4⟩:=Yo (k:=x.ai.length) (by rw[<-G8];exact QaG hj)
 have hio:x.ai[i]?=some x.ai[i]:=dr hi1;generalize x.ai[i]=o at hio;have hD3:D<=3:=by rw[hD];exact(Fw hw.ok).2
 unfold mS;rw[bk (by rw[ew];unfold ay;omega),bB hj,af]
 refine bw (Qfn hw hD (by omega) hs hio Cc) ?_
 rintro⟨p4,b4,w4⟩ ⟨g1,g2⟩;simp only at g1;subst g1;have hj1:aV .i64 (j:Int) 1=((j+1:Nat):Int):=by rw[dZ (by omega) (by omega)];omega
 have Qg5:∀{Ap:List RP},(∀q,I8 x t kind nr du K D s v i o=some q->∃k∈Ap,GG D k q)->BO x t kind nr du K D Ap s v:=λh i' o' J5 ho' q hq=>by
  have:i'=i:=by omega
  subst this;rw[hio]at ho';cases ho';exact h q hq
 cases hn:I8 x t kind nr du K D s v i o with
 |none =>
  rw[hn]at g2;simp only at g2;subst g2;show post (br false _ _) _;rw[dX,hj1];exact cZ (C:=λs'=>_) ⟨kn,mo,dw,dU,rfl,hB,hmo,λ_ h=>h,λ_ h=>.inl h,λ_ h=>h,by omega,by omega,Qg5 λq hq=>by rw[hn]at hq;cases hq⟩
 |some q =>
  rw[hn]at g2;simp only[Qlq]at g2;obtain⟨rfl,rfl,-⟩:=g2;obtain⟨q1,q2,q3⟩:=QkG hw hD (by omega) hs hio hn
  have q4:=Qiu hw hs lS hn;have hqV:q.V<=6:=by omega
  show post (br true _ _) _;rw[dT];show post (aQ (cj (kn.map (RP.p D)) (q.p D)) _) _;refine bw (Qa7 hD3 hK (by omega) hB.all q1 hqV) λb hb=>?_
  rw[hj1];refine bg (λRN=>?_) (λ_=>?_)
  ·exact cZ (C:=λs'=>_) ⟨kn,mo,dw,dU,rfl,hB,hmo,λ_ h=>h,λ_ h=>.inl h,λ_ h=>h,by omega,by omega,Qg5 λq' hq'=>by rw[hn]at hq';cases hq';exact hb RN⟩
  ·have e1:kn.map (RP.p D)++[q.p D]=(kn++[q]).map (RP.p D):=by simp
   have e2:mo.map (RP.p D)++[q.p D]=(mo++[q]).map (RP.p D):=by simp
   have hkq:KnI D t K q:=⟨q1,q4,by omega,by omega⟩
   refine bY (by unfold fQ;simp only[Qay,Qbn,QeU];omega) (bY (by unfold fQ;simp only[Qay,Qbn,QeU];omega) ?_)
   refine bw (Qhp hw q1 hqV q4) ?_
   rintro⟨e,m,ok,w6⟩ ⟨k1,k2⟩;simp only at k1 k2;subst k1;have fin:∀(mA:I) (gM:Bool),(∃b:Rat,Qgh mA gM b/\(∀s∈kn,Qgk x t s gM b)/\Qgk x t q gM b)->post (some (Sum.inl (kn.map (RP.p D)++[q.p D],mo.map (RP.p D)++[q.p D],w6,mA,gM,((j+1:Nat):Int))):O ((List ah×List ah×ax×I×Bool×Int)⊕(List ah×List ah×ax×I×Bool))) λz=>(∀s',z=.inl s'->∃(Ap GN:List RP) (mA:I) (gM:Bool),s'=(Ap.map (RP.p D),GN.map (RP.p D),w6,mA,gM,((j+1:Nat):Int))/\BdI x t K D Ap mA gM/\(∀m∈GN,m∈Ap/\m.V=R+1)/\(∀k∈kn,k∈Ap)/\(∀k∈Ap,k∈kn\/k∈GN)/\(∀k∈mo,k∈GN)/\Ap.length<=kn.length+1/\GN.length<=mo.length+1/\BO x t kind nr du K D Ap s v)/\∀e,z=.inr e->False:=λmA gM ⟨b,c1,c2,c3⟩=>by
    rw[e1,e2];refine cZ (C:=λs'=>_) ⟨kn++[q],mo++[q],mA,gM,rfl,⟨λs hs=>?_,b,c1,λs hs=>?_⟩,λm hm=>?_,λk hk=>Qf9 _ hk,λk hk=>?_,λk hk=>Qf9 _ hk,by simp,by simp,Qg5 λq' hq'=>?_⟩
    ·rcases QaI.1 hs with hs|hs
     ·exact hB.all s hs
     ·rw[Qaz.1 hs];exact hkq
    ·rcases QaI.1 hs with hs|hs
     ·exact c2 s hs
     ·rw[Qaz.1 hs];exact c3
    ·rcases QaI.1 hm with hm|hm
     ·exact⟨Qf9 _ (hmo m hm).1,(hmo m hm).2⟩
     ·rw[Qaz.1 hm];exact⟨QhL _ (Qaz.2 rfl),by omega⟩
    ·rcases QaI.1 hk with hk|hk
     ·exact .inl hk
     ·exact .inr (QhL _ hk)
    ·rw[hn]at hq';cases hq';exact⟨q,QhL _ (Qaz.2 rfl),GG.refl⟩
   obtain⟨b0,MI,Fz⟩:=hB.dw;show post (br ok _ _) _;cases y5:ok with
   |false =>
    rw[dX];exact fin dw dU ⟨b0,MI,Fz,e,m,ok,k2,λh=>by rw[y5]at h;cases h⟩
   |true =>
    rw[dT];obtain⟨p1,p2⟩:=QiI hw (s:=q) (D:=D) (e:=e) (m:=m) (q1.val.more (by omega)) (k2.bd y5)
    show post (aQ (l_ w6 (q.p D) e m) _) _;rw[p1,af];have Qp:rl 1000 (q.r+CI (jP t e m)):=(PI q1.val (Mg p2)).more (by omega)
    have fresh:dU=false->∃b:Rat,Qgh (jG (q.r+CI (jP t e m))) true b/\(∀s∈kn,Qgk x t s true b)/\Qgk x t q true b:=λhf=>by
     refine⟨q.r+CI (jP t e m),λ_=>⟨rfl,Qp⟩,λs hs=>?_,e,m,ok,k2,λ_=>⟨rfl,Rat.le_refl⟩⟩
     obtain⟨e',m',ok',z1,z2⟩:=Fz s hs;refine⟨e',m',ok',z1,λh=>?_⟩
     have:=(z2 h).1;rw[hf]at this;cases this
    cases hfo:dU with
    |false =>
     rw[dX];exact fin _ true (fresh hfo)
    |true =>
     rw[dT];obtain⟨hbe,Yn⟩:=MI hfo;obtain⟨cc,c1,c2,c3⟩:=Qmn (Qp.more (show 1000<=4095 by omega)) (Yn.more (show 1000<=4095 by omega))
     rw[hbe,c1,af];refine bg (λiq=>?_) (λRO=>?_)
     ·rw[ew]at iq;have hle:=c2 (by omega)
      refine fin _ true ⟨q.r+CI (jP t e m),λ_=>⟨rfl,Qp⟩,λs hs=>?_,e,m,ok,k2,λ_=>⟨rfl,Rat.le_refl⟩⟩
      obtain⟨e',m',ok',z1,z2⟩:=Fz s hs;exact⟨e',m',ok',z1,λh=>⟨rfl,Rat.le_trans hle (z2 h).2⟩⟩
     ·rw[eC]at RO;have hle:=c3 (by omega)
      refine fin _ true ⟨b0,λ_=>⟨rfl,Yn⟩,λs hs=>?_,e,m,ok,k2,λ_=>⟨rfl,hle⟩⟩
      have:=Fz s hs;rw[hfo]at this;exact this
end
section
variable {x : ae} {t : av} {kind : Int} {nr : Nat -> Nat} {du : Nat -> Rat} {K : Nat} {w : ax} {s q : RP} {D i : Nat} {o : aw} {v : ab} {st : aS}
theorem Qqr{α β:Type}{f:α->O β}{g:O β}:opt none f g=g:=rfl
theorem Qqs{α β:Type}{a:α}{f:α->O β}{g:O β}:opt (some a) f g=f a:=rfl
structure QcQ (x:ae) (t:av) (K D R n:Nat) (kn mo Ap GN:List RP) (mA:I) (gM:Bool):Prop where
 bd:BdI x t K D Ap mA gM
 mor:∀m∈GN,m∈Ap/\m.V=R+1
 sub:∀k∈kn,k∈Ap
 or:∀k∈Ap,k∈kn\/k∈GN
 Qnw:∀k∈mo,k∈GN
 Qh7:Ap.length<=kn.length+n
 Qis:GN.length<=mo.length+n
theorem QjF(hw:UK x t kind nr du K w)(hD:D=cU x.types){c:ax}{l l1:List ah}{v1:Int}{kn mo:List RP}{dw:I}{dU:Bool}{R:Nat}
  (hs:RI D s) (lS:UG t s.C) (hsV:s.V=R) (hR:R<=K) (hB:BdI x t K D kn dw dU) (hmo:∀m∈mo,m∈kn/\m.V=R+1) (hl:kn.length<=999000/\mo.length<=999000):
  post (aL (λz:List ah×List ah×ax×I×Bool×Int=>mS c (pn x x.ai.length) l l1 v1 (s.p D) z.1 z.2.1 z.2.2.1 z.2.2.2.1 z.2.2.2.2.1 z.2.2.2.2.2) (kn.map (RP.p D),mo.map (RP.p D),w,dw,dU,0)) λe =>
   ∃(Ap GN:List RP) (mA:I) (gM:Bool),e=(Ap.map (RP.p D),GN.map (RP.p D),w,mA,gM)/\QcQ x t K D R 6 kn mo Ap GN mA gM/\∀v∈pn x x.ai.length,BO x t kind nr du K D Ap s v:=by
 have hlen:=H_ (x:=x) x.ai.length;have h3:=hw.rr;refine p6 (pn x x.ai.length).length (by omega) (λ(j:Nat) (z:List ah×List ah×ax×I×Bool×Int)=>∃(Ap GN:List RP) (mA:I) (gM:Bool),z=(Ap.map (RP.p D),GN.map (RP.p D),w,mA,gM,(j:Int))/\QcQ x t K D R j kn mo Ap GN mA gM/\∀(j':Nat) v,j'<j->(pn x x.ai.length)[j']?=some v->BO x t kind nr du K D Ap s v)
  ⟨kn,mo,dw,dU,rfl,⟨hB,hmo,λ_ h=>h,λ_ h=>.inl h,λ_ h=>h,fa _,fa _⟩,λj' v h=>by omega⟩ ?_ ?_
 ·rintro j _ hj ⟨Ap,GN,mA,gM,rfl,hP,hC⟩;have e:(pn x x.ai.length)[j]?=some (pn x x.ai.length)[j]:=dr hj;generalize(pn x x.ai.length)[j]=v at e;have hk:=hP.Qh7;have hm:=hP.Qis;refine(QjG hw hD (l:=l) (l1:=l1) (v1:=v1) (c:=c) rfl e hs lS hsV hR hP.bd hP.mor (by omega)).mono ?_
  rintro z ⟨h1,h2⟩;refine⟨λs' fK=>?_,λe he=>(h2 e he).elim⟩
  obtain⟨kn2,mo2,Eg,wE,rfl,b1,b2,b3,b4,b5,b6,b7,b8⟩:=h1 s' fK;refine⟨kn2,mo2,Eg,wE,rfl,⟨b1,b2,λk hk=>b3 k (hP.sub k hk),λk hk=>?_,λk hk=>b5 k (hP.Qnw k hk),by omega,by omega⟩,λj' v' Nl J5=>?_⟩
  ·rcases b4 k hk with h|h
   ·rcases hP.or k h with h|h
    ·exact .inl h
    ·exact .inr (b5 k h)
   ·exact .inr h
  ·rcases sh j' j with h|h
   ·exact(hC j' v' h J5).more b3
   ·obtain rfl:j'=j:=by omega
    rw[e]at J5;cases J5;exact b8
 ·rintro _ ⟨Ap,GN,mA,gM,rfl,hP,hC⟩;show post (mS c (pn x x.ai.length) l l1 v1 (s.p D) _ _ w mA gM ((pn x x.ai.length).length:Int)) _;unfold mS;rw[aR (by rw[eC];unfold ay;omega)]
  have hk:=hP.Qh7;have hm:=hP.Qis;refine dd ⟨Ap,GN,mA,gM,rfl,⟨hP.bd,hP.mor,hP.sub,hP.or,hP.Qnw,by omega,by omega⟩,λv hv=>?_⟩
  obtain⟨j,hj⟩:=QeT.1 hv;exact hC j v (pB.1 hj).1 hj
theorem QjE(hw:UK x t kind nr du K w)(hD:D=cU x.types){c:ax}{l l1:List ah}{kn fr:List RP}{dw:I}{dU:Bool}{R:Nat}
  (hl1:l1=fr.map (RP.p D)) (td:∀s∈fr,RI D s/\UG t s.C/\s.V=R) (hR:R<=K) (hB:BdI x t K D kn dw dU) (hl:kn.length+6*fr.length<=900000):
  post (aL (λz:List ah×List ah×ax×I×Bool×Int=>mR c (pn x x.ai.length) l l1 z.1 z.2.1 z.2.2.1 z.2.2.2.1 z.2.2.2.2.1 z.2.2.2.2.2) (kn.map (RP.p D),[],w,dw,dU,0)) λe =>
   ∃(Ap GN:List RP) (mA:I) (gM:Bool),e=(Ap.map (RP.p D),GN.map (RP.p D),w,mA,gM)/\QcQ x t K D R (6*fr.length) kn [] Ap GN mA gM/\∀s∈fr,∀v∈pn x x.ai.length,BO x t kind nr du K D Ap s v:=by
 subst hl1;refine p6 fr.length (by omega) (λ(j:Nat) (z:List ah×List ah×ax×I×Bool×Int)=>∃(Ap GN:List RP) (mA:I) (gM:Bool),z=(Ap.map (RP.p D),GN.map (RP.p D),w,mA,gM,(j:Int))/\QcQ x t K D R (6*j) kn [] Ap GN mA gM/\∀(j':Nat) s,j'<j->fr[j']?=some s->∀v∈pn x x.ai.length,BO x t kind nr du K D Ap s v)
  ⟨kn,[],dw,dU,rfl,⟨hB,λ_ h=>(by cases h),λ_ h=>h,λ_ h=>.inl h,λ_ h=>h,fa _,fa _⟩,λj' v h=>by omega⟩ ?_ ?_
 ·rintro j _ hj ⟨Ap,GN,mA,gM,rfl,hP,hC⟩;have e:fr[j]?=some fr[j]:=dr hj;have hm:=td _ (QaH hj);generalize fr[j]=s at e hm;have hk:=hP.Qh7;have hml:=hP.Qis;simp only[QbH]at hml;show post (mR c (pn x x.ai.length) l (fr.map (RP.p D)) (Ap.map (RP.p D)) (GN.map (RP.p D)) w mA gM (j:Int)) _;unfold mR;have e2:(fr.map (RP.p D))[j]?=some (s.p D):=by rw[Qc0,e];rfl
  rw[bk (by rw[ew];unfold ay;rw[Qbn];omega),bB e2,af]
  refine bw (QjF hw hD hm.1 hm.2.1 hm.2.2 hR hP.bd hP.mor (by omega)) ?_
  rintro _ ⟨kn2,mo2,Eg,wE,rfl,hQ,hC2⟩;rw[dZ (by omega) (by omega),show(j:Int)+1=((j+1:Nat):Int) by omega]
  have hk2:=hQ.Qh7;have Zg:=hQ.Qis;refine cZ (C:=λs'=>_) ⟨kn2,mo2,Eg,wE,rfl,⟨hQ.bd,hQ.mor,λk hk=>hQ.sub k (hP.sub k hk),λk hk=>?_,λk hk=>by(cases hk),by omega,by simp only[QbH];omega⟩,λj' s' Nl fK=>?_⟩
  ·rcases hQ.or k hk with h|h
   ·rcases hP.or k h with h|h
    ·exact .inl h
    ·exact .inr (hQ.Qnw k h)
   ·exact .inr h
  ·rcases sh j' j with h|h
   ·exact λv hv=>(hC j' s' h fK v hv).more hQ.sub
   ·obtain rfl:j'=j:=by omega
    rw[e]at fK;cases fK;exact hC2
 ·rintro _ ⟨Ap,GN,mA,gM,rfl,hP,hC⟩;show post (mR c (pn x x.ai.length) l (fr.map (RP.p D)) (Ap.map (RP.p D)) (GN.map (RP.p D)) w mA gM (fr.length:Int)) _;unfold mR;rw[aR (by rw[eC];unfold ay;rw[Qbn];omega)]
  refine dd ⟨Ap,GN,mA,gM,rfl,hP,λs hs=>?_⟩
  obtain⟨j,hj⟩:=QeT.1 hs;exact hC j s (pB.1 hj).1 hj
structure Qgl (x:ae) (t:av) (kind:Int) (nr:Nat->Nat) (du:Nat->Rat) (K D:Nat) (kn:List RP) (dw:I) (dU:Bool):Prop where
 bd:BdI x t K D kn dw dU
 QrN:∀s∈kn,∀v∈pn x x.ai.length,BO x t kind nr du K D kn s v
 te:∀v∈pn x x.ai.length,BO x t kind nr du K D kn (QI t) v
theorem QjD(hw:UK x t kind nr du K w)(hD:D=cU x.types){c:ax}:
  post (aL (λz:List ah×List ah×ax×I×Bool=>rV c (pn x x.ai.length) z.1 z.2.1 z.2.2.1 z.2.2.2.1 z.2.2.2.2) ([],[(QI t).p D],w,ByteArray.empty,false)) λe =>
   ∃kn:List RP,Qgl x t kind nr du K D kn e.1 e.2:=by
 have hT:=hw.ok.Ed _ hw.tin;have hK:=hw.QlR;obtain⟨bi,bl⟩:=QgR (D:=D) (t:=t) ⟨hT.pL.1,by have:=hT.pL;have:=hT.bI;omega⟩
 refine xl (λm (z:List ah×List ah×ax×I×Bool)=>∃(R:Nat) (kn fr:List RP) (dw:I) (dU:Bool),z=(kn.map (RP.p D),fr.map (RP.p D),w,dw,dU)/\m=K+2-R/\R<=K+1/\BdI x t K D kn dw dU/\(∀s∈fr,RI D s/\UG t s.C/\s.V=R/\(s=QI t\/s∈kn))/\
   (∀s∈kn,s∈fr\/∀v∈pn x x.ai.length,BO x t kind nr du K D kn s v)/\(QI t∈fr\/∀v∈pn x x.ai.length,BO x t kind nr du K D kn (QI t) v)/\fr.length<=6 ^ R/\kn.length<=2*6 ^ R) (K+2)
  ⟨0,[],[QI t],ByteArray.empty,false,rfl,rfl,by omega,⟨λs h=>(by cases h),0,λh=>(by cases h),λs h=>by cases h⟩,λs hs=>?_,λs h=>(by cases h),.inl (Qaz.2 rfl),fa _,by simp⟩ (by omega) ?_
 ·rw[Qaz.1 hs];exact⟨bi,bl,rfl,.inl rfl⟩
 ·rintro m _ ⟨R,kn,fr,dw,dU,rfl,hm,hR,hB,td,yw,hbg,H4,WU⟩;show post (rV c (pn x x.ai.length) (kn.map (RP.p D)) (fr.map (RP.p D)) w dw dU) _;unfold rV;refine bg (λh=>?_) (λh=>?_)
  ·rw[oH]at h;unfold ay at h;rw[Qbn]at h;obtain⟨s0,Vd⟩:∃s0,s0∈fr:=by
    cases hf:fr with
    |nil=>rw[hf]at h;simp at h
    |cons a r=>exact⟨a,Qbm ..⟩
   have hRK:R<=K:=by
    obtain⟨_,_,h1,h2⟩:=td s0 Vd;rcases h2 with rfl|h2
    ·have:(0:Nat)=R:=h1;omega
    ·have:=(hB.all s0 h2).v1;omega
   have kX:6 ^ R<=46656:=QaE (Qb2 (by omega) (show R<=6 by omega)) (by decide)
   refine bw (QjE hw hD (c:=c) (l:=kn.map (RP.p D)) rfl (λs hs=>⟨(td s hs).1,(td s hs).2.1,(td s hs).2.2.1⟩) hRK hB (by omega)) ?_
   rintro _ ⟨Ap,GN,mA,gM,rfl,hP,hC⟩;refine⟨_,rfl,λs' e=>?_,λe he=>by cases he⟩
   cases e;have hk:=hP.Qh7;have hml:=hP.Qis;simp only[QbH]at hml;have QwP:6 ^ (R+1)=6*6 ^ R:=by rw[Qdw,Qf6]
   refine⟨K+2-(R+1),by omega,R+1,Ap,GN,mA,gM,rfl,rfl,by omega,hP.bd,λs hs=>?_,λs hs=>?_,?_,by omega,by omega⟩
   ·obtain⟨h1,h2⟩:=hP.mor s hs;have:=hP.bd.all s h1;exact⟨this.ri,this.lo,h2,.inr h1⟩
   ·rcases hP.or s hs with h1|h1
    ·rcases yw s h1 with h2|h2
     ·exact .inr (hC s h2)
     ·exact .inr λv hv=>(h2 v hv).more hP.sub
    ·exact .inl h1
   ·rcases hbg with h1|h1
    ·exact .inr (hC _ h1)
    ·exact .inr λv hv=>(h1 v hv).more hP.sub
  ·rw[iu]at h;unfold ay at h;rw[Qbn]at h;have hf:fr=[]:=Qdx (by omega)
   subst hf;refine⟨_,rfl,λs' e=>(by cases e),λe he=>?_⟩
   cases he;refine⟨kn,hB,λs hs=>(yw s hs).resolve_left λh=>(by cases h),hbg.resolve_left λh=>(by cases h)⟩
theorem QaO(hx:dn x)(h3:x.ai.length<=3)(hk:0<=kind/\kind<x.types.length){fZ:List Int}(hn:H6 x.ai.length fZ){cR:List I}(hd:∀a∈cR,a.size<=20)(yr:cR.length=x.ai.length):
  post (AB x kind cR fZ) λr=>r.2.2=0->∃(t:av) (nr:Nat->Nat) (du:Nat->Rat) (w:ax) (kn:List RP),x.types[kind.toNat]?=some t/\UK x t kind nr du (pn x x.ai.length).length w/\(∀i,i<x.ai.length->cR[i]?=some (jG (du i))/\rl 20 (du i))/\Qgl x t kind nr du (pn x x.ai.length).length (cU x.types) kn r.1 r.2.1:=by
 have bad:∀{e:Int} {Q:I×Bool×Int->Prop},e≠0->post (some (ByteArray.empty,false,e):O (I×Bool×Int)) λr=>r.2.2=0->Q r:=λh=>aI.2 λh'=>absurd h' h
 unfold AB;refine bw (QcI hx hk hn) ?_
 rintro _ (rfl|⟨t,ht,rfl⟩)
 ·show post (opt none _ _) _;rw[Qqr,bk (by rfl)]
  exact bad (by omega)
 ·show post (opt (some _) _ _) _;rw[Qqs,aR (by rw[Ja,vu,vu];unfold ay;exact⟨rfl,by omega⟩)]
  have hti:=QaG ht;have hT:=hx.Ed _ hti;refine bw (R:=λe=>(e=.inl ()/\∀i,i<cR.length->∃r:Rat,cR[i]?=some (jG r)/\rl 20 r)\/e=.inr (ByteArray.empty,false,3)) ?_ ?_
  ·refine qj (B:=λs=>mQ x cR (ax.mk x kind t fZ [] ((pn x x.ai.length).length:Int)) s) cR.length _ (λi=>∃r:Rat,cR[i]?=some (jG r)/\rl 20 r) (by omega) (λj hj=>?_) ?_
   ·show post (mQ x cR _ (j:Int)) _;unfold mQ;have e:cR[j]?=some cR[j]:=dr hj;have hm:=hd _ (QaH hj);generalize cR[j]=a at e hm;have hal:a.data.toList.length<=20:=hm;obtain⟨b,b1,b2⟩:=Qet (l:=a.data.toList) (by omega)
    rw[<-QgX]at b1;rw[bk (by rw[ew];unfold ay;omega),bB e,af,b1,af,dZ (by omega) (by omega)]
    refine bg (λhb=>aI.2 (.inl ⟨rfl,?_⟩)) (λ_=>aI.2 (.inr ⟨_,rfl,.inr rfl⟩))
    obtain⟨r,h1,h2⟩:=b2 hb;exact⟨r,by rw[<-h1,<-QgX];exact e,QkW h1 hal⟩
   ·show post (mQ x cR _ (cR.length:Int)) _;unfold mQ;rw[aR (by rw[eC];unfold ay;omega)]
    exact aI.2 ⟨_,rfl,λh=>.inl ⟨rfl,h⟩⟩
  ·rintro _ (⟨rfl,hr⟩|rfl)
   ·rw[c5,all_eq hx,af];have hch:∀i,∃r:Rat,i<x.ai.length->cR[i]?=some (jG r)/\rl 20 r:=λi=>by
     by_cases h:i<x.ai.length
     ·obtain⟨r,h1⟩:=hr i (by omega)
      exact⟨r,λ_=>h1⟩
     ·exact⟨0,λh'=>absurd h' h⟩
    obtain⟨du,hdu⟩:=Classical.axiomOfChoice hch;have hcn:∀i,∃m:Nat,i<x.ai.length->fZ[i]?=some (m:Int)/\m<1024:=λi=>by
     by_cases h:i<x.ai.length
     ·obtain⟨m,h1⟩:=hn.2 i h;exact⟨m,λ_=>h1⟩
     ·exact⟨0,λh'=>absurd h' h⟩
    obtain⟨nr,uY⟩:=Classical.axiomOfChoice hcn;have hlen:=H_ (x:=x) x.ai.length;have hw:UK x t kind nr du (pn x x.ai.length).length (ax.mk x kind t fZ cR ((pn x x.ai.length).length:Int)):=⟨hx,h3,rfl,rfl,rfl,hti,uY,hn.1,hdu,yr,rfl,by omega⟩
    show post (aQ (lZ (ax.mk x kind t fZ cR ((pn x x.ai.length).length:Int))) _) _;rw[QgU (D:=cU x.types) rfl hT.cap (Fw hx).2,af];refine bw (QjD hw rfl) ?_
    rintro⟨dw,dU⟩ ⟨kn,hF⟩;exact aI.2 λ_=>⟨t,nr,du,_,kn,ht,hw,hdu,hF⟩
   ·rw[iJ];exact bad (by omega)
end
section
variable {x : ae} {l : List ab} {k i : Nat} {v : ab} {o : aw}
theorem J4(hk:l[k]?=some v)(j:Int):dc (l.take (k+1)) j=(dc (l.take k) j||LN j v):=by
 unfold dc;rw[Qdp,hk,List.any_append];simp
theorem I_(hk:l[k]?=some v)(j:Nat):L8 x (l.take (k+1)) j=if v.aP=(j:Int)then !v.drop else L8 x (l.take k) j:=by
 unfold L8;rw[Qdp,hk,Qhq];rfl
theorem NK(h:dc (l.take k) (i:Int)=false):L8 x (l.take k) i=jO x i:=by
 unfold L8;refine Ep λw hw he=>?_
 have:=(QeP.1 h) w hw;exact this (zj.2 he)
theorem P1(h:kg x l)(hv:v∈l):v∈gv x v.aP:=by
 have:=h.pair v hv;unfold wa at this;rw[ma,GI]at this;exact this.1
theorem Kj{q:aw}(hq:x.ai[i]?=some q)(hv:v∈gv x (i:Int)):(v.drop=false->0<=q.pick.place)/\(v.drop=true->0<=q.drop.place):=by
 unfold gv at hv;rw[QaC,hq]at hv;simp only at hv;rcases QaI.1 hv with h|h
 ·split at h
  ·rename_i hp;rw[Qaz.1 h];exact⟨λ_=>hp,λh=>by cases h⟩
  ·cases h
 ·split at h
  ·rename_i hp;rw[Qaz.1 h];exact⟨λh=>(by cases h),λ_=>hp⟩
  ·cases h
theorem QcD{a b:ab}(h1:a.aP=b.aP)(h2:a.drop=b.drop):a=b:=by cases a;cases b;simp only at h1 h2;subst h1 h2;rfl
theorem XB(hq:x.ai[i]?=some o):jO x i=decide (o.pick.place<0):=by unfold jO;rw[hq]
theorem SG(hx:dn x)(h:kg x l)(hk:l[k]?=some v)(hi:v.aP=(i:Int))(ho:x.ai[i]?=some o)(hf:wD v o=true):dc (l.take k) (i:Int)=false:=by
 rw[QfN];intro hh;obtain⟨w,hw,he⟩:=rD.1 hh;have WU:=(pB.1 hk).1;obtain⟨j,hj,hje⟩:=(yV (by omega)).1 hw
 have lN:w≠v:=λe=>by
  subst e;have:=yF h.nodup hje hk;omega
 have Va:w.drop=!v.drop:=by
  cases h1:w.drop <;> cases h2:v.drop <;> first|rfl|(exact absurd (QcD (he.trans hi.symm) (h1.trans h2.symm)) lN)
 have hwl:=QaG hje;have hvw:=Kj ho (by rw[<-he];exact P1 h hwl)
 have hvv:=Kj ho (by rw[<-hi];exact P1 h (QaG hk))
 cases hd:v.drop with
 |false =>
  rw[hd]at Va;have hon:=ZH hx h hje he;rw[Va]at hon;have hp:=hvv.1 hd;cases hh2:dc (l.take j) (i:Int)with
  |false =>
   rw[NK hh2,XB ho]at hon;simp at hon;omega
  |true =>
   obtain⟨u,hu,iT⟩:=rD.1 hh2;have hjl:=(pB.1 hje).1;obtain⟨m,hm,hme⟩:=(yV (by omega)).1 hu
   cases hud:u.drop with
   |false =>
    have e:u=v:=QcD (iT.trans hi.symm) (hud.trans hd.symm);subst e;have:=yF h.nodup hme hk;omega
   |true =>
    have e:u=w:=QcD (iT.trans he.symm) (hud.trans Va.symm);subst e;have:=yF h.nodup hme hje;omega
 |true =>
  rw[hd]at Va;have:=hvw.1 Va;unfold wD at hf;rw[hd,Yj]at hf;rcases hf with hf|hf
  ·cases hf
  ·rw[ew]at hf;omega
theorem U5(hx:dn x)(h:kg x l)(hk:l[k]?=some v)(hi:v.aP=(i:Int))(ho:x.ai[i]?=some o)(hf:wD v o=false):dc (l.take k) (i:Int)=true:=by
 unfold wD at hf;rw[Ja,ntF,eC]at hf;cases hh:dc (l.take k) (i:Int)with
 |true=>rfl
 |false =>
  have hon:=ZH hx h hk hi;rw[hf.1,NK hh,XB ho]at hon;simp at hon;omega
def UR(x:ae)(i:Nat):Bool:=match x.ai[i]? with
 |some o=>decide (0<=o.pick.place/\0<=o.drop.place)
 |none=>false
def Ut(x:ae)(l:List ab)(k i:Nat):Bool:=UR x i&&L8 x (l.take k) i
theorem MV(ho:x.ai[i]?=some o):UR x i=decide (0<=o.pick.place/\0<=o.drop.place):=by unfold UR;rw[ho]
def zZ(x:ae)(l:List ab)(k d i:Nat):Int:=if(L8 x (l.take k) i&&!jO x i)=true then mh x i d else 0
def tlK(x:ae)(l:List ab)(k d:Nat):Int:=ot x.ai.length λi=>zZ x l k d i
theorem Qd_{f g:Nat->Int}:∀n,(∀i,i<n->f i<=g i)->ot n f<=ot n g
 |0,_=>QaJ _
 |n+1,h=>by
  have h1:=Qd_ n λi hi=>h i (by omega)
  have h2:=h n (by omega)
  show ot n f+f n<=ot n g+g n;omega
theorem QkN(h:L8 x (l.take k) i=true)(hp:jO x i=false):dc l (i:Int)=true:=by
 cases hh:dc (l.take k) (i:Int)with
 |false=>rw[NK hh,hp]at h;cases h
 |true =>
  obtain⟨w,hw,he⟩:=rD.1 hh;exact rD.2 ⟨w,Qi1 hw,he⟩
theorem Qk6(hx:dn x)(d:Nat):tlK x l k d<=qw x l k d:=by
 refine Qd_ _ λi hi=>?_
 have hl:0<=mh x i d:=by
  obtain⟨o,_,_,_,h,_⟩:=Jb hx hi;exact(h d).1
 unfold zZ QX;split
 ·rename_i h;rw[Ae,ntT]at h;rw[if_pos (by rw[Ae];exact⟨QkN h.1 h.2,h.1⟩)]
  exact QaJ _
 ·split <;> omega
theorem Qk7(d:Nat):tlK x l 0 d=0:=by
 unfold tlK;have:∀n,ot n (λi=>zZ x l 0 d i)=0:=λn=>by
  induction n with
  |zero=>rfl
  |succ n ih =>
   show ot n _+zZ x l 0 d n=0;rw[ih];unfold zZ L8;rw[Qjp];simp
 exact this _
theorem X1(hx:dn x)(h:kg x l)(hk:l[k]?=some v)(hi:v.aP=(i:Int))(ho:x.ai[i]?=some o)(d:Nat):
  tlK x l (k+1) d=tlK x l k d+(if v.drop=true then(if 0<=o.pick.place then-mh x i d else 0)else mh x i d):=by
 have TU:=(pB.1 ho).1;unfold tlK;rw[JK (f:=λi=>zZ x l k d i) (g:=λi=>zZ x l (k+1) d i) (o:=i) x.ai.length TU (λj hj=>by
  show zZ x l (k+1) d j=zZ x l k d j;unfold zZ;rw[I_ hk,if_neg (show ¬v.aP=(j:Int) by omega)])]
 have hon:=ZH hx h hk hi;have hvp:=Kj ho (by rw[<-hi];exact P1 h (QaG hk))
 congr 1;show zZ x l (k+1) d i-zZ x l k d i=_;unfold zZ;rw[I_ hk,if_pos hi,hon,XB ho];cases hd:v.drop with
 |true =>
  by_cases hp:0<=o.pick.place
  ·have hq:decide (o.pick.place<0)=false:=by rw[QeQ];omega
   rw[hq,if_neg (by simp),if_pos (by simp),if_pos rfl,if_pos hp]
   omega
  ·have hq:decide (o.pick.place<0)=true:=by rw[QbB];omega
   rw[hq,if_neg (by simp),if_neg (by simp),if_pos rfl,if_neg hp]
   omega
 |false =>
  have hp:=hvp.1 hd;have hq:decide (o.pick.place<0)=false:=by rw[QeQ];omega
  rw[hq,if_pos (by simp),if_neg (by simp),if_neg (by simp)]
  omega
theorem Wm(hk:l[k]?=some v)(hi:v.aP=(i:Int))(j:Nat):Ut x l (k+1) j=if j=i then UR x i&&!v.drop else Ut x l k j:=by
 unfold Ut;rw[I_ hk];by_cases e:j=i
 ·subst e;rw[if_pos hi,if_pos rfl]
 ·rw[if_neg (by omega),if_neg e]
theorem Qmy{r:aD}(hx:dn x)(ht:0<=r.bt/\r.bt<x.types.length)(hf:YW x r=0)(hk:k<=r.ak.length){d:Nat}(hd:d<cU x.types):qw x r.ak k d<=(bG x r).cap.getD d 0:=by
 have hT:=hx.Ed _ (GA ht.1 ht.2).2;unfold YW at hf;split at hf
 ·cases hf
 ·rename_i h;have h':(gN x r.ak (r.ak.length+1)).any (zx (bG x r).cap)=false:=by simpa using h
  have:=QeP.1 h' (dR (cU x.types) (qw x r.ak k)) (by
   unfold gN;exact QdX.2 ⟨k,Qf4.2 (by omega),rfl⟩)
  unfold zx at this;have h2:((List.range (dR (cU x.types) (qw x r.ak k)).length).any λi=>dt ((dR (cU x.types) (qw x r.ak k)).getD i 0) ((bG x r).cap.getD i 0))=false:=by simpa using this
  have h3:=QeP.1 h2 d (Qf4.2 (by rw[fJ];exact hd))
  rw[BN,if_pos hd]at h3;simpa using h3
end
theorem Xu(a b:Nat):CI (a+b)=CI a+CI b:=by unfold CI;simp
theorem Qnz{a b:Nat}(h:a<=b):CI a<=CI b:=by unfold CI;exact Rat.intCast_le_intCast.2 (by omega)
def A0:Nat->(Nat->Rat)->Rat
 |0,_=>0
 |n+1,f=>A0 n f+f n
theorem MB{f g:Nat->Rat}:∀n,(∀i,i<n->f i=g i)->A0 n f=A0 n g
 |0,_=>rfl
 |n+1,h=>by
  show A0 n f+f n=A0 n g+g n;rw[MB n λi hi=>h i (by omega),h n (by omega)]
theorem Qal{f g:Nat->Rat}{o:Nat}:∀n,o<n->(∀i,i≠o->g i=f i)->A0 n g=A0 n f+(g o-f o)
 |0,h,_=>absurd h (Ql1 _)
 |n+1,h,hg=>by
  show A0 n g+g n=A0 n f+f n+(g o-f o);rcases sh o n with h'|h'
  ·rw[Qal n h' hg,hg n (by omega)]
   grind
  ·obtain rfl:o=n:=by omega
   rw[MB o λi hi=>hg i (by omega)]
   grind
structure QH (x:ae) (kind:Int) (l:List ab) (q:List Bool):Prop where
 ok:dn x
 kd:0<=kind/\kind<x.types.length
 seq:kg x l
 Qmf:∀v∈l,wW x (rW (bK kind) l) v=true
 fits:YW x (rW (bK kind) l)=0
 ZP:ub x (rW (bK kind) l)=true
 len:q.length=l.length+1
 okq:okB x.bV (bG x (rW (bK kind) l)) (aU x (rW (bK kind) l)) 0 q
def q9(x:ae)(kind:Int):av:=x.types.getD kind.toNat Qen
def Dd(x:ae)(kind:Int)(l:List ab)(q:List Bool)(k:Nat):aj:=nm x.bV (q9 x kind) (aU x (rW (bK kind) l)) 0 (q.take k)
def VK(x:ae)(kind:Int)(l:List ab)(k:Nat):Int:=jy (q9 x kind) (aU x (rW (bK kind) l)) k
def nT'(x:ae)(kind:Int)(l:List ab)(k:Nat):Nat:=((dY x (rW (bK kind) l) k).1*16+(dY x (rW (bK kind) l) k).2).toNat
def dT'(x:ae)(l:List ab)(du:Nat->Rat)(k:Nat):Rat:=A0 x.ai.length λi=>if dc (l.take k) (i:Int)=true then du i else 0
def vaT(x:ae)(kind:Int)(l:List ab)(q:List Bool)(du:Nat->Rat)(k:Nat):Rat:=
 CI ((q9 x kind).cP.toNat*(Dd x kind l q k).ct.cV.toNat*2 ^ 24+nT' x kind l k*65536)-dT' x l du k
structure T0 (x:ae) (kind:Int) (l:List ab) (q:List Bool) (du:Nat->Rat) (k:Nat) (s:RP):Prop where
 place:s.place=VK x kind l k
 mD:∀i,s.B.testBit i=Ut x l k i
 mem:∀i:Nat,s.M.testBit i=true->dc (l.take k) (i:Int)=true
 SP:s.V<=k
 load:∀d,d<cU x.types->s.f d<=tlK x l k d
 BY:∃c∈s.C,c.ready=(Dd x kind l q k).ready/\c.cz<=(Dd x kind l q k).cz
 val:s.r<=vaT x kind l q du k
section
variable {x : ae} {kind : Int} {l : List ab} {q : List Bool} {nr : Nat -> Nat} {du : Nat -> Rat} {K : Nat} {w : ax} {s a : RP} {k i : Nat} {o : aw} {v : ab}
theorem T0.QrM(h:T0 x kind l q du k s)(hb:GG (cU x.types) a s):T0 x kind l q du k a:=by
 obtain⟨c,hc,h1,h2⟩:=h.BY;obtain⟨e,he,WS⟩:=hb.BY c hc;rw[Wy]at WS;exact⟨hb.place.trans h.place,λi=>by rw[hb.mD];exact h.mD i,λi hi=>h.mem i (hb.mem i hi),QaE hb.SP h.SP,λd hd=>Qgd (hb.load d hd) (h.load d hd),⟨e,he,by omega,by omega⟩,Rat.le_trans hb.val h.val⟩
theorem QH.Ed(h:QH x kind l q):q9 x kind∈x.types:=by
 have:=(GA (x:=x) (r:=rW (bK kind) l) h.kd.1 h.kd.2).2;exact this
theorem QH.QcA(h:QH x kind l q):ou x.bV (q9 x kind) (aU x (rW (bK kind) l)):=PX h.ok h.ZP
theorem QH.aA(h:QH x kind l q):(aU x (rW (bK kind) l)).length=l.length:=tN
theorem QH.pre(h:QH x kind l q){k:Nat}:∀{m},k+m=q.length->okB x.bV (q9 x kind) (aU x (rW (bK kind) l)) 0 (q.take k)
 |0,hm=>by
  rw[QeR (by omega)]
  exact h.okq
 |m+1,hm=>by
  have ih:=QH.pre h (k:=k+1) (m:=m) (by omega)
  have e:q[k]?=some q[k]:=dr (by omega)
  rw[Qdp,e]at ih;exact(tr.1 ih).1
theorem QH.Vl(h:QH x kind l q)(hk:k<=l.length):Fk k (Dd x kind l q k):=by
 have hp:=h.pre (k:=k) (m:=q.length-k) (by have:=h.len;omega)
 have:=Ez h.QcA ⟨QaJ _,by omega⟩ (b:=q.take k) (by rw[Qdo,h.aA];omega) hp
 rw[Qdo,Qh8 (by have:=h.len;omega)]at this
 exact this
theorem QH.step(h:QH x kind l q)(hk:k<=l.length):∃c:Bool,(AG x.bV (q9 x kind) (aU x (rW (bK kind) l)) (Dd x kind l q k) k c).2=0/\Dd x kind l q (k+1)=(AG x.bV (q9 x kind) (aU x (rW (bK kind) l)) (Dd x kind l q k) k c).1:=by
 have hlen:=h.len;have hp:=h.pre (k:=k+1) (m:=q.length-(k+1)) (by omega)
 have e:q[k]?=some q[k]:=dr (by omega)
 rw[Qdp,e]at hp;have iG:okB x.bV (q9 x kind) (aU x (rW (bK kind) l)) 0 (q.take k++[q[k]]):=hp;have hl:(q.take k).length=k:=by rw[Qdo];omega
 have h1:=(tr.1 iG).2;have h2:=B7 iG;rw[hl]at h1 h2;refine⟨q[k],h1,?_⟩;unfold Dd;rw[Qdp,e];exact h2
theorem Qhc(h:QH x kind l q):T0 x kind l q du 0 (QI (q9 x kind)):=by
 have hT:=h.ok.Ed _ h.Ed;have O8:Dd x kind l q 0=sF (q9 x kind) 0:=by
  unfold Dd nm preB;rw[Qjp];rfl
 have hb:∀i,Ut x l 0 i=false:=λi=>by
  unfold Ut UR L8 jO;rw[Qjp];cases x.ai[i]? with
  |none=>rfl
  |some o =>
   simp only[List.foldl_nil];rw[QfN];intro hh;rw[Ae,QbB,QbB]at hh;omega
 refine⟨rfl,λi=>by rw[hb];simp [QI],λi hi=>by simp [QI]at hi,fa _,λd _=>by rw[Qk7];exact QaJ _,⟨ag.mk (q9 x kind).bA 0,Qaz.2 rfl,?_,?_⟩,?_⟩
 ·rw[O8];show(q9 x kind).bA=max (q9 x kind).bA 0;have:=hT.pL;omega
 ·rw[O8];exact QaJ _
 ·have hd:dT' x l du 0=0:=by
   unfold dT';rw[Qjp];have:∀n,A0 n (λi=>if dc ([]:List ab) (i:Int)=true then du i else 0)=0:=λn=>by
    induction n with
    |zero=>rfl
    |succ n ih =>
     show A0 n (λi=>if dc ([]:List ab) (i:Int)=true then du i else 0)+(if dc ([]:List ab) (n:Int)=true then du n else 0)=0
     rw[ih,if_neg (by simp [dc])]
     grind
   exact this _
  unfold vaT;rw[hd,O8,show nT' x kind l 0=0 from rfl];show(0:Rat)<=CI (_*(0:Int).toNat*2 ^ 24+0*65536)-0;rw[show((0:Int)).toNat=0 from rfl,Nat.mul_zero,Qbx,show CI (0+0)=0 from rfl]
  grind
theorem QkE(h:QH x kind l q)(hk:l[k]?=some v)(hi:v.aP=(i:Int))(ho:x.ai[i]?=some o):nT' x kind l (k+1)=nT' x kind l k+(if wD v o=true then wJ kind o else 0):=by
 have hb:=Jc (x:=x) (r:=rW (bK kind) l) k;have e:dY x (rW (bK kind) l) (k+1)=if dc (l.take k) v.aP=true then dY x (rW (bK kind) l) k else((dY x (rW (bK kind) l) k).1+tf (xE o.now kind),(dY x (rW (bK kind) l) k).2+tf (xE o.cr kind)):=by
  show(match(rW (bK kind) l).ak[k]? with
   |none=>_
   |some v=>_)=_
  rw[show(rW (bK kind) l).ak[k]?=some v from hk];simp only;rw[if_pos (by omega),hi,QaC,ho]
  rfl
 have hbn:∀b:Bool,tf b=((nB b:Nat):Int):=λb=>by cases b <;> rfl
 unfold nT';rw[e];cases hf:wD v o with
 |true =>
  have:=SG h.ok h.seq hk hi ho hf;rw[hi,if_neg (by rw[this];simp),if_pos rfl]
  simp only[hbn];unfold wJ;omega
 |false =>
  have:=U5 h.ok h.seq hk hi ho hf;rw[hi,if_pos this,if_neg (by simp)]
  omega
theorem Qj3(h:QH x kind l q)(hk:l[k]?=some v)(hi:v.aP=(i:Int))(ho:x.ai[i]?=some o):dT' x l du (k+1)=dT' x l du k+(if wD v o=true then du i else 0):=by
 have TU:=(pB.1 ho).1;unfold dT';rw[Qal (f:=λi=>if dc (l.take k) (i:Int)=true then du i else 0) (g:=λi=>if dc (l.take (k+1)) (i:Int)=true then du i else 0) (o:=i) x.ai.length TU (λj hj=>by
  show(if dc (l.take (k+1)) (j:Int)=true then du j else 0)=_
  have hn:LN (j:Int) v=false:=by
   rw[QfN];intro hh;have:=zj.1 hh;omega
  rw[J4 hk,hn,Bool.or_false])]
 congr 1;show(if dc (l.take (k+1)) (i:Int)=true then du i else 0)-(if dc (l.take k) (i:Int)=true then du i else 0)=_
 rw[J4 hk,zj.2 hi,Bool.or_true,if_pos rfl];cases hf:wD v o with
 |true =>
  rw[SG h.ok h.seq hk hi ho hf,if_neg (by simp),if_pos rfl]
  grind
 |false =>
  rw[U5 h.ok h.seq hk hi ho hf,if_pos rfl,if_neg (by simp)]
  grind
end
theorem QfH(pm mk mm nk n P Q:Nat):CI (pm*(mk+mm)*P+(nk+n)*Q)=CI (pm*mk*P+nk*Q)+CI (n*Q)+CI (pm*mm*P):=by
 rw[<-Xu,<-Xu];congr 1;rw[Nat.mul_add,Qb4,Qb4];omega
theorem QfP(A B C R D d:Rat)(h:R<=A-D):R+C-d+B<=A+C+B-(D+d):=by grind
theorem QfQ(A B R D:Rat)(h:R<=A-D):R+B<=A+0+B-(D+0):=by grind
section
variable {x : ae} {kind : Int} {l : List ab} {q : List Bool} {nr : Nat -> Nat} {du : Nat -> Rat} {K : Nat} {w : ax} {s a : RP} {k i : Nat} {o : aw} {v : ab}
theorem QH.stop(h:QH x kind l q)(hk:l[k]?=some v):∃st,q8 x v=some st/\c9 (q9 x kind) (aU x (rW (bK kind) l)) k=st/\VK x kind l (k+1)=st.place:=by
 have WU:=(pB.1 hk).1;have hs:∃st,(aU x (rW (bK kind) l))[k]?=some st:=⟨_,dr (by rw[h.aA];exact WU)⟩
 obtain⟨st,ir⟩:=hs;obtain⟨v',J5,hsv⟩:=TH h.ZP ir;rw[show(rW (bK kind) l).ak[k]?=some v from hk]at J5;cases J5;refine⟨st,hsv,?_,?_⟩
 ·unfold c9;rw[Qbo,ir];rfl
 ·show((aU x (rW (bK kind) l)).getD k Lv).place=_;rw[Qbo,ir];rfl
theorem Qeh(h:QH x kind l q)(hk:k<=l.length){C:List ag}(hC:∀c∈C,GY 8192 c)(y4:∃c∈C,c.ready=(Dd x kind l q k).ready/\c.cz<=(Dd x kind l q k).cz):
  let b:=(c9 (q9 x kind) (aU x (rW (bK kind) l)) k).place
  let E:=uR x.bV (q9 x kind) (VK x kind l k) b C
  ∃c'∈E.1,c'.ready<=(c9 (q9 x kind) (aU x (rW (bK kind) l)) k).bI/\
   (Dd x kind l q (k+1)).ready=max c'.ready (c9 (q9 x kind) (aU x (rW (bK kind) l)) k).bA+(c9 (q9 x kind) (aU x (rW (bK kind) l)) k).dG/\
   c'.cz<=(Dd x kind l q (k+1)).cz/\(Dd x kind l q (k+1)).ct.cV=(Dd x kind l q k).ct.cV+E.2/\0<=E.2/\E.2=(goN x.bV (q9 x kind).aJ (VK x kind l k) b 0).2.1:=by
 intro b E;have hT:=h.ok.Ed _ h.Ed;obtain⟨c,n0,n1⟩:=h.step hk;obtain⟨g0,g1,g2,g3⟩:=Cp h.QcA (h.Vl hk) n0;have hP:=Fx (n:=x.bV) (t:=q9 x kind) (a:=VK x kind l k) (b:=b) h.ok.bV hT.eu.2 hT.rest hC;obtain⟨c0,kZ,e0,e1⟩:=y4;obtain⟨d,hd⟩:∃d,d=if c=true then Bf (q9 x kind) c0 else c0:=⟨_,rfl⟩
 have Va:d.ready=im (q9 x kind) (Dd x kind l q k) c:=by
  rw[hd];unfold im;split
  ·show c0.ready+_=_;rw[e0]
  ·rw[e0];simp
 have hds:d.cz<=sr (Dd x kind l q k) c:=by
  rw[hd];unfold sr;split
  ·exact QaJ _
  ·exact e1
 have rF:=hP.all c0 kZ d (by rw[hd];split <;> simp) (by rw[Va];exact g0) (by
  rw[Va];have:sr (Dd x kind l q k) c+(goN x.bV (q9 x kind).aJ (VK x kind l k) b (im (q9 x kind) (Dd x kind l q k) c)).1-im (q9 x kind) (Dd x kind l q k) c<=(q9 x kind).eu:=g2;omega)
 rw[Va]at rF;have lN:E.1≠[]:=λe=>by
  have:_∈E.1:=rF;rw[e]at this;cases this
 have hmi:=hP.cV lN;refine⟨_,rF,g1,?_,?_,?_,hP.Xn.1,hmi⟩
 ·rw[n1,g3];rfl
 ·rw[n1,g3];show d.cz+_-_<=sr (Dd x kind l q k) c+_-_;have:(goN x.bV (q9 x kind).aJ (VK x kind l k) b (im (q9 x kind) (Dd x kind l q k) c)).1=(goN x.bV (q9 x kind).aJ (jy (q9 x kind) (aU x (rW (bK kind) l)) k) (c9 (q9 x kind) (aU x (rW (bK kind) l)) k).place (im (q9 x kind) (Dd x kind l q k) c)).1:=rfl;omega
 ·rw[n1,g3];show(Dd x kind l q k).ct.cV+(goN x.bV (q9 x kind).aJ (VK x kind l k) b (im (q9 x kind) (Dd x kind l q k) c)).2.1=_;rw[show E.2=_ from hmi,U9 (n:=x.bV) (t:=q9 x kind) (a:=VK x kind l k) (b:=b) (im (q9 x kind) (Dd x kind l q k) c) 0]
theorem Qiv(hw:UK x (q9 x kind) kind nr du K w)(h:QH x kind l q)(hK:l.length<=K)(hs:RI (cU x.types) s)(hc:T0 x kind l q du k s)(hk:l[k]?=some v)(hi:v.aP=(i:Int))(ho:x.ai[i]?=some o):
  ∃s',I8 x (q9 x kind) kind nr du K (cU x.types) s v i o=some s'/\T0 x kind l q du (k+1) s':=by
 have WU:=(pB.1 hk).1;have yz:=QaG hk;have TU:=(pB.1 ho).1;have h3:=hw.rr;have G8:=hc.SP;have AM:o.off=false:=by
  have:=QeP.1 h.seq.off v yz;unfold L7 at this;rw[hi,QaC,ho]at this;simpa using this
 have Qpl:Sd (q9 x kind) o.cF=true:=by
  have:=h.Qmf v yz;unfold wW at this;rw[hi,QaC,ho]at this;exact this
 have hon:=ZH h.ok h.seq hk hi;have AW:Ut x l k i=(decide (0<=o.pick.place/\0<=o.drop.place)&&v.drop):=by unfold Ut;rw[MV ho,hon]
 -- TJ Qof of an aP
 obtain⟨s1,Ud,p1,B1,V1,f1,C1,M1,r1⟩:∃s1,QeA kind nr du s v i o=some s1/\s1.place=s.place/\s1.B=s.B/\s1.V=s.V/\s1.f=s.f/\s1.C=s.C/\(∀j:Nat,s1.M.testBit j=true->dc (l.take (k+1)) (j:Int)=true)/\s1.r=if wD v o=true then s.r+CI (wJ kind o*65536)-du i else s.r:=by
  unfold QeA;cases hf:wD v o with
  |true =>
   have SW:=SG h.ok h.seq hk hi ho hf;have hM:s.M.testBit i=false:=by
    rw[QfN];intro hh;rw[hc.mem i hh]at SW;cases SW
   have hB:s.B.testBit i=false:=by
    rw[hc.mD,AW,QfN];intro hh;rw[Ae,QbB]at hh;unfold wD at hf;rw[hh.2,Yj]at hf;rcases hf with hf|hf
    ·cases hf
    ·rw[ew]at hf;omega
   rw[if_pos rfl,hM,hB,if_neg (by simp),if_pos rfl]
   refine⟨_,rfl,rfl,rfl,rfl,rfl,rfl,λj hj=>?_,rfl⟩
   rw[J4 hk];have Nl:((s.M &&& nr i) |||2 ^ i).testBit j=true:=hj;rw[Nat.testBit_or,Nat.testBit_and,Qko]at Nl;by_cases e:i=j
   ·subst e;rw[zj.2 hi,Bool.or_true]
   ·have:s.M.testBit j=true:=by
     simp [e]at Nl;exact Nl.1
    rw[hc.mem j this,Bool.true_or]
  |false =>
   rw[if_neg (by simp),if_neg (by simp)]
   exact⟨s,rfl,rfl,rfl,rfl,rfl,rfl,λj hj=>by rw[J4 hk,hc.mem j hj,Bool.true_or],rfl⟩
 -- TJ load
 have hvp:=Kj ho (by rw[<-hi];exact P1 h.seq yz)
 obtain⟨s2,Ve,p2,V2,C2,M2,r2,B2,f2⟩:∃s2,zK x s1 v i o=some s2/\s2.place=s1.place/\s2.V=s1.V/\s2.C=s1.C/\s2.M=s1.M/\s2.r=s1.r/\(∀j,s2.B.testBit j=Ut x l (k+1) j)/\∀d,d<cU x.types->s2.f d<=tlK x l (k+1) d:=by
  unfold zK;cases hd:v.drop with
  |true =>
   rw[if_pos rfl];by_cases TS:0<=o.pick.place/\0<=o.drop.place
   ·have hB:s1.B.testBit i=true:=by rw[B1,hc.mD,AW,hd];simpa using TS
    rw[if_pos TS,if_pos hB];refine⟨_,rfl,rfl,rfl,rfl,rfl,rfl,λj=>?_,λd Ye=>?_⟩
    ·rw[Wm hk hi,hd];show(s1.B ^^^ 2 ^ i).testBit j=_;rw[Nat.testBit_xor,Qko,B1];by_cases e:j=i
     ·subst e;rw[if_pos rfl,<-B1,hB];simp
     ·rw[if_neg e,hc.mD,QbV (λh=>e h.symm),Bool.xor_false]
    ·have:=hc.load d Ye;rw[X1 h.ok h.seq hk hi ho,if_pos hd,if_pos TS.1];show s1.f d-mh x i d<=_;rw[f1];omega
   ·have yx:¬0<=o.pick.place:=λhp=>TS ⟨hp,hvp.2 hd⟩
    rw[if_neg TS];refine⟨s1,rfl,rfl,rfl,rfl,rfl,rfl,λj=>?_,λd Ye=>?_⟩
    ·rw[Wm hk hi,B1,hc.mD];by_cases e:j=i
     ·subst e;rw[if_pos rfl,AW,MV ho,QbV TS];rfl
     ·rw[if_neg e]
    ·have:=hc.load d Ye;rw[X1 h.ok h.seq hk hi ho,if_pos hd,if_neg yx,f1];omega
  |false =>
   rw[if_neg (by simp)]
   refine⟨_,rfl,rfl,rfl,rfl,rfl,rfl,λj=>?_,λd Ye=>?_⟩
   ·rw[Wm hk hi,hd];show(if 0<=o.pick.place/\0<=o.drop.place then s1.B |||2 ^ i else s1.B).testBit j=_
    by_cases TS:0<=o.pick.place/\0<=o.drop.place
    ·rw[if_pos TS,Nat.testBit_or,Qko,B1];by_cases e:j=i
     ·subst e;rw[if_pos rfl,MV ho,Qdl TS];simp
     ·rw[if_neg e,hc.mD,QbV (λh=>e h.symm),Bool.or_false]
    ·rw[if_neg TS,B1,hc.mD];by_cases e:j=i
     ·subst e;rw[if_pos rfl,AW,MV ho,QbV TS];rfl
     ·rw[if_neg e]
   ·have:=hc.load d Ye;rw[X1 h.ok h.seq hk hi ho,if_neg (show ¬v.drop=true by rw[hd];simp)]
    show s1.f d+mh x i d<=_;rw[f1];omega
 have Et:QeL (cU x.types) (q9 x kind) s2=true:=by
  unfold QeL zx;rw[QbD,QeP];intro d hd;rw[Qf4,fJ]at hd;rw[BN,if_pos hd];have a1:=f2 d hd;have a2:=Qk6 (l:=l) (k:=k+1) h.ok d;have a3:=Qmy (r:=rW (bK kind) l) h.ok h.kd h.fits (k:=k+1) (show k+1<=l.length by omega) hd
  have a3':qw x l (k+1) d<=(q9 x kind).cap.getD d 0:=a3;rw[oH];omega
 obtain⟨st,ir,hsk,Dc⟩:=h.stop hk;have hS:=Ot h.ok ir;have hC2:∀c∈s2.C,GY 8192 c:=by rw[C2,C1];exact hs.BY
 have QhZ:=Qeh h (k:=k) (by omega) hC2 (by rw[C2,C1];exact hc.BY)
 rw[hsk]at QhZ;obtain⟨c',w1,w2,w3,w4,w5,w6,w7⟩:=QhZ;have hT:=h.ok.Ed _ h.Ed;have hP:=Fx (n:=x.bV) (t:=q9 x kind) (a:=VK x kind l k) (b:=st.place) h.ok.bV hT.eu.2 hT.rest hC2;have QpV:s2.place=VK x kind l k:=by rw[p2,p1];exact hc.place
 obtain⟨_,_,_,z4⟩:=QiU hS (B:=98304) (by omega) (uR x.bV (q9 x kind) (VK x kind l k) st.place s2.C).1 [] hP.BY λc h=>by cases h
 obtain⟨e,he,WS⟩:=z4 c' w1 w2;have hwc:Oy x (q9 x kind) s2 st=(uR x.bV (q9 x kind) (VK x kind l k) st.place s2.C).1.foldl (Cz st) []:=by unfold Oy;rw[QpV]
 have lN:Oy x (q9 x kind) s2 st≠[]:=λh0=>by rw[<-hwc,h0]at he;cases he
 refine⟨Qn8 x (q9 x kind) s2 st,?_,?_⟩
 ·unfold I8;rw[if_neg (by
   intro hh;rcases hh with hh|hh|hh
   ·omega
   ·rw[AM]at hh;cases hh
   ·rw[Qpl]at hh;cases hh),Ud]
  show(zK x s1 v i o).bind _=_;rw[Ve,Qjj];unfold V5;rw[Et,if_neg (by simp),ir]
  show(if Oy x (q9 x kind) s2 st=[]then none else _)=_
  rw[if_neg lN]
 ·rw[Wy]at WS;refine⟨Dc.symm,B2,λj hj=>M1 j (by rw[<-M2];exact hj),by show s2.V+1<=k+1;omega,f2,⟨e,by rw[<-hwc]at he;exact he,?_,?_⟩,?_⟩
  ·rw[w3];exact WS.1
  ·have:e.cz<=c'.cz:=WS.2;omega
  ·show s2.r+CI ((q9 x kind).cP.toNat*(uR x.bV (q9 x kind) s2.place st.place s2.C).2.toNat*2 ^ 24)<=_;have hv:=hc.val;unfold vaT at hv ⊢;have hm0:=(h.Vl (k:=k) (by omega)).Ge
   obtain⟨mk,RQ⟩:∃mk,mk=(Dd x kind l q k).ct.cV.toNat:=⟨_,rfl⟩;obtain⟨mm,hmm⟩:∃mm,mm=(uR x.bV (q9 x kind) (VK x kind l k) st.place s2.C).2.toNat:=⟨_,rfl⟩;have hm1:(Dd x kind l q (k+1)).ct.cV.toNat=mk+mm:=by rw[w5,RQ,hmm];omega
   rw[hm1,QkE h hk hi ho,Qj3 h hk hi ho,r2,r1,QpV,<-hmm];rw[<-RQ]at hv;rw[QfH];cases hf:wD v o with
   |true =>
    rw[if_pos rfl,if_pos rfl,if_pos rfl];exact QfP _ _ _ _ _ _ hv
   |false =>
    rw[if_neg (by simp),if_neg (by simp),if_neg (by simp),show CI (0*65536)=0 from rfl]
    exact QfQ _ _ _ _ hv
end
theorem QlS{α:Type}:∀{a b:List α},a.Nodup->(∀v∈a,v∈b)->a.length<=b.length
 | [],_,_,_=>QaD _
 |v ::a,b,h,hs=>by
  obtain⟨s,t,rfl⟩:=List.append_of_mem (hs v (Qbm ..));rw[Qjn]at h;have:=QlS (a:=a) (b:=s++t) h.2 λw hw=>by
   have hw':=hs w (QaK _ hw);have lN:w≠v:=λe=>h.1 (e▸hw)
   simp only[QaI,Qbt]at hw' ⊢;rcases hw' with h|h|h
   ·exact .inl h
   ·exact absurd h lN
   ·exact .inr h
  simp only[Qay,QaA]at this ⊢;omega
section
variable {x : ae} {kind : Int} {l : List ab} {q : List Bool} {nr : Nat -> Nat} {du : Nat -> Rat} {K : Nat} {w : ax} {s a : RP} {k i : Nat} {o : aw} {v : ab} {kn : List RP} {dw : I} {dU : Bool}
theorem Qd8(h:kg x l)(hv:v∈l):∃(i:Nat) (o:aw),v.aP=(i:Int)/\x.ai[i]?=some o/\o.off=false:=by
 have qc:=rG h.W_ hv;have e:x.ai[v.aP.toNat]?=some (x.ai[v.aP.toNat]'(by omega)):=dr _
 refine⟨v.aP.toNat,_,by omega,e,?_⟩
 have:=QeP.1 h.off v hv;unfold L7 at this;rw[e]at this;simpa using this
theorem QiS(h:kg x l)(hv:v∈l):v∈pn x x.ai.length:=by
 obtain⟨i,o,hi,ho,AM⟩:=Qd8 h hv;have nG:=P1 h hv;rw[hi]at nG;refine QcV (pB.1 ho).1 ?_ nG;unfold L6;rw[ho];exact AM
theorem QiT(h:kg x l):l.length<=(pn x x.ai.length).length:=QlS h.nodup λv hv=>QiS h hv
theorem Qmj(h:kg x l):Ut x l l.length i=false:=by
 rw[QfN];intro hb;unfold Ut at hb;rw[ma]at hb;obtain⟨h1,h2⟩:=hb;unfold UR at h1;split at h1
 ·rename_i o ho;rw[QbB]at h1;have yx:jO x i=false:=by rw[XB ho,QeQ];omega
  rw[QbC]at h2;have hh:dc l (i:Int)=true:=by
   cases hh:dc l (i:Int)with
   |true=>rfl
   |false =>
    have:=NK (x:=x) (l:=l) (k:=l.length) (i:=i) (by rw[QbC];exact hh)
    rw[QbC,h2,yx]at this;cases this
  obtain⟨w,hw,he⟩:=rD.1 hh;have hp:=h.pair w hw;have nG:gv x (i:Int)=[ab.mk i false,ab.mk i true]:=by
   unfold gv;rw[QaC,ho];simp only;rw[if_pos h1.1,if_pos h1.2];rfl
  unfold wa at hp;rw[he,ma,nG]at hp;have v2:=hp.2;simp only[KH,ma,gX,ew]at v2;obtain⟨p,Fe⟩:∃p:Nat,sq (o7 (ab.mk i false)) l=p:=⟨(sq (o7 (ab.mk i false)) l).toNat,by omega⟩
  obtain⟨d,Ye⟩:∃d:Nat,sq (o7 (ab.mk i true)) l=d:=⟨(sq (o7 (ab.mk i true)) l).toNat,by omega⟩
  have hpd:p<d:=by omega
  have ep:=(DK Fe).1;have ed:=(DK Ye).1;have yr:=(pB.1 ed).1;have key:∀m,d+1+m<=l.length->L8 x (l.take (d+1+m)) i=false:=λm=>by
   induction m with
   |zero =>
    intro _;rw[QhF,I_ ed,if_pos (by rfl)];rfl
   |succ m ih =>
    intro hm;have e:l[d+1+m]?=some (l[d+1+m]'(by omega)):=dr _
    have hul:=QaH (l:=l) (n:=d+1+m) (by omega)
    generalize l[d+1+m]'(by omega)=u at e hul
    rw[show d+1+(m+1)=(d+1+m)+1 by omega,I_ e]
    split
    ·rename_i hu;exfalso;have hvu:=P1 h hul;rw[hu,nG]at hvu;simp only[Qbt,List.not_mem_nil,or_false]at hvu;rcases hvu with rfl|rfl
     ·have:=yF h.nodup ep e;omega
     ·have:=yF h.nodup ed e;omega
    ·exact ih (by omega)
  have:=key (l.length-(d+1)) (by omega)
  rw[show d+1+(l.length-(d+1))=l.length by omega,QbC,h2]at this
  cases this
 ·cases h1
theorem Qg1(hw:UK x (q9 x kind) kind nr du K w)(h:QH x kind l q)(hK:l.length<=K)(hs:RI (cU x.types) s)(hc:T0 x kind l q du k s)(hk:k<l.length)(y4:∀v∈pn x x.ai.length,BO x (q9 x kind) kind nr du K (cU x.types) kn s v):∃s'∈kn,T0 x kind l q du (k+1) s':=by
 have e:l[k]?=some l[k]:=dr hk;have hm:=QaH hk;generalize l[k]=v at e hm;obtain⟨i,o,hi,ho,_⟩:=Qd8 h.seq hm;obtain⟨s1,h1,h2⟩:=Qiv hw h hK hs hc e hi ho;obtain⟨s',h3,h4⟩:=y4 v (QiS h.seq hm) i o hi ho s1 h1;exact⟨s',h3,h2.QrM h4⟩
theorem chain(hw:UK x (q9 x kind) kind nr du K w)(h:QH x kind l q)(hK:l.length<=K)(hB:Qgl x (q9 x kind) kind nr du K (cU x.types) kn dw dU):∀k,k+1<=l.length->∃s∈kn,T0 x kind l q du (k+1) s
 |0,hk=>by
  have hT:=h.ok.Ed _ h.Ed;have hb:=(QgR (D:=cU x.types) (t:=q9 x kind) ⟨hT.pL.1,by have:=hT.pL;have:=hT.bI;omega⟩).1
  exact Qg1 hw h hK hb (Qhc h) (by omega) hB.te
 |k+1,hk=>by
  obtain⟨s,hs,hc⟩:=chain hw h hK hB k (by omega)
  exact Qg1 hw h hK (hB.bd.all s hs).ri hc (by omega) (hB.QrN s hs)
theorem QbY{a b c d P:Nat}(h1:a<=b)(h2:c<=d):a*P+c<=b*P+d:=Nat.add_le_add (QdB P h1) h2
theorem QnP{a b c d e:Rat}(h1:b<=c+d)(h2:c<=a)(h3:d<=e):b<=a+e:=by grind
theorem QnG{t:av}(ht:0<=t.de){e f m:Int}(h1:t.bA<=e)(h2:e<=f):jP t e m<=jP t f m:=by
 obtain⟨a,ha⟩:∃a,a=e-t.bA:=⟨_,rfl⟩;obtain⟨b,hb⟩:∃b,b=f-t.bA:=⟨_,rfl⟩;have m1:t.de*a<=t.de*b:=Ql8 (by omega) ht
 have m2:a / 64*(a / 64)<=b / 64*(b / 64):=QhB (by omega) (by omega) (by omega) (by omega)
 have m3:(t.gA+t.cP*m+t.de*a).toNat<=(t.gA+t.cP*m+t.de*b).toNat:=Int.toNat_le_toNat (by omega)
 have m4:(a / 64*(a / 64)).toNat<=(b / 64*(b / 64)).toNat:=Int.toNat_le_toNat m2;rw[ha]at m3 m4;rw[hb]at m3 m4;exact QbY m3 m4
theorem Qj6(hw:UK x (q9 x kind) kind nr du K w)(h:QH x kind l q)(hK:l.length<=K)(hB:Qgl x (q9 x kind) kind nr du K (cU x.types) kn dw dU):
  dU=true/\∃(b:Rat) (m:Int),dw=jG b/\rl 1000 b/\(Dd x kind l q (l.length+1)).ct.cV=(Dd x kind l q l.length).ct.cV+m/\0<=m/\b<=vaT x kind l q du l.length+CI (jP (q9 x kind) (Dd x kind l q (l.length+1)).ready m):=by
 have lN:=h.seq.ne;have hT:=h.ok.Ed _ h.Ed;obtain⟨s,hs,hc⟩:∃s∈kn,T0 x kind l q du l.length s:=by
  obtain⟨s,hs,hc⟩:=chain hw h hK hB (l.length-1) (by omega)
  rw[show l.length-1+1=l.length by omega]at hc
  exact⟨s,hs,hc⟩
 have yw:=hB.bd.all s hs;obtain⟨b,hb,o6⟩:=hB.bd.dw;obtain⟨e,m,ok,hE,y5⟩:=o6 s hs;have hB0:s.B=0:=Nat.eq_of_testBit_eq λi=>by rw[hc.mD,Qmj h.seq,Nat.zero_testBit]
 have QhZ:=Qeh h (k:=l.length) (fa _) yw.ri.BY hc.BY;rw[zY (by rw[h.aA];omega)]at QhZ
 obtain⟨c',w1,w2,w3,w4,w5,w6,w7⟩:=QhZ;have w1:c'∈(uR x.bV (q9 x kind) (VK x kind l l.length) (q9 x kind).eI s.C).1:=w1;have w2:c'.ready<=(q9 x kind).bI:=w2;have w3:(Dd x kind l q (l.length+1)).ready=max c'.ready 0+0:=w3;have w5:(Dd x kind l q (l.length+1)).ct.cV=(Dd x kind l q l.length).ct.cV+(uR x.bV (q9 x kind) (VK x kind l l.length) (q9 x kind).eI s.C).2:=w5;have w6:0<=(uR x.bV (q9 x kind) (VK x kind l l.length) (q9 x kind).eI s.C).2:=w6;have w7:(uR x.bV (q9 x kind) (VK x kind l l.length) (q9 x kind).eI s.C).2=(goN x.bV (q9 x kind).aJ (VK x kind l l.length) (q9 x kind).eI 0).2.1:=w7;have hP:=Fx (n:=x.bV) (t:=q9 x kind) (a:=VK x kind l l.length) (b:=(q9 x kind).eI) h.ok.bV hT.eu.2 hT.rest yw.ri.BY;have c0:=(hP.BY c' w1).1;rw[<-hc.place]at w1 w5 w6 w7;obtain⟨k1,k2,k3⟩:=hE.all (by have:=yw.v0;omega) hB0 c' w1 w2
 have AW:=hE.bd k1;obtain⟨f1,f2⟩:=y5 k1;obtain⟨g1,g2⟩:=hb f1;refine⟨f1,b,m,g1,g2,by rw[w5,w7,k3],by omega,QnP f2 hc.val (Qnz (QnG hT.de.1 AW.1 (by rw[w3];omega)))⟩
end
def Qjw(x:ae)(c:aM):Prop:=∃(m:Nat) (l:List ab),c.b9=(m:Int)/\m<1024/\GV x (bK c.bt) m l/\c.p_=(zO x (rW (bK c.bt) l)).1
section
variable {x : ae} {kind : Int} {l : List ab} {q : List Bool} {nr : Nat -> Nat} {du : Nat -> Rat} {K : Nat} {w : ax} {s a : RP} {k i m : Nat} {o : aw} {v : ab} {kn : List RP} {dw : I} {dU : Bool} {r : aD}
theorem QjR(hf:DC x){j:Nat}(h:(MT x (bK kind) (j:Int)).2=0):Qjw x (MT x (bK kind) (j:Int)).1:=by
 have h8:=QiF hf;unfold MT at h ⊢;split
 ·rename_i hc;rw[if_pos hc]at h;rw[QaC]at h ⊢;cases ho:Qb5 x (bK kind) j with
  |none=>rw[ho]at h;exact absurd h (by show(24:Int)≠0;omega)
  |some k =>
   obtain⟨t,_,_,h3,h4⟩:=QfJ (Qfs ho);refine⟨j,k.2,rfl,by have:=hc.2.2;omega,h3,?_⟩
   show k.1=_;exact QaB Prod.fst h4
 ·rename_i hc;rw[if_neg hc]at h;exact absurd h (by show(2:Int)≠0;omega)
theorem Qc7(hf:DC x){fit:Nat->Bool}:∀j,∀c∈Im x (bK kind) fit j,Qjw x c
 |0,c,h=>by cases h
 |j+1,c,h=>by
  unfold Im at h;rcases QaI.1 h with h|h
  ·exact Qc7 hf j c h
  ·split at h
   ·rename_i hc;rw[Qaz.1 h];exact QjR hf (kp.1 (Ae.1 hc).2)
   ·cases h
theorem QgG(hf:DC x):∀k,∀c∈Kk x k,Qjw x c
 |0,c,h=>by cases h
 |k+1,c,h=>by
  unfold Kk at h;rcases QaI.1 h with h|h
  ·exact QgG hf k c h
  ·exact Qc7 hf _ c h
theorem QnV(hx:dn x){s:a8}{b:List Bool}(h:Qer x r s b):
  ∃c a:Int,a=s.j8-(bG x r).bA/\c=(bG x r).gA+(bG x r).cP*s.cV+(bG x r).de*a/\QfB x r s=cb.mk c (dY x r r.ak.length).1 (dY x r r.ak.length).2 (a / 64*(a / 64))/\0<=a/\0<=(bG x r).gA/\0<=(bG x r).cP*s.cV/\0<=(bG x r).de*a/\c<=1073741824/\0<=a / 64*(a / 64)/\a / 64*(a / 64)<=4096:=by
 obtain⟨f1,f2,f3,f4,f5,f6,f7,f8⟩:=h.facts hx;have hT:=hx.Ed _ (GA h.bt.1 h.bt.2).2;have h1:=hT.gA;have h2:=hT.cP;have h3:=hT.de;have h4:=hT.pL;have h5:=hT.bI;have hd:cX .i64 s.j8 (bG x r).bA=s.j8-(bG x r).bA:=nd (by omega) (by omega)
 obtain⟨a,ha⟩:∃a,a=s.j8-(bG x r).bA:=⟨_,rfl⟩;have WR:0<=a/\a<=4096:=by omega
 have m1:0<=(bG x r).cP*s.cV/\(bG x r).cP*s.cV<=21000000:=by
  refine⟨Qgb h2.1 f3,?_⟩;exact Qgd (QhB h2.2 f4 f3 (by omega)) (by omega)
 have m2:0<=(bG x r).de*a/\(bG x r).de*a<=409600:=by
  refine⟨Qgb h3.1 WR.1,?_⟩;exact Qgd (QhB h3.2 WR.2 WR.1 (by omega)) (by omega)
 have hq:q_ .i64 a 64=a / 64:=QtV (by omega) (by omega)
 have TV:0<=a / 64/\a / 64<=64:=by omega
 have m3:0<=(a / 64)*(a / 64)/\(a / 64)*(a / 64)<=4096:=⟨Qgb TV.1 TV.1,Qgd (QhB TV.2 TV.2 TV.1 (by omega)) (by omega)⟩
 refine⟨_,a,ha,rfl,?_,WR.1,h1.1,m1.1,m2.1,by omega,m3.1,m3.2⟩
 unfold QfB;rw[hd,<-ha,I4 (by omega) (by omega),I4 (by omega) (by omega),dZ (a:=(bG x r).gA) (by omega) (by omega),dZ (by omega) (by omega),hq,I4 (by omega) (by omega)]
theorem Qlb(hx:dn x)(r:aD):(dY x r r.ak.length).1<=10/\(dY x r r.ak.length).2<=10:=by
 have dO:=hx.ai;have hf:=VG (r:=r) hx r.ak.length (fa _);have hs:ot x.ai.length (λi=>tf (dc (r.ak.take r.ak.length) (i:Int)))<=x.ai.length:=by
  have:=(Ov (f:=λi=>tf (dc (r.ak.take r.ak.length) (i:Int))) (c:=1) (by omega) x.ai.length λi=>JT).2
  omega
 omega
theorem QnH(f pm mk m pt a n1 n2 w:Nat):(pm*mk*2 ^ 24+(n1*16+n2)*65536)+((f+pm*m+pt*a)*2 ^ 24+w)=(((f+pm*(mk+m)+pt*a)*16+n1)*16+n2)*65536+w:=by
 rw[Nat.mul_add pm mk m];generalize pm*mk=A;generalize pm*m=B;generalize pt*a=C;omega
theorem Qml(f pm mk mm pt an n1 n2 W A B:Nat):((((f:Int)+(pm:Int)*((mk:Int)+(mm:Int))+(pt:Int)*(an:Int))*(A:Int)+(n1:Int))*(A:Int)+(n2:Int))*(B:Int)+(W:Int)=(((((f+pm*(mk+mm)+pt*an)*A+n1)*A+n2)*B+W:Nat):Int):=by
 simp only[Qjo,QeV]
theorem QkR{A B C D:Rat}(h:A+B=C):A-D+B=C-D:=by grind
theorem QnK(hf:DC x)(hk:w_ kind)(hv:GV x (bK kind) m l):∃q,QH x kind l q/\∃P:Nat,(zO x (rW (bK kind) l)).1=(P:Int)/\P<=9223372036854775807/\
  ∀du m,0<=m->(Dd x kind l q (l.length+1)).ct.cV=(Dd x kind l q l.length).ct.cV+m->vaT x kind l q du l.length+CI (jP (q9 x kind) (Dd x kind l q (l.length+1)).ready m)=CI P-dT' x l du l.length:=by
 have hx:=hf.ok;obtain⟨hs,hR,h9,q,hE⟩:=QcB hf hk hv;have hfa:=hE.facts hx;have hT:QH x kind l q:=⟨hx,hE.bt,hs,hE.Qmf,hE.fits,hE.ZP,hfa.2.2.2.2.2.2.1,hE.full.2.2⟩;obtain⟨c,a,ha,hc,hsc,a0,c1,c2,c3,c4,w0,w1⟩:=QnV hx hE;obtain⟨e1,_,_,_,e5⟩:=RC hx hR h9;obtain⟨p1,_⟩:=XE hx hR h9;have h0:=QiH hx hR h9 hv.2.1;obtain⟨es,_⟩:=e5 h0;have hpb:=Jc (x:=x) (r:=rW (bK kind) l) l.length;have hpf:=Qlb hx (rW (bK kind) l);have yz:(rW (bK kind) l).ak.length=l.length:=rfl;rw[yz]at hpf hsc;obtain⟨n1,SV⟩:∃n1:Nat,(dY x (rW (bK kind) l) l.length).1=(n1:Int):=⟨(dY x (rW (bK kind) l) l.length).1.toNat,by omega⟩
 obtain⟨n2,hn2⟩:∃n2:Nat,(dY x (rW (bK kind) l) l.length).2=(n2:Int):=⟨(dY x (rW (bK kind) l) l.length).2.toNat,by omega⟩
 rw[SV,hn2]at hsc hpf;have hpr:(zO x (rW (bK kind) l)).1=((c*16+n1)*16+n2)*65536+a / 64*(a / 64):=by
  unfold mW at p1;rw[e1,af,aR (by rw[vu];exact h0),es,hsc,Qev (by omega) (by omega) (by omega) (by omega),af]at p1
  have:=QaL p1;rw[<-this]
 have TX:q.take (l.length+1)=q:=QeR (by have:=hT.len;omega)
 have hsh:(Dd x kind l q (l.length+1)).ct=(YU x (rW (bK kind) l)).1:=by
  unfold Dd;rw[TX];exact hE.ct.symm
 have Bp:(Dd x kind l q (l.length+1)).ready=(YU x (rW (bK kind) l)).1.j8:=by
  have:=O0 (aE:=0) hT.QcA ⟨QaJ _,by omega⟩ (b:=q) (by rw[hT.aA];exact hT.len) hT.okq
  unfold xq at this;unfold Dd;rw[TX,<-this,hE.ct];rfl
 have kZ:0<=c:=by omega
 refine⟨q,hT,(((c*16+n1)*16+n2)*65536+a / 64*(a / 64)).toNat,by rw[hpr];omega,by omega,λdu m hm hmi=>?_⟩
 have hT2:=hx.Ed _ hT.Ed;have QwF:=(hT.Vl (k:=l.length) (fa _)).Ge;unfold vaT;refine QkR ?_
 rw[<-Xu];congr 1;unfold jP nT';rw[Bp,SV,hn2];have hty:bG x (rW (bK kind) l)=q9 x kind:=rfl;rw[hty]at ha hc c1 c2 c3;rw[<-ha];rw[hsh]at hmi;obtain⟨mk,RQ⟩:∃mk:Nat,(Dd x kind l q l.length).ct.cV=(mk:Int):=⟨(Dd x kind l q l.length).ct.cV.toNat,by omega⟩
 obtain⟨mm,rfl⟩:∃mm:Nat,m=(mm:Int):=⟨m.toNat,by omega⟩
 obtain⟨pm,hpm⟩:∃pm:Nat,(q9 x kind).cP=(pm:Int):=⟨(q9 x kind).cP.toNat,by have:=hT2.cP;omega⟩
 obtain⟨pt,hpt⟩:∃pt:Nat,(q9 x kind).de=(pt:Int):=⟨(q9 x kind).de.toNat,by have:=hT2.de;omega⟩
 obtain⟨f,hfx⟩:∃f:Nat,(q9 x kind).gA=(f:Int):=⟨(q9 x kind).gA.toNat,by omega⟩
 obtain⟨an,rfl⟩:∃an:Nat,a=(an:Int):=⟨a.toNat,by omega⟩
 obtain⟨W,hW⟩:∃W:Nat,(an:Int) / 64*((an:Int) / 64)=(W:Int):=⟨((an:Int) / 64*((an:Int) / 64)).toNat,by omega⟩
 rw[hmi,RQ,hpm,hpt,hfx]at hc;rw[hc,RQ,hpm,hpt,hfx,hW];have t1:((n1:Int)*16+(n2:Int)).toNat=n1*16+n2:=by omega
 have t2:((f:Int)+(pm:Int)*(mm:Int)+(pt:Int)*(an:Int)).toNat=f+pm*mm+pt*an:=by
  rw[<-QeV,<-QeV];omega
 have t3:((((f:Int)+(pm:Int)*((mk:Int)+(mm:Int))+(pt:Int)*(an:Int))*16+(n1:Int))*16+(n2:Int))*65536+(W:Int)=(((((f+pm*(mk+mm)+pt*an)*16+n1)*16+n2)*65536+W:Nat):Int):=by
  exact Qml f pm mk mm pt an n1 n2 W 16 65536
 rw[t1,t2,t3,QaC,QaC,QaC,QaC];exact QnH f pm mk mm pt an n1 n2 W
end
section
variable {x : ae} {kind : Int} {nr : Nat -> Nat} {du : Nat -> Rat} {K : Nat} {w : ax} {kn : List RP} {dw : I} {dU : Bool} {c : aM}
theorem Qo_(hI:QcO x){n:Int}:post (th x n) λok=>ok=true->dn x/\(x.ai.length:Int)<=n:=by
 unfold th;refine bg (λh3=>bw (Wu hI) λl hl=>aI.2 λh=>?_) (λ_=>aI.2 λh=>by cases h)
 simp only[ma,kp,xa,ay]at h h3;exact⟨hl (Qjs.1 (by omega)),by omega⟩
theorem QgO:kz=some true:=by kernel_rfl
def QoM(x:ae)(du:Nat->Rat)(dw:I)(dU:Bool)(c:aM):Prop:=
 ∃m P:Nat,c.b9=(m:Int)/\m<1024/\c.p_=(P:Int)/\P<=9223372036854775807/\dU=true/\∃b:Rat,dw=jG b/\rl 1000 b/\b<=CI P-A0 x.ai.length λi=>if m.testBit i=true then du i else 0
theorem QeE(hf:DC x)(hk:w_ kind)(hw:UK x (q9 x kind) kind nr du (pn x x.ai.length).length w)(hB:Qgl x (q9 x kind) kind nr du (pn x x.ai.length).length (cU x.types) kn dw dU)(hc:Qjw x c)(ht:c.bt=kind):QoM x du dw dU c:=by
 obtain⟨m,l,h1,h2,h3,h4⟩:=hc;rw[ht]at h3 h4;obtain⟨q,hT,P,hP,hPb,o6⟩:=QnK hf hk h3;obtain⟨f1,b,mm,g1,g2,g3,g4,g5⟩:=Qj6 hw hT (QiT hT.seq) hB;rw[o6 du mm g4 g3]at g5;have hd:dT' x l du l.length=A0 x.ai.length λi=>if m.testBit i=true then du i else 0:=by
  unfold dT';refine MB _ λi _=>?_
  rw[QbC,h3.2.2 i]
 rw[hd]at g5;exact⟨m,P,h1,h2,by rw[h4,hP],hPb,f1,b,g1,g2,g5⟩
theorem QnN{a b:Rat}:a-b=a-(b+0):=by grind
theorem QnO{a b d:Rat}:a-b-d=a-(b+d):=by grind
theorem QiJ{a:Rat}:a-0=a:=by grind
theorem Qn6{cR:List I}{n:Nat}(hdu:∀i,i<n->cR[i]?=some (jG (du i))/\rl 20 (du i))(hlen:cR.length=n)(hn:n<=3){r7:I×Bool×Int}{r8:List aM×Int}{j:Nat}(hj:r8.1[j]?=some c){m P:Nat}(hm:c.b9=(m:Int))(Zg:m<1024)(hP:P<=9223372036854775807):
  post (aL (λs:I×Int=>fy kind cR r7 r8 (j:Int) s.1 s.2) (jG (CI P),0)) λe=>∃v:Rat,e=.inl (jG v)/\rl 1000 v/\v=CI P-A0 n λi=>if m.testBit i=true then du i else 0:=by
 obtain⟨f,hf⟩:∃f:Nat->Rat,f=λi=>if m.testBit i=true then du i else 0:=⟨_,rfl⟩
 rw[<-hf];refine p6 n (by omega) (λ(k:Nat) (s:I×Int)=>s=(jG (CI P-A0 k f),(k:Int))/\rl (19+22*k) (CI P-A0 k f)) ⟨?_,?_⟩ ?_ ?_
 ·show(_,_)=(jG (CI P-0),_);rw[QiJ];rfl
 ·show rl 19 (CI P-0);rw[QiJ];exact Mg hP
 ·rintro k _ hk ⟨rfl,hr⟩;obtain⟨d1,d2⟩:=hdu k hk;show post (fy kind cR r7 r8 (j:Int) (jG (CI P-A0 k f)) (k:Int)) _;unfold fy;rw[bk (by rw[ew];unfold ay;omega),bB hj,af,eU (by omega),hm,UQ (by omega) (by omega),dZ (by omega) (by omega),show(k:Int)+1=((k+1:Nat):Int) by omega]
  refine bg (λhb=>?_) (λhb=>?_)
  ·have hfk:f k=du k:=by rw[hf];exact if_pos hb
   have hs:CI P-A0 (k+1) f=CI P-A0 k f-du k:=by
    show CI P-(A0 k f+f k)=_;rw[hfk];exact QnO.symm
   rw[bB d1,af,QcS (hr.more (by omega)) (d2.more (by omega)),af,aR (by rfl)]
   refine cZ (C:=λs'=>_) ⟨?_,?_⟩
   ·rw[hs]
   ·rw[hs];exact(Qcj hr d2).more (by omega)
  ·have hfk:f k=0:=by rw[hf];exact if_neg (by rw[hb];simp)
   have hs:CI P-A0 (k+1) f=CI P-A0 k f:=by
    show CI P-(A0 k f+f k)=_;rw[hfk];exact QnN.symm
   refine cZ (C:=λs'=>_) ⟨?_,?_⟩
   ·rw[hs]
   ·rw[hs];exact hr.more (by omega)
 ·rintro _ ⟨rfl,hr⟩;show post (fy kind cR r7 r8 (j:Int) (jG (CI P-A0 n f)) (n:Int)) _;unfold fy;rw[aR (by rw[eC];unfold ay;omega)]
  exact dd ⟨_,rfl,hr.more (by omega),rfl⟩
theorem Qn5{cR:List I}(h3:x.ai.length<=3)(hdu:∀i,i<x.ai.length->cR[i]?=some (jG (du i))/\rl 20 (du i))(hlen:cR.length=x.ai.length){e:Int}{r8:List aM×Int}(hl8:r8.1.length<=1048576)(Qst:∀c∈r8.1,c.bt=kind->QoM x du dw dU c):
  post (aL (λs:Int=>eZ kind cR (dw,dU,e) r8 s) 0) λe=>e=.inl ():=by
 refine qj (B:=λs:Int=>eZ kind cR (dw,dU,e) r8 s) r8.1.length _ (λ_=>True) (by omega) (λj hj=>?_) ?_
 ·show post (eZ kind cR (dw,dU,e) r8 (j:Int)) _;unfold eZ;have ej:r8.1[j]?=some r8.1[j]:=dr hj;have hm:=Qst _ (QaH hj);generalize r8.1[j]=c at ej hm;rw[bk (by rw[ew];unfold ay;omega),bB ej,af,dZ (by omega) (by omega)]
  refine bg (λ_=>aI.2 (.inl ⟨rfl,trivial⟩)) (λht=>?_)
  rw[vu]at ht;obtain⟨m,P,h1,h2,h4,h5,h6,b,b1,b2,b3⟩:=hm ht;rw[h4,Qgp h5,af];refine bw (Qn6 hdu hlen h3 ej h1 h2 h5) ?_
  rintro _ ⟨v,rfl,v1,v2⟩;rw[c5];subst h6 b1;show post (br true _ _) _;rw[dT];obtain⟨cc,c1,c2⟩:=Qg8 (b2.more (show 1000<=4095 by omega)) (v1.more (show 1000<=4095 by omega))
  show post (aQ (jn (jG b) (jG v)) _) _;rw[c1,af,aR (by rw[iu];exact c2.2 (by rw[v2];exact b3))]
  exact aI.2 (.inl ⟨rfl,trivial⟩)
 ·show post (eZ kind cR (dw,dU,e) r8 (r8.1.length:Int)) _;unfold eZ;rw[aR (by rw[eC];unfold ay;omega)]
  exact aI.2 ⟨_,rfl,λ_=>rfl⟩
theorem Qn4{cR:List I}{size:Int}(hl:cR.length<=1048576)(hd:∀a∈cR,a.size<=1048576):
  post (aL (λs:Int=>eY x kind size cR s) 0) λe=>(e=.inl ()/\∀a∈cR,a.size<=20)\/e=.inr true:=by
 refine qj (B:=λs:Int=>eY x kind size cR s) cR.length _ (λj=>∀a,cR[j]?=some a->a.size<=20) (by omega) (λj hj=>?_) ?_
 ·show post (eY x kind size cR (j:Int)) _;unfold eY;have ej:cR[j]?=some cR[j]:=dr hj;have hm:=hd _ (QaH hj);generalize cR[j]=a at ej hm;have hal:a.data.toList.length<=1048576:=hm;obtain⟨b,hb⟩:=QjK hal;rw[<-QgX]at hb;rw[bk (by rw[ew];unfold ay;omega),bB ej,af,hb,af,QgO,af,dZ (by omega) (by omega)]
  refine bg (λ_=>bg (λ_=>aI.2 (.inr ⟨_,rfl,.inr rfl⟩)) (λhs=>aI.2 (.inl ⟨rfl,λa' ha=>?_⟩))) (λ_=>aI.2 (.inr ⟨_,rfl,.inr rfl⟩))
  rw[ej]at ha;cases ha;rw[iu]at hs;unfold ca at hs;omega
 ·show post (eY x kind size cR (cR.length:Int)) _;unfold eY;rw[aR (by rw[eC];unfold ay;omega)]
  refine aI.2 ⟨_,rfl,λo6=>.inl ⟨rfl,λa ha=>?_⟩⟩
  obtain⟨j,hj⟩:=QeT.1 ha;exact o6 j (pB.1 hj).1 a hj
theorem OI(x:ae)(hI:QcO x)(kind size:Int)(hk:w_ kind)(cR:List I)(hd:∀a∈cR,a.size<=1048576):ru x kind size cR=some true:=by
 apply post.eq;unfold ru;rw[QgO];refine bw (Qo_ hI) λok y5=>bg (λ_=>aI.2 rfl) (λhg=>?_)
 simp only[Ja,ntF,eC,A7,vu,ay]at hg;obtain⟨⟨⟨g1,g2⟩,g3⟩,g4⟩:=hg;obtain⟨hx,hx2⟩:=y5 g1;have hlen:cR.length=x.ai.length:=by omega
 have h3:x.ai.length<=3:=by omega
 refine bw (Qn4 (by omega) hd) ?_
 rintro _ (⟨rfl,Qsz⟩|rfl)
 ·rw[c5];refine bw (Qes (by omega)) ?_
  rintro⟨fZ,er⟩ hN;refine bg (λ_=>aI.2 rfl) (λhe=>?_)
  have hN:H6 x.ai.length fZ:=hN (vu.1 he);refine bw (QaO hx h3 ⟨g2,g3⟩ hN Qsz hlen) ?_
  rintro⟨dw,dU,e7⟩ hB;have hf:DC x:=⟨hx,h3⟩;rw[Yu hf,af];refine bg (λ_=>aI.2 rfl) (λhe7=>?_)
  simp only[Ja,vu]at he7;obtain⟨t,nr,du,w,kn,ht,hw,hdu,hF⟩:=hB he7.1;have hty:t=q9 x kind:=by
   unfold q9;rw[Qbo,ht];rfl
  subst hty;have y4:=Se hf x.types.length;have h6:=hx.types;refine bw (Qn5 (r8:=(Kk x x.types.length,0)) h3 hdu hlen (by show(Kk x x.types.length).length<=_;omega) λc hc hty=>QeE hf hk hw hF (QgG hf _ c hc) hty) ?_
  rintro _ rfl;exact aI.2 rfl
 ·exact aI.2 rfl
end
end
end Go.Proofs.YtkcilfpbgjjjbaaGreatDoor
