/- Part MP. -/
import Derived.Test.YtkcilfpbgjjjbaaGreatDoorMI
import Derived.Test.YtkcilfpbgjjjbaaGreatDoorMT
import Derived.KernelRfl
set_option linter.unusedSimpArgs false
set_option linter.unusedVariables false
set_option linter.unusedSectionVars false
namespace Go.Proofs.YtkcilfpbgjjjbaaGreatDoor
section
variable {α : Type}
theorem ZQ{B:List α × Int→Option ((List α × Int) ⊕(List α))}(n c:Nat)(P:Nat→Prop)(init:List α)(hn:n < 18446744073709551615)
    (step: ∀(i:Nat) (out:List α),i < n->out.length<=init.length + c * i->post (B (out,(i:Int))) λx => ∃new,x = .inl (out ++ new,(i:Int) + 1)/\new.length<=c/\(new = []↔P i))
    (fin: ∀out,B (out,(n:Int)) = some (.inr out)):post (aL B (init,0)) λr => r.length<=init.length + c * n/\(r = []↔init = []/\∀i,i < n->P i):= by
  refine dP (λs => ∃i:Nat,s.2 =(i:Int)/\i<=n/\s.1.length<=init.length + c * i/\(s.1 = []↔init = []/\∀k,k < i->P k)) (λs => n - s.2.toNat)
    ⟨0,rfl,QaD _,by simp,by simp⟩ (by simp;omega) ?_
  rintro⟨out,j⟩ ⟨i,hj,hi,hl,he⟩;simp only at hj hl he;subst hj;by_cases h:i < n
  · refine(step i out h hl).mono ?_
    rintro x ⟨new,rfl,h1,h2⟩;refine⟨λs' hs => ?_,λ_ h => by cases h⟩
    cases hs;refine⟨⟨i + 1,by simp,by omega,by simp [Nat.mul_add];omega, ?_⟩,by simp;omega⟩
    simp only[Qms,he,h2];constructor
    · rintro⟨⟨h3,h4⟩,h5⟩
      exact ⟨h3, fun k hk => by rcases sh k i with h | h; exact h4 k h; obtain rfl : k = i := by omega
                                exact h5⟩
    · rintro⟨h3,h4⟩;exact⟨⟨h3,λk hk => h4 k (by omega)⟩,h4 i (by omega)⟩
  · obtain rfl:i = n:= by omega
    rw[fin];exact dd ⟨hl,he⟩
end
theorem eV{n b:Nat}(h:n*b<=140737488355328):fQ n b:=h
theorem Yj{a b:Bool}:(a||b)=true↔a=true\/b=true:=Bool.or_eq_true_iff ..
theorem Ja{a b:Bool}:(a||b)=false↔a=false/\b=false:=Bool.or_eq_false_iff
theorem Ae{a b:Bool}:(a&&b)=true↔a=true/\b=true:=Bool.and_eq_true_iff
theorem Wj{a b:Bool}:(a&&b)=false↔a=false\/b=false:=QmC
theorem ntT{a:Bool}:(!a)=true↔a=false:=by cases a <;> simp
theorem ntF{a:Bool}:(!a)=false↔a=true:=by cases a <;> simp
theorem w8(l:List Int):(wC l).size=l.length:=by simp [wC,ByteArray.size]
theorem Qam(a:Int):(a.tdiv 10).natAbs=a.natAbs / 10:=by rw[Int.natAbs_tdiv];rfl
theorem Ql2{a:Int}(h:a.natAbs<=9223372036854775808):q_ .i64 a 10=a.tdiv 10:=by
 have:=Qam a;exact XH (by omega) (by omega)
def w_(n:Int):Prop:=-9223372036854775808<=n/\n<=9223372036854775807
theorem UX{n left d:Int}{s:I}{k:Nat}(hl:left.natAbs<=9223372036854775808)(h1:left.natAbs<10 ^ k)(h2:s.size+k<=20)(hk:1<=k):
  post (ji n s left d) λx=>(∀s',x=.inl s'->(∃k:Nat,s'.2.1.natAbs<=9223372036854775808/\s'.2.1.natAbs<10 ^ k/\s'.1.size+k<=20/\(s'.2.2=true->1<=k/\s'.2.1≠0))/\s'.2.1.natAbs+(if s'.2.2 then 1 else 0)<left.natAbs+1)/\∀e,x=.inr e->e.size<=20:=by
 unfold ji;have hq:=Ql2 hl;have ha:=Qam left;refine bY (by rw[w8];simp;omega) (cZ ?_)
 simp only[hq];obtain⟨k,rfl⟩:∃j,k=j+1:=⟨k-1,by omega⟩
 have hs:(ee (wC [Bn IntKind.u8 (aV IntKind.i64 48 d)]) s).size=1+s.size:=by unfold ee;rw[Qlx,w8];rfl
 refine⟨⟨k,by omega,by rw[ha];rw[Qdw]at h1;omega,by rw[hs];omega,λh=>?_⟩,?_⟩
 ·simp only[uA]at h;refine⟨?_,h⟩;rcases QcW k with rfl|h'
  ·exfalso;apply h;have:(left.tdiv 10).natAbs=0:=by rw[ha];simp at h1;omega
   omega
  ·exact h'
 ·cases hb:cp (left.tdiv 10) 0 with
  |true =>
   simp only[uA]at hb;simp only[if_true];have:(left.tdiv 10).natAbs≠0:=by omega
   omega
  |false=>simp only[QmL,if_false];omega
theorem xB(n:Int)(hn:w_ n):post (fj n) λs=>s.size<=21:=by
 unfold w_ at hn;refine bw (R:=λs=>s.size<=20) ?_ λs hs=>?_
 ·refine dP (λs=>∃k:Nat,s.2.1.natAbs<=9223372036854775808/\s.2.1.natAbs<10 ^ k/\s.1.size+k<=20/\(s.2.2=true->1<=k/\(s.2.1=0->True))) (λs=>s.2.1.natAbs+(if s.2.2 then 1 else 0)) ⟨19,by simp only;omega,by simp only;omega,by simp [QmF],by simp⟩ (by simp only;split <;> omega) ?_
  rintro⟨s,left,again⟩ ⟨k,h0,h1,h2,h3⟩;simp only at h0 h1 h2 h3;cases again with
  |false=>exact dd (show s.size<=20 by omega)
  |true =>
   refine post.mono (Q:=λx=>(∀s',x=.inl s'->(∃k:Nat,s'.2.1.natAbs<=9223372036854775808/\s'.2.1.natAbs<10 ^ k/\s'.1.size+k<=20/\(s'.2.2=true->1<=k/\s'.2.1≠0))/\s'.2.1.natAbs+(if s'.2.2 then 1 else 0)<left.natAbs+1)/\∀e,x=.inr e->e.size<=20) ?_ ?_
   ·show post (br true (br (bh (wV left 10) 0) _ _) _) _;rw[dT];exact bg (λ_=>UX h0 h1 h2 (h3 rfl).1) (λ_=>UX h0 h1 h2 (h3 rfl).1)
   ·rintro x ⟨g1,g2⟩;refine⟨λs' hs=>?_,g2⟩
    obtain⟨⟨k',q1,q2,q3,q4⟩,q5⟩:=g1 s' hs;exact⟨⟨k',q1,q2,q3,λh=>⟨(q4 h).1,λ_=>trivial⟩⟩,q5⟩
 ·refine bg (λ_=>bY ?_ (aI.2 ?_)) (λ_=>aI.2 (by omega))
  ·show 1+s.size<=_;omega
  ·unfold ee;rw[Qlx];show 1+s.size<=_;omega
theorem NG{k:Nat}(h:k<4294967296):w_ (k:Int):=by unfold w_;omega
abbrev Pt:=aK
def pH(p:Pt):Prop:=0<=p.t/\p.t<=4096/\p.t<=p.a/\p.a<=p.t+4096
def okP(l:List Pt)(i:Nat):Prop:=∀p,l[i]?=some p->pH p/\(0<i->∀q,l[i-1]?=some q->q.t<p.t/\q.a<=p.a)
structure ui (l:List Pt):Prop where
 pos:1<=l.length
 tn:l.length<=16
 all:∀i,i<l.length->okP l i
def ptI(p:Pt):Prop:=w_ p.t/\w_ p.a
theorem ZX{l:List Pt}{i:Nat}{x0:Pt}{out new:List aa}(hx:l[i]?=some x0)(hi:i<2000000)(hlen:l.length<2000000)(ho:out.length<=1+2*i)(hn:new.length<=1)(hw:new=[]↔pH x0):
  post (kG l (i:Int) x0 (out++new)) λx=>∃new,x=.inl (out++new,(i:Int)+1)/\new.length<=2/\(new=[]↔okP l i):=by
 have G5:aV .i64 (i:Int) 1=(i:Int)+1:=dZ (by omega) (by omega)
 unfold kG;have Qs8:∀f:aa,fQ (out++new++[f]).length 24:=λf=>eV (by simp;omega)
 have QlN:(0<i->∀q,l[i-1]?=some q->q.t<x0.t/\q.a<=x0.a)->post (some (Sum.inl (out++new,aV .i64 (i:Int) 1):(List aa×Int)⊕List aa)) λx=>∃new,x=.inl (out++new,(i:Int)+1)/\new.length<=2/\(new=[]↔okP l i):=by
  intro hq;rw[G5];refine⟨_,rfl,new,rfl,by omega,?_⟩
  rw[hw];exact⟨λh p hp=>by rw[hx]at hp;cases hp;exact⟨h,hq⟩,λh=>(h x0 hx).1⟩
 have QlM:∀r:I,(∃q,0<i/\l[i-1]?=some q/\¬(q.t<x0.t/\q.a<=x0.a))->post (ft (fQ (out++new++[aa.mk 13 r]).length 24) (some (Sum.inl (out++new++[aa.mk 13 r],aV .i64 (i:Int) 1):(List aa×Int)⊕List aa))) λx=>∃new,x=.inl (out++new,(i:Int)+1)/\new.length<=2/\(new=[]↔okP l i):=by
  rintro r ⟨q,h0,h1,h2⟩;refine bY (Qs8 _) ?_
  rw[G5];refine⟨_,rfl,new++[_],by rw[Qds],by simp;omega,?_⟩
  constructor
  ·intro h;simp at h
  ·intro h;exact absurd ((h x0 hx).2 h0 q h1) h2
 refine bg (λh=>?_) (λh=>QlN λh0=>by simp at h;omega)
 simp only[oH]at h;have h1:cX .i64 (i:Int) 1=((i-1:Nat):Int):=by rw[nd (by omega) (by omega)];omega
 have JU:l[i-1]?=some (l[i-1]'(by have:=(pB.1 hx).1;omega)):=dr _
 rw[h1,bB JU,af];have hd:=xB (i:Int) (NG (by omega))
 refine bg (λh2=>bw hd λr _=>QlM r ⟨_,by omega,JU,λhh=>?_⟩) (λh2=>bg (λh3=>bw hd λr _=>QlM r ⟨_,by omega,JU,λhh=>?_⟩) (λh3=>QlN λ_ q hq=>?_))
 ·simp only[xa]at h2;omega
 ·simp only[ew]at h3;omega
 ·rw[JU]at hq;cases hq;simp only[S5]at h2;simp only[eC]at h3;omega
theorem QlV{x0:Pt}(hI:ptI x0):((((bh x0.t 0)||(dt x0.t 4096))||(bh x0.a x0.t))||(dt x0.a (aV .i64 x0.t 4096)))=false↔pH x0:=by
 obtain⟨h1,h2⟩:=hI;unfold w_ at h1 h2;simp only[Ja,eC,iu];unfold pH;constructor
 ·rintro⟨⟨⟨a,b⟩,c⟩,d⟩;rw[dZ (by omega) (by omega)]at d
  omega
 ·rintro⟨a,b,c,d⟩;rw[dZ (by omega) (by omega)]
  omega
theorem EZ{l:List Pt}(hlen:l.length<=1048576)(hI:∀p∈l,ptI p):post (lU l) λr=>r.length<=1+2*l.length/\(r=[]↔ui l):=by
 have main:∀init:List aa,init.length<=1->post (nW l init) λr=>r.length<=init.length+2*l.length/\(r=[]↔init=[]/\∀i,i<l.length->okP l i):=by
  intro init qc;refine bw ?_ λa h=>aI.2 h
  refine ZQ l.length 2 (okP l) init (by omega) (λi out hi ho=>?_) (λout=>?_)
  ·have hx:=Qbk hi;have DI:l[i]?=some l[i]:=dr hi;show post (kH l out (i:Int)) _;unfold kH;rw[bk (by simp [ay];exact hi),hx,af]
   have hp:=hI l[i] (QaH hi);refine bg (λh=>bw (xB (i:Int) (NG (by omega))) λr _=>bY (eV (by simp;omega)) (ZX (new:=[_]) DI (by omega) (by omega) (by omega) (by simp) (Iff.intro (λh=>by cases h) (λh'=>?_)))) (λh=>?_)
   ·rw[(QlV hp).2 h']at h;cases h
   ·have:=ZX (out:=out) (new:=[]) DI (by omega) (by omega) (by omega) (by simp) ⟨λ_=>(QlV hp).1 h,λ_=>rfl⟩
    rwa [Qf1]at this
  ·unfold kH;rw[aR (by simp [ay])]
 unfold lU;refine bg (λh=>bY (eV (by simp)) ((main _ (by simp)).mono ?_)) (λh=>(main _ (by simp)).mono ?_)
 ·rintro r ⟨h1,h2⟩;refine⟨by simpa using h1,?_⟩
  rw[h2];simp only[Yj,ew,oH,ay]at h;exact⟨λh=>by(cases h.1),λh'=>by have:=h'.pos;have:=h'.tn;omega⟩
 ·rintro r ⟨h1,h2⟩;refine⟨by simp at h1 ⊢;omega,?_⟩
  rw[h2];simp only[Ja,eC,iu,ay]at h;exact⟨λh'=>⟨by omega,by omega,h'.2⟩,λh'=>⟨rfl,h'.all⟩⟩
def seg(p q:Pt)(t:Int):Int:=p.a+((t-p.t)*(q.a-p.a)+(q.t-p.t)-1) / (q.t-p.t)
def BS:List Pt->Int->Int
 | [],_=>0
 | [p],t=>t+p.a-p.t
 |p ::q ::r,t=>if t<q.t then(if t<p.t then t+p.a-p.t else seg p q t)else BS (q ::r) t
def Ym:List Pt->Prop
 | []=>True
 | [p]=>pH p
 |p ::q ::r=>pH p/\p.t<q.t/\p.a<=q.a/\Ym (q ::r)
theorem QiY:∀{l:List Pt},(∀i,i<l.length->okP l i)->Ym l
 | [],_=>trivial
 | [p],h=>(h 0 (by simp) p rfl).1
 |p ::q ::r,h=>by
  have h0:=h 0 (by simp) p rfl
  have h1:=(h 1 (by simp) q rfl).2 (by omega) p rfl
  refine⟨h0.1,h1.1,h1.2,QiY λi hi x hx=>?_⟩
  have h2:=h (i+1) (by simpa using hi) x hx
  refine⟨h2.1,λh3 y hy=>h2.2 (by omega) y ?_⟩
  obtain⟨j,rfl⟩:∃j,i=j+1:=⟨i-1,by omega⟩
  exact hy
theorem ui.UA{l:List Pt}(h:ui l):Ym l:=QiY h.all
theorem Ym.Xv:∀{l:List Pt},Ym l->∀{i:Nat} {p:Pt},l[i]?=some p->pH p
 | [],_,_,_,h=>by simp at h
 | [p],h,0,x,hx=>by cases hx;exact h
 | [p],h,i+1,x,hx=>by simp at hx
 |p ::q ::r,h,0,x,hx=>by cases hx;exact h.1
 |p ::q ::r,h,i+1,x,hx=>Ym.Xv (l:=q ::r) h.2.2.2 hx
theorem Ym.pair:∀{l:List Pt},Ym l->∀{i:Nat} {p q:Pt},l[i]?=some p->l[i+1]?=some q->p.t<q.t/\p.a<=q.a
 | [],_,_,_,_,h,_=>by simp at h
 | [p],h,i,x,y,_,hy=>by simp at hy
 |p ::q ::r,h,0,x,y,hx,hy=>by cases hx;cases hy;exact⟨h.2.1,h.2.2.1⟩
 |p ::q ::r,h,i+1,x,y,hx,hy=>Ym.pair (l:=q ::r) h.2.2.2 hx hy
theorem Ym.lt{l:List Pt}(h:Ym l){i:Nat}:∀{j:Nat},i<j->∀{p q:Pt},l[i]?=some p->l[j]?=some q->p.t<q.t
 |j+1,Qm,p,q,hp,hq=>by
  rcases sh i j with h'|h'
  ·have hj:l[j]?=some (l[j]'(by have:=(pB.1 hq).1;omega)):=dr _
   have:=h.lt h' hp hj;have:=(h.pair hj hq).1;omega
  ·obtain rfl:i=j:=by omega
   exact(h.pair hp hq).1
theorem Z8{p q:Pt}(h:p.t<q.t):seg p q p.t=p.a:=by
 unfold seg;rw[Int.sub_self,Int.zero_mul,Int.ediv_eq_zero_of_lt (by omega) (by omega)];omega
theorem VT{p q:Pt}(h:p.t<q.t):seg p q q.t=q.a:=by
 unfold seg;rw[show(q.t-p.t)*(q.a-p.a)+(q.t-p.t)-1=(q.t-p.t-1)+(q.t-p.t)*(q.a-p.a) by omega,Int.add_mul_ediv_left _ _ (by omega),Int.ediv_eq_zero_of_lt (by omega) (by omega)];omega
theorem UO{p:Pt}{r:List Pt}(h:Ym (p ::r)):BS (p ::r) p.t=p.a:=by
 cases r with
 |nil=>simp only[BS];omega
 |cons q r=>simp only[BS];rw[if_pos h.2.1,if_neg (by omega),Z8 h.2.1]
theorem Yq{p:Pt}{r:List Pt}(h:Ym (p ::r)){t:Int}(ht:t<=p.t):BS (p ::r) t=t+p.a-p.t:=by
 by_cases he:t=p.t
 ·subst he;rw[UO h];omega
 ·cases r with
  |nil=>rfl
  |cons q r=>simp only[BS];have:=h.2.1;rw[if_pos (by omega),if_pos (by omega)]
theorem JS:∀{l:List Pt},Ym l->∀{p:Pt},l[l.length-1]?=some p->∀{t:Int},p.t<=t->BS l t=t+p.a-p.t
 | [],_,_,hp,_,_=>by simp at hp
 | [x],_,p,hp,t,_=>by cases hp;rfl
 |x ::y ::r,h,p,hp,t,ht=>by
  have iG:(y ::r)[(y ::r).length-1]?=some p:=by simpa using hp
  have:y.t<=t:=by
   rcases QcW r.length with h0|h0
   ·have:r=[]:=Qjs.1 h0;subst this;cases iG;exact ht
   ·have:=h.2.2.2.lt (i:=0) (j:=(y ::r).length-1) (by simp;omega) rfl iG
    omega
  simp only[BS];rw[if_neg (by omega)]
  exact JS h.2.2.2 iG ht
theorem MP:∀{l:List Pt},Ym l->∀{j:Nat} {p q:Pt},l[j]?=some p->l[j+1]?=some q->∀{t:Int},p.t<=t->t<=q.t->BS l t=seg p q t
 | [],_,_,_,_,hp,_,_,_,_=>by simp at hp
 | [x],_,_,_,_,_,hq,_,_,_=>by simp at hq
 |x ::y ::r,h,0,p,q,hp,hq,t,h1,h2=>by
  cases hp;cases hq;simp only[BS];by_cases he:t<y.t
  ·rw[if_pos he,if_neg (by omega)]
  ·obtain rfl:t=y.t:=by omega
   rw[if_neg he,UO h.2.2.2,VT h.2.1]
 |x ::y ::r,h,j+1,p,q,hp,hq,t,h1,h2=>by
  have:y.t<=p.t:=by
   rcases QcW j with rfl|h0
   ·cases hp;omega
   ·have:=h.2.2.2.lt (i:=0) (j:=j) h0 rfl hp;omega
  simp only[BS];rw[if_neg (by omega)]
  exact MP (l:=y ::r) h.2.2.2 hp hq h1 h2
theorem QiR{p q:Pt}(h1:p.t<q.t)(h2:p.a<=q.a){t t':Int}(h:t<=t'):seg p q t<=seg p q t':=by
 unfold seg;have:=Ql7 (show t-p.t<=t'-p.t by omega) (show 0<=q.a-p.a by omega)
 have:=Int.ediv_le_ediv (show 0<q.t-p.t by omega) (show(t-p.t)*(q.a-p.a)+(q.t-p.t)-1<=(t'-p.t)*(q.a-p.a)+(q.t-p.t)-1 by omega)
 omega
theorem QnY{p q:Pt}(hp:p.t<=p.a)(hq:q.t<=q.a)(h1:p.t<q.t){t:Int}(h:p.t<=t)(h':t<=q.t):t<=seg p q t:=by
 unfold seg;have key:(t-p.a)*(q.t-p.t)<=(t-p.t)*(q.a-p.a):=by
  have e1:0<=(t-p.t)*(q.a-q.t):=Qgb (by omega) (by omega)
  have e2:0<=(q.t-t)*(p.a-p.t):=Qgb (by omega) (by omega)
  have e3:(t-p.t)*(q.a-p.a)-(t-p.a)*(q.t-p.t)=(t-p.t)*(q.a-q.t)+(q.t-t)*(p.a-p.t):=by
   simp only[Int.sub_mul,Int.mul_sub,Qdr];omega
  omega
 have:=(Int.le_ediv_iff_mul_le (show 0<q.t-p.t by omega)).2 (show(t-p.a)*(q.t-p.t)<=(t-p.t)*(q.a-p.a)+(q.t-p.t)-1 by omega)
 omega
theorem Ry:∀{l:List Pt},Ym l->l≠[]->∀(t:Int),t<=BS l t
 | [],_,h,_=>absurd rfl h
 | [p],h,_,t=>by simp only[BS];have:=h.2.2.1;omega
 |p ::q ::r,h,_,t=>by
  have hq:pH q:=h.2.2.2.Xv (i:=0) rfl;have h1:=h.1.2.2.1;simp only[BS];by_cases h3:t<q.t
  ·rw[if_pos h3];by_cases h4:t<p.t
   ·rw[if_pos h4];omega
   ·rw[if_neg h4];exact QnY h1 hq.2.2.1 h.2.1 (by omega) (by omega)
  ·rw[if_neg h3];exact Ry h.2.2.2 (by simp) t
theorem Rz:∀{l:List Pt},Ym l->∀{t:Int},0<=t->BS l t<=t+8192
 | [],_,t,h=>by simp only[BS];omega
 | [p],h,t,_=>by simp only[BS];have:=h.2.2.2;omega
 |p ::q ::r,h,t,h0=>by
  have hq:pH q:=h.2.2.2.Xv (i:=0) rfl;have h1:=h.1.2.2.2;simp only[BS];by_cases h3:t<q.t
  ·rw[if_pos h3];by_cases h4:t<p.t
   ·rw[if_pos h4];omega
   ·rw[if_neg h4];have:=QiR h.2.1 h.2.2.1 (show t<=q.t by omega)
    rw[VT h.2.1]at this;have:=hq.2.2.2;have:=hq.2.1;omega
  ·rw[if_neg h3];exact Rz h.2.2.2 h0
def QW(t:Int):Prop:=0<=t/\t<=1073741824
theorem Qd6{p q:Pt}(h1:pH p)(h2:pH q)(h:p.t<q.t)(h':p.a<=q.a){t:Int}(a:p.t<=t)(b:t<=q.t):
  0<=(t-p.t)*(q.a-p.a)/\(t-p.t)*(q.a-p.a)<=33554432/\0<=((t-p.t)*(q.a-p.a)+(q.t-p.t)-1) / (q.t-p.t)/\((t-p.t)*(q.a-p.a)+(q.t-p.t)-1) / (q.t-p.t)<=33558528:=by
 unfold pH at h1 h2;have e1:0<=(t-p.t)*(q.a-p.a):=Qgb (by omega) (by omega)
 have e2:(t-p.t)*(q.a-p.a)<=4096*8192:=QhB (by omega) (by omega) (by omega) (by omega)
 have e3:0<=((t-p.t)*(q.a-p.a)+(q.t-p.t)-1) / (q.t-p.t):=Int.ediv_nonneg (by omega) (by omega)
 have e4:((t-p.t)*(q.a-p.a)+(q.t-p.t)-1) / (q.t-p.t)<=(t-p.t)*(q.a-p.a)+(q.t-p.t)-1:=Int.ediv_le_self _ (by omega)
 exact⟨e1,by omega,e3,by omega⟩
theorem ui.at{l:List Pt}(h:ui l){i:Nat}{p:Pt}(hp:l[i]?=some p):pH p:=h.UA.Xv hp
theorem ui.bd{l:List Pt}(h:ui l){i:Nat}{p:Pt}(hp:l[i]?=some p):0<=p.t/\p.t<=4096/\p.t<=p.a/\p.a<=8192:=by
 have:=h.at hp;unfold pH at this;omega
theorem Qk4{a b:Int}(h:0<=a):a.tdiv b=a / b:=Qix h
theorem QqE{a b:Int}(h:0<=a)(h':a<=9223372036854775807)(hb:0<b):q_ .i64 a b=a / b:=by
 have h1:0<=a / b:=Int.ediv_nonneg h (by omega)
 have h2:a / b<=a:=Int.ediv_le_self _ h;have h3:=Qk4 (b:=b) h;rw[XH (by rw[h3];omega) (by rw[h3];omega),h3]
theorem QbL:∀i:Nat,i<16->(yU (i:Int)).isSome=true:=by decide +kernel
theorem MD{l:List Pt}(h:ui l):yW l=some []:=by
 have SY:=h.pos;have Zh:=h.tn;unfold yW;rw[aR (by simp only[Ja,rC,iu,ay];omega)]
 unfold tH;have Ao:aL (λs:List aa×Int=>ly l s.1 s.2) ([],0)=some []:=?_
 ·rw[Ao,af]
 refine gQ (e:=[]) l.length (λi=>(([]:List aa),(i:Int))) (by omega) (λi hi=>?_) ?_
 ·have e1:l[i]?=some l[i]:=dr hi;obtain⟨r,hr⟩:=Qls.1 (QbL i (by omega))
  show ly l [] (i:Int)=_;unfold ly;rw[bk (by simp only[ew,ay];omega),bB e1,af,hr,af]
  have hp:=h.bd e1;have hA:=h.at e1;unfold pH at hA;rw[show oW (l[i]).t 0 4096=some true by unfold oW;simp only[QlU,Ae,gX,xa];omega,af]
  rw[aR (by simp only[QfW,QhE,Ja,eC,iu];rw[dZ (by omega) (by omega)];omega)]
  have G5:aV .i64 (i:Int) 1=((i+1:Nat):Int):=by rw[dZ (by omega) (by omega)];omega
  unfold tI;rw[G5];rcases QcW i with h0|h0
  ·rw[aR (by simp only[iu];omega)]
  ·have e0:l[i-1]?=some (l[i-1]'(by omega)):=dr _
   have hs:cX .i64 (i:Int) 1=((i-1:Nat):Int):=by rw[nd (by omega) (by omega)];omega
   have hpr:=h.UA.pair e0 (by rw[show i-1+1=i by omega];exact e1)
   rw[bk (by simp only[oH];omega),hs,bB e0,af,aR (by simp only[S5];omega),aR (by simp only[eC];omega)]
 ·show ly l [] (l.length:Int)=_;unfold ly;rw[aR (by simp [ay])]
theorem ME{l:List Pt}(h:ui l):yY l=some true:=by
 unfold yY;rw[MD h];rfl
theorem half{i j:Nat}(h:i<100)(h':j<100):Bn .i64 (AZ .u64 (Bn .u64 (aV .i64 (i:Int) (j:Int))) 1)=(((i+j) / 2:Nat):Int):=by
 rw[dZ (by omega) (by omega)]
 unfold Bn AZ;rw[IntKind.wrap_u64,IntKind.wrap_i64];have e:(2:Int) ^ min (Int.toNat 1) (IntKind.u64.bits)=2:=by decide
 rw[e,Int.fdiv_eq_ediv_of_nonneg _ (by omega)]
 omega
theorem XU{l:List Pt}(h:ui l){t:Int}(ht:QW t):post (dm l t) λr=>∃i:Nat,r.1=(i:Int)/\i<=l.length/\(∀k p,k<i->l[k]?=some p->p.t<t)/\(∀k p,i<=k->l[k]?=some p->t<=p.t)/\
  (r.2=true↔∃p,l[i]?=some p/\p.t=t):=by
 have Zh:=h.tn;unfold QW at ht;refine bw (R:=λx=>∃i:Nat,x=(i:Int)/\i<=l.length/\(∀k p,k<i->l[k]?=some p->p.t<t)/\(∀k p,i<=k->l[k]?=some p->t<=p.t)) ?_ ?_
 ·refine dP (λs=>∃i j:Nat,s=((i:Int),(j:Int))/\i<=j/\j<=l.length/\(∀k p,k<i->l[k]?=some p->p.t<t)/\(∀k p,j<=k->l[k]?=some p->t<=p.t)) (λs=>(s.2-s.1).toNat) ⟨0,l.length,rfl,by omega,by omega,λk p hk=>by omega,λk p hk hp=>by have:=(pB.1 hp).1;omega⟩ (by simp [ay];omega) ?_
  rintro _ ⟨i,j,rfl,Qm,hjl,h1,h2⟩;show post (cA l t (i:Int) (j:Int)) _;unfold cA;rw[half (by omega) (by omega)]
  refine bg (λhb=>?_) (λhb=>dd ?_)
  ·simp only[ew]at hb;have hm:(i+j) / 2<l.length:=by omega
   have e1:l[(i+j) / 2]?=some l[(i+j) / 2]:=dr hm;rw[bB e1,af];generalize l[(i+j) / 2]=p at e1;have hp:=h.bd e1;unfold qk;rw[nd (by omega) (by omega),af]
   refine bg (λhc=>cZ ?_) (λhc=>cZ ?_)
   ·simp only[ew]at hc;refine⟨⟨(i+j) / 2+1,j,by rw[dZ (by omega) (by omega)];simp,by omega,hjl,λk q hk hq=>?_,h2⟩,by rw[dZ (by omega) (by omega)];simp;omega⟩
    rcases sh k ((i+j) / 2)with xw|xw
    ·have:=h.UA.lt xw hq e1;omega
    ·obtain rfl:k=(i+j) / 2:=by omega
     rw[e1]at hq;cases hq;omega
   ·simp only[eC]at hc;refine⟨⟨i,(i+j) / 2,rfl,by omega,by omega,h1,λk q hk hq=>?_⟩,by simp;omega⟩
    rcases sh ((i+j) / 2) k with xw|xw
    ·have:=h.UA.lt xw e1 hq;omega
    ·obtain rfl:k=(i+j) / 2:=by omega
     rw[e1]at hq;cases hq;omega
  ·simp only[eC]at hb;obtain rfl:i=j:=by omega
   exact⟨i,rfl,hjl,h1,h2⟩
 ·rintro _ ⟨i,rfl,hi,h1,h2⟩;refine bg (λhb=>?_) (λhb=>aI.2 ⟨i,rfl,hi,h1,h2,?_⟩)
  ·simp only[ew,ay]at hb;have SU:i<l.length:=by omega
   have e1:l[i]?=some l[i]:=dr SU;rw[bB e1,af];generalize l[i]=p at e1;have hp:=h.bd e1;unfold qk;rw[nd (by omega) (by omega),af,aI]
   refine⟨i,rfl,hi,h1,h2,?_⟩;simp only[kp,e1,QlU,exists_eq_left'];omega
  ·simp only[eC,ay]at hb;rw[Qbp (by omega)]
   simp
theorem K5{l:List Pt}(h:ui l){t:Int}(ht:QW t):wq l t=some (BS l t):=by
 apply post.eq;have SY:=h.pos;have Zh:=h.tn;obtain⟨⟨x,f⟩,hx,i,rfl,hi,h1,h2,h3⟩:=XU h ht;simp only at h3;unfold wq;rw[hx,af];unfold QW at ht;refine bg (λhb=>?_) (λhb=>?_)
 ·obtain⟨p,e1,hpt⟩:=h3.1 hb;show post (aQ (bn l (i:Int)) _) _;rw[bB e1,af,aI];subst hpt;rcases sh (i+1) l.length with h'|h'
  ·have e2:l[i+1]?=some l[i+1]:=dr h';have iq:=(h.UA.pair e1 e2).1;rw[MP h.UA e1 e2 (by omega) (by omega),Z8 iq]
  ·have TU:i=l.length-1:=by have:=(pB.1 e1).1;omega
   rw[TU]at e1;rw[JS h.UA e1 (by omega)];omega
 ·have hnf:∀p,l[i]?=some p->p.t≠t:=λp hp he=>by
   have:=h3.2 ⟨p,hp,he⟩;simp only at hb;rw[this]at hb;cases hb
  have e0:l[0]?=some l[0]:=dr (by omega)
  show post (br (dk (i:Int) 0) _ _) _;refine bg (λhc=>?_) (λhc=>?_)
  ·simp only[kp]at hc;obtain rfl:i=0:=by omega
   rw[show(0:Int)=((0:Nat):Int)from rfl,bB e0,af];have hp:=h.bd e0;have h4:=h2 0 _ (by omega) e0
   generalize l[0]=p at e0 hp h4;obtain⟨r,hr⟩:∃r,l=p ::r:=by
    cases l with
    |nil=>simp at SY
    |cons x r=>cases e0;exact⟨r,rfl⟩
   simp(disch:=omega) only[dZ,nd,aI];rw[hr,Yq (by rw[<-hr];exact h.UA) h4]
  ·simp only[rC]at hc;have e1:l[i-1]?=some (l[i-1]'(by omega)):=dr _
   have hs:cX .i64 (i:Int) 1=((i-1:Nat):Int):=by rw[nd (by omega) (by omega)];omega
   have hp:=h.bd e1;have h4:=h1 (i-1) _ (by omega) e1
   show post (br (dk (i:Int) (ay l)) (aQ (bn l (cX .i64 (i:Int) 1)) _) _) _;rw[hs];refine bg (λhd=>?_) (λhd=>?_)
   ·simp only[kp,ay]at hd;obtain rfl:i=l.length:=by omega
    rw[bB e1,af];simp(disch:=omega) only[dZ,nd,aI];rw[JS h.UA e1 (by omega)]
   ·simp only[rC,ay]at hd;have e2:l[i]?=some (l[i]'(by omega)):=dr _
    have hq:=h.bd e2;have h5:=h2 i _ (by omega) e2
    show post (aQ (bn l ((i-1:Nat):Int)) λx3=>aQ (bn l (i:Int)) λx4=>_) _
    rw[bB e1,af,bB e2,af];have e2':l[i-1+1]?=some (l[i]'(by omega)):=by rw[show i-1+1=i by omega];exact e2
    generalize l[i-1]=p at e1 hp h4;generalize l[i]=q at e2 e2' hq h5;obtain⟨hpq,hpa⟩:=h.UA.pair e1 e2';obtain⟨n1,n2,n3,n4⟩:=Qd6 (h.at e1) (h.at e2) hpq hpa (Int.le_of_lt h4) h5;simp(disch:=omega) only[dZ,nd,I4,QqE];refine bY (by omega) (aI.2 ?_)
    rw[MP h.UA e1 e2' (Int.le_of_lt h4) h5];rfl
theorem K4{l:List Pt}(h:ui l){t:Int}(ht:QW t):tO l t=some (BS l t):=by
 unfold tO;rw[show oW t 0 1073741824=some true by unfold oW;unfold QW at ht;simp only[QlU,Ae,gX,xa];omega,af,dT,ME h,af,dT,K5 h ht,af]
class Sm (α:Type) where
  sm:α->Prop
instance:Sm aa:=⟨λf=>f.j7.size<=64⟩
instance:Sm Int:=⟨λ_=>True⟩
section
variable {α β : Type} [Sm α]
def Ext(l0:List α)(c:Nat)(P:Prop)(r:List α):Prop:=∃new,r=l0++new/\new.length<=c/\(new=[]->P)/\∀x∈new,Sm.sm x
theorem Ext.nil{l0:List α}{c:Nat}{P:Prop}(h:P):Ext l0 c P l0:=⟨[],by simp,by simp,λ_=>h,by simp⟩
theorem Ext.one{l0:List α}{c:Nat}{P:Prop}{x:α}(hc:1<=c)(hx:Sm.sm x):Ext l0 c P (l0++[x]):=⟨[x],rfl,hc,λh=>by(cases h),λy hy=>by rw[Qaz.1 hy];exact hx⟩
theorem Ext.trans{a b r:List α}{c d e:Nat}{P Q R:Prop}(h:Ext a c P b)(h':Ext b d Q r)(he:c+d<=e)(hr:P->Q->R):Ext a e R r:=by
 obtain⟨n,rfl,h1,h2,h5⟩:=h;obtain⟨m,rfl,h3,h4,h6⟩:=h';refine⟨n++m,by simp,by simp;omega,λh=>?_,λx hx=>by rcases QaI.1 hx with h|h;exact h5 x h;exact h6 x h⟩
 rw[Qms]at h;exact hr (h2 h.1) (h4 h.2)
theorem Ext.len{a r:List α}{c:Nat}{P:Prop}(h:Ext a c P r):r.length<=a.length+c:=by obtain⟨n,rfl,h1,_⟩:=h;simp;omega
theorem Ext.of_nil{r:List α}{c:Nat}{P:Prop}(h:Ext [] c P r)(hr:r=[]):P:=by
 obtain⟨n,rfl,_,h2,_⟩:=h;exact h2 (by simpa using hr)
theorem Ext.sms{r:List α}{c:Nat}{P:Prop}(h:Ext [] c P r):∀x∈r,Sm.sm x:=by
 obtain⟨n,rfl,_,_,h2⟩:=h;simpa using h2
theorem Ext.mono{a r:List α}{c d:Nat}{P Q:Prop}(h:Ext a c P r)(hc:c<=d)(hp:P->Q):Ext a d Q r:=by
 obtain⟨n,rfl,h1,h2,h3⟩:=h;exact⟨n,rfl,by omega,λhn=>hp (h2 hn),h3⟩
def QjL(out:List α)(i:Int)(c:Nat)(P:Prop)(x:(List α×Int)⊕β):Prop:=∃r,x=.inl (r,i)/\Ext out c P r
theorem RY{out:List α}{i j:Int}{c:Nat}{P:Prop}(hi:j=i)(h:P):post (some (Sum.inl (out,j):(List α×Int)⊕β)) (QjL out i c P):=⟨_,rfl,out,by rw[hi],.nil h⟩
theorem Gw{out:List α}{x:α}{i j:Int}{c:Nat}{P:Prop}(hi:j=i)(hc:1<=c)(hx:Sm.sm x):post (some (Sum.inl (out++[x],j):(List α×Int)⊕β)) (QjL out i c P):=⟨_,rfl,_,by rw[hi],.one hc hx⟩
theorem uD{B:List α×Int->O ((List α×Int)⊕(List α))}(n c:Nat)(P:Nat->Prop)(l0:List α)(hn:n<18446744073709551615)
  (step:∀(i:Nat) (out:List α),i<n->out.length<=l0.length+c*i->post (B (out,(i:Int))) (QjL out ((i:Int)+1) c (P i)))
  (fin:∀out,B (out,(n:Int))=some (.inr out)):post (aL B (l0,0)) (Ext l0 (c*n) (∀i,i<n->P i)):=by
 refine dP (λs=>∃i:Nat,s.2=(i:Int)/\i<=n/\Ext l0 (c*i) (∀k,k<i->P k) s.1) (λs=>n-s.2.toNat)
  ⟨0,rfl,QaD _,.nil (by simp)⟩ (by simp;omega) ?_
 rintro⟨out,j⟩ ⟨i,hj,hi,hl⟩;simp only at hj hl;subst hj;by_cases h:i<n
 ·refine(step i out h hl.len).mono ?_
  rintro x ⟨r,rfl,h1⟩;refine⟨λs' hs=>?_,λ_ h=>by cases h⟩
  cases hs;refine⟨⟨i+1,by simp,by omega,hl.trans h1 (by rw[Nat.mul_add];omega) λh2 h3 k hk=>?_⟩,by simp;omega⟩
  rcases sh k i with h|h
  ·exact h2 k h
  ·obtain rfl:k=i:=by omega
   exact h3
 ·obtain rfl:i=n:=by omega
  rw[fin];exact dd hl
end
theorem sm_at{e:Int}{s:I}(h:s.size<=64):Sm.sm (aa.mk e s):=h
theorem xA(a b:I):(ee a b).size=a.size+b.size:=by unfold ee;exact Qlx
theorem To{B:Bool×Int->O ((Bool×Int)⊕Bool)}(n:Nat)(P:Nat->Prop)(hn:n<18446744073709551615)
  (step:∀(k:Nat) (b:Bool),k<n->post (B (b,(k:Int))) λx=>∃b',x=.inl (b',(k:Int)+1)/\(b'=true↔b=true\/P k))
  (fin:∀b,B (b,(n:Int))=some (.inr b)):post (aL B (false,0)) λr=>(r=true↔∃k,k<n/\P k):=by
 refine dP (λs=>∃i:Nat,s.2=(i:Int)/\i<=n/\(s.1=true↔∃k,k<i/\P k)) (λs=>n-s.2.toNat) ⟨0,rfl,QaD _,by simp⟩ (by simp;omega) ?_
 rintro⟨b,j⟩ ⟨i,hj,hi,hl⟩;simp only at hj hl;subst hj;by_cases h:i<n
 ·refine(step i b h).mono ?_
  rintro x ⟨b',rfl,h1⟩;refine⟨λs' hs=>?_,λ_ h=>by cases h⟩
  cases hs;refine⟨⟨i+1,by simp,by omega,?_⟩,by simp;omega⟩
  simp only;rw[h1,hl];constructor
  ·rintro(⟨k,h2,h3⟩|h2)
   ·exact⟨k,by omega,h3⟩
   ·exact⟨i,by omega,h2⟩
  ·rintro⟨k,h2,h3⟩;rcases sh k i with h|h
   ·exact .inl ⟨k,h,h3⟩
   ·obtain rfl:k=i:=by omega
    exact .inr h3
 ·obtain rfl:i=n:=by omega
  rw[fin];exact dd hl
theorem inc{i n:Nat}(h:i<n)(hn:n<=1048576):aV .i64 (i:Int) 1=(i:Int)+1:=dZ (by omega) (by omega)
theorem dec{i:Nat}(h:0<i)(hn:i<=1048576):cX .i64 (i:Int) 1=((i-1:Nat):Int):=by rw[nd (by omega) (by omega)];omega
theorem Qdi{s:I}{i:Int}(h0:0<=i)(h1:i<s.size):∃b,y8 s i=some b:=by
 unfold y8;rw[if_pos h0];exact⟨_,getElem?_pos s i.toNat (by omega)⟩
theorem Pk(s:I)(hs:s.size<=1048576):post (nD s) λ_=>True:=by
 unfold nD;refine bg (λ_=>aI.2 trivial) (λhb=>?_)
 simp only[Ja,eC,iu,ca]at hb;obtain⟨b,RM⟩:=Qdi (s:=s) (i:=0) (by omega) (by omega)
 rw[RM,af];refine bw (R:=λ_=>True) ⟨_,rfl,trivial⟩ λr _=>bg (λ_=>aI.2 trivial) λ_=>?_
 refine bw (R:=λ_=>True) ?_ λe _=>?_
 ·refine dP (λi=>∃k:Nat,i=(k:Int)/\k<=s.size) (λi=>s.size-i.toNat) ⟨0,rfl,QaD _⟩ (by simp;omega) ?_
  rintro _ ⟨k,rfl,hk⟩;show post (py s b (k:Int)) _;unfold py;refine bg (λhb=>?_) (λ_=>dd trivial)
  simp only[ew,ca]at hb;obtain⟨c,hc⟩:=Qdi (s:=s) (i:=k) (by omega) (by omega)
  rw[hc,af,inc (n:=s.size) (by omega) hs]
  have leaf:post (some (Sum.inl ((k:Int)+1):Int⊕(Unit⊕Bool))) λx=>(∀s',x=.inl s'->(∃k:Nat,s'=(k:Int)/\k<=s.size)/\s.size-s'.toNat<s.size-(k:Int).toNat)/\∀e,x=.inr e->True:=
   cZ ⟨⟨k+1,by simp,by omega⟩,by simp;omega⟩
  refine bw (R:=λ_=>True) ⟨_,rfl,trivial⟩ λr1 _=>bg (λ_=>leaf) λ_=>?_
  exact bw (R:=λ_=>True) ⟨_,rfl,trivial⟩ λr2 _=>bg (λ_=>leaf) λ_=>dd trivial
 ·cases e with
  |inl u=>exact aI.2 trivial
  |inr r=>exact aI.2 trivial
structure QoL (a:a7):Prop where
 kD:a.kD.length<=1048576
 jY:a.jY.length<=1048576
 pts:∀p∈a.kD,ptI p
 QxE:∀p∈a.jY,ptI p
structure Qgo (n:aC):Prop where
 bm:n.bm.length<=1048576
 eX:n.eX.length<=1048576
 names:∀s∈n.bm,s.size<=1048576
 QrL:∀a∈n.eX,QoL a
def R_(l:List Pt)(i:Nat):Prop:=∀p,l[i]?=some p->0<=p.t/\p.t<=4096/\0<=p.a/\p.a<=4096/\(0<i->∀q,l[i-1]?=some q->q.t<p.t)
structure R9 (np:Nat) (a:a7):Prop where
 Qud:0<=a.aY
 Que:a.aY<np
 to0:0<=a.eI
 to1:a.eI<np
 Qvf:0<=a.aJ
 Qvg:a.aJ<=7
 Ge:0<=a.cV
 sR:a.cV<=10000
 ne:a.aY≠a.eI
 kD:ui a.kD
 jY:a.jY.length<=16
 R2:∀i,i<a.jY.length->R_ a.jY i
def Fo(a b:a7):Prop:=a.aY=b.aY/\a.eI=b.eI/\a.aJ=b.aJ
structure Ef (n:aC):Prop where
 bm:n.bm.length<=24
 eX:n.eX.length<=1024
 all:∀a∈n.eX,R9 n.bm.length a
 once:∀(i k:Nat) (a b:a7),k<i->n.eX[i]?=some a->n.eX[k]?=some b->¬Fo a b
theorem OL{n:aC}(hn:Qgo n):post (ia n) (Ext [] (1+n.bm.length) (n.bm.length<=24)):=by
 have Dc:=hn.bm;have main:∀l0:List aa,l0.length<=1->post (fY n l0) (Ext l0 n.bm.length True):=by
  intro l0 qc;refine bw (R:=Ext l0 n.bm.length True) ?_ λa h=>aI.2 h
  refine(uD n.bm.length 1 (λ_=>True) l0 (by omega) (λi out hi ho=>?_) (λout=>?_)).mono λr h=>h.mono (by omega) λ_=>trivial
  ·show post (eA n l0 out (i:Int)) _;unfold eA;rw[bk (by simp [ay];exact hi),inc hi Dc]
   refine bw (xB (i:Int) (NG (by omega))) λr hr=>bY (by show 6+r.size<=_;omega) ?_
   have e1:n.bm[i]?=some n.bm[i]:=dr hi;rw[bB e1,af];have y5:∀f:aa,fQ (out++[f]).length 24:=λf=>eV (by simp;omega)
   have yy:∀{e:Int},Sm.sm (aa.mk e (ee ke r)):=sm_at (by rw[xA];show 6+r.size<=64;omega)
   refine bw (Pk _ (hn.names _ (QaH hi))) λr1 _=>bg (λ_=>?_) (λ_=>bY (y5 _) (Gw rfl (by omega) yy))
   refine bw (R:=λ_=>True) ((To i (λk=>∃x,n.bm[k]?=some x/\qe x n.bm[i]=true) (by omega) (λk b hk=>?_) (λb=>?_)).mono λ_ _=>trivial) λtw _=>bg (λ_=>bY (y5 _) (Gw rfl (by omega) yy)) (λ_=>RY rfl trivial)
   ·show post (eB n l0 out (i:Int) r b (k:Int)) _;unfold eB;rw[bk (by simp;omega),inc (n:=i) hk (by omega)]
    have e2:n.bm[k]?=some (n.bm[k]'(by omega)):=dr _
    refine bg (λh=>aI.2 ⟨true,rfl,by simp [h]⟩) (λh=>?_)
    rw[bB e2,af,bB e1,af,aI];exact⟨_,rfl,by simp [h,e2]⟩
   ·show eB n l0 out (i:Int) r b (i:Int)=_;unfold eB;rw[aR (by simp)]
  ·show eA n l0 out (n.bm.length:Int)=_;unfold eA;rw[aR (by simp [ay])]
 unfold ia;refine bg (λh=>bY (eV (by simp)) ((main _ (by simp)).mono λr h'=>?_)) (λh=>(main _ (by simp)).mono λr h'=>h'.mono (by omega) λ_=>?_)
 ·exact(Ext.one (l0:=[]) (P:=n.bm.length<=24) (fa 1) (sm_at (s:=wi) (show 6<=64 by omega))).trans h' (fa _) λh _=>h
 ·simp only[iu,ay]at h;omega
theorem Qed(t:Int):qg t=some (decide (0<=t/\t<=4096)):=by
 unfold qg;congr 1;rw[Qdg,Ae,gX,xa,QbB]
theorem VX{r:I}(hr:r.size<=21){x0:a7}{l l0:List aa}(hI:QoL x0)(qc:l0.length<=4194304):post (gh r x0 l l0) (Ext l0 x0.jY.length (∀i,i<x0.jY.length->R_ x0.jY i)):=by
 have Ue:=hI.jY;have yy:∀{e:Int},Sm.sm (aa.mk e (ee cw r)):=sm_at (by rw[xA];show 4+r.size<=64;omega)
 refine bw (R:=Ext l0 x0.jY.length (∀i,i<x0.jY.length->R_ x0.jY i)) ?_ λa h=>aI.2 h
 refine(uD x0.jY.length 1 (R_ x0.jY) l0 (by omega) (λi out hi ho=>?_) (λout=>?_)).mono λr h=>h.mono (by omega) id
 ·show post (gk r x0 l out (i:Int)) _;unfold gk;have y5:∀f:aa,fQ (out++[f]).length 24:=λf=>eV (by simp;omega)
  have e1:x0.jY[i]?=some x0.jY[i]:=dr hi;rw[bk (by simp [ay];exact hi),inc hi Ue,bB e1,af,Qed,af,Qed]
  generalize x0.jY[i]=p at e1;have no:post (ft (fQ (out++[aa.mk 2 (ee cw r)]).length 24) (some (Sum.inl (out++[aa.mk 2 (ee cw r)],(i:Int)+1):(List aa×Int)⊕(List aa)))) (QjL out ((i:Int)+1) 1 (R_ x0.jY i)):=bY (y5 _) (Gw rfl (by omega) yy)
  refine bg (λh1=>?_) (λ_=>no)
  rw[af];refine bg (λh2=>bg (λh3=>?_) (λh3=>RY rfl ?_)) (λ_=>no)
  ·simp only[oH]at h3;have e2:x0.jY[i-1]?=some (x0.jY[i-1]'(by omega)):=dr _
   rw[dec (by omega) (by omega),bB e2,af]
   refine bg (λ_=>no) (λh4=>RY rfl ?_)
   simp only[S5,QbB]at h1 h2 h4;intro x hx;rw[e1]at hx;cases hx;exact⟨h1.1,h1.2,h2.1,h2.2,λ_ q hq=>by rw[e2]at hq;cases hq;exact h4⟩
  ·simp only[iu,QbB]at h1 h2 h3;intro x hx;rw[e1]at hx;cases hx;exact⟨h1.1,h1.2,h2.1,h2.2,λh=>by omega⟩
 ·show gk r x0 l out (x0.jY.length:Int)=_;unfold gk;rw[aR (by simp [ay])]
theorem T5{n:aC}(hn:Qgo n){i:Nat}{a:a7}(ha:n.eX[i]?=some a):
  post (nY n (i:Int)) (Ext [] 3145735 (R9 n.bm.length a/\∀(k:Nat) (b:a7),k<i->n.eX[k]?=some b->¬Fo a b)):=by
 have hi:i<n.eX.length:=(pB.1 ha).1;have hal:=hn.eX;have hI:=hn.QrL a (QaG ha);have Ue:=hI.jY;have htl:=hI.kD;unfold nY;refine bw (xB (i:Int) (NG (by omega))) λr hr=>bY (by show 4+r.size<=_;omega) ?_
 rw[bB ha,af];have yy:∀{e:Int},Sm.sm (aa.mk e (ee cw r)):=sm_at (by rw[xA];show 4+r.size<=64;omega)
 have gen:∀(l l0:List aa),l0.length<=3->post (iE r a l l0) (Ext l0 3145732 (ui a.kD/\a.jY.length<=16/\∀i,i<a.jY.length->R_ a.jY i)):=by
  intro l l0 qc;unfold iE;refine bw (EZ htl hI.pts) λr1 QT=>?_
  refine bw (R:=Ext l0 2097153 (ui a.kD)) ?_ λl4 h4=>?_
  ·refine(uD r1.length 1 (λ_=>False) l0 (by omega) (λk out hk ho=>?_) (λout=>?_)).mono λx hx=>?_
   ·show post (gj r a l r1 out (k:Int)) _;unfold gj;have e1:r1[k]?=some r1[k]:=dr hk;have G5:aV .i64 (k:Int) 1=(k:Int)+1:=dZ (by omega) (by omega)
    rw[bk (by simp [ay];exact hk),G5,bB e1,af]
    exact bY (eV (by simp;omega)) (Gw rfl (by omega) yy)
   ·show gj r a l r1 out (r1.length:Int)=_;unfold gj;rw[aR (by simp [ay])]
   ·refine hx.mono (by omega) λh=>QT.2.1 ?_
    cases r1 with
    |nil=>rfl
    |cons y ys=>exact(h 0 (by simp)).elim
  ·have h4l:=h4.len;refine bg (λh=>bY (eV (by simp;omega)) ?_) (λh=>?_)
   ·refine((VX hr hI (by simp;omega)).mono λ_ h=>h.mono Ue id:post (gh r a l _) (Ext _ 1048576 _)).mono λx hx=>?_
    refine h4.trans ((Ext.one (P:=False) (fa 1) yy).trans hx (e:=1048577) (by omega) (λh _=>h)) (by omega) λh1 h2=>h2.elim
   ·refine((VX hr hI (by omega)).mono λ_ h=>h.mono Ue id:post (gh r a l _) (Ext _ 1048576 _)).mono λx hx=>?_
    simp only[iu,ay]at h;exact h4.trans hx (by omega) λh1 h2=>⟨h1,by omega,h2⟩
 have Qpb:∀(l l0:List aa),l0.length<=2->post (iD n (i:Int) r a l l0) (Ext l0 3145733 ((∀(k:Nat) (b:a7),k<i->n.eX[k]?=some b->¬Fo a b)/\ui a.kD/\a.jY.length<=16/\∀i,i<a.jY.length->R_ a.jY i)):=by
  intro l l0 qc;unfold iD;refine bw (To i (λk=>∃b,n.eX[k]?=some b/\Fo a b) (by omega) (λk b hk=>?_) (λb=>?_)) λtw iS=>bg (λh=>bY (eV (by simp;omega)) ?_) (λh=>?_)
  ·show post (gi n (i:Int) r a l l0 b (k:Int)) _;unfold gi;have e1:n.eX[k]?=some (n.eX[k]'(by omega)):=dr _
   rw[bk (by simp;omega),inc (n:=i) hk (by omega),bB e1,af,aI]
   refine⟨_,rfl,?_⟩;simp only[Yj,Ae,kp,e1,QlU,exists_eq_left',Fo,and_assoc]
  ·show gi n (i:Int) r a l l0 b (i:Int)=_;unfold gi;rw[aR (by simp)]
  ·exact(gen l _ (by simp;omega)).mono λx hx=>(Ext.one (P:=False) (fa 1) yy).trans hx (by omega) λh _=>h.elim
  ·refine(gen l _ (by omega)).mono λx hx=>hx.mono (by omega) λh'=>⟨λk b hk hb hs=>?_,h'⟩
   rw[iS.2 ⟨k,hk,b,hb,hs⟩]at h;cases h
 have fin:∀(l:List aa),l.length<=1->post (iC n (i:Int) r a l) (Ext l 3145734 (0<=a.aJ/\a.aJ<=7/\0<=a.cV/\a.cV<=10000/\a.aY≠a.eI/\(∀(k:Nat) (b:a7),k<i->n.eX[k]?=some b->¬Fo a b)/\ui a.kD/\a.jY.length<=16/\∀i,i<a.jY.length->R_ a.jY i)):=by
  intro l hl;unfold iC;refine bg (λh=>bY (eV (by simp;omega)) ?_) (λh=>?_)
  ·exact(Qpb l _ (by simp;omega)).mono λx hx=>(Ext.one (P:=False) (fa 1) yy).trans hx (by omega) λh _=>h.elim
  ·simp only[Ja,eC,iu,rC]at h;exact(Qpb l _ (by omega)).mono λx hx=>hx.mono (by omega) λh'=>⟨h.1.1.1.1,h.1.1.1.2,h.1.1.2,h.1.2,h.2,h'⟩
 refine bg (λh=>bY (eV (by simp)) ?_) (λh=>?_)
 ·exact(fin _ (by simp)).mono λx hx=>(Ext.one (l0:=[]) (P:=False) (fa 1) yy).trans hx (by omega) λh _=>h.elim
 ·simp only[Ja,eC,A7,ay]at h;exact(fin _ (by simp)).mono λx hx=>hx.mono (by omega) λ⟨h1,h2,h3,h4,h5,h6,h7,h8,h9⟩=>⟨⟨h.1.1.1,h.1.1.2,h.1.2,h.2,h1,h2,h3,h4,h5,h7,h8,h9⟩,h6⟩
theorem Pu{n:aC}(hn:Qgo n):post (rK n) (Ext [] (1048578+3145735*n.eX.length) (Ef n)):=by
 have hal:=hn.eX;have Dc:=hn.bm;unfold rK;refine bw (OL hn) λr hr=>?_
 have Qp:=hr.len;have main:∀l0:List aa,l0.length<=1048578->post (nX n l0) (Ext l0 (3145735*n.eX.length) (∀i,i<n.eX.length->∀a,n.eX[i]?=some a->R9 n.bm.length a/\∀(k:Nat) (b:a7),k<i->n.eX[k]?=some b->¬Fo a b)):=by
  intro l0 qc;refine xk ?_
  refine(uD n.eX.length 3145735 _ l0 (by omega) (λi out hi ho=>?_) (λout=>?_)).mono λr h=>aI.2 h
  ·show post (iP n l0 out (i:Int)) _;unfold iP;have e1:n.eX[i]?=some n.eX[i]:=dr hi;rw[bk (by simp [ay];exact hi),inc hi hal]
   refine bw (T5 hn e1) λr1 QT=>?_
   obtain⟨new,h1,h2,h3,h4⟩:=QT;rw[Qlf]at h1;subst h1;refine bY (eV (by simp;omega)) (aI.2 ⟨_,rfl,_,rfl,h2,λh a ha=>?_,h4⟩)
   rw[e1]at ha;cases ha;exact h3 h
  ·show iP n l0 out (n.eX.length:Int)=_;unfold iP;rw[aR (by simp [ay])]
 refine bg (λh=>bY (eV (by simp at Qp ⊢;omega)) ((main _ (by simp at Qp ⊢;omega)).mono λx hx=>?_)) (λh=>(main _ (by simp at Qp;omega)).mono λx hx=>?_)
 ·exact hr.trans ((Ext.one (P:=False) (fa 1) (sm_at (s:=Dw) (show 4<=64 by omega))).trans hx (fa _) (R:=False) λh _=>h) (by omega) λ_ h=>h.elim
 ·simp only[iu,ay]at h;refine hr.trans hx (by omega) λh1 h2=>⟨h1,by omega,λa ha=>?_,λi k a b hk ha hb=>(h2 i (pB.1 ha).1 a ha).2 k b hk hb⟩
  obtain⟨i,hi⟩:=QhO ha;exact(h2 i (pB.1 hi).1 a hi).1
def oF(l:List Pt)(t:Int):Int:=l.foldr (λp s=>(if p.t<=t then p.a else 0)+s) 0
theorem Ty(l m:List Pt)(t:Int):oF (l++m) t=oF l t+oF m t:=by
 induction l with
 |nil=>simp [oF]
 |cons p l ih=>simp only[oF,Qhz,List.foldr_cons]at ih ⊢;omega
theorem Oq{l:List Pt}{t:Int}{i:Nat}{p:Pt}(h:l[i]?=some p):oF (l.take (i+1)) t=oF (l.take i) t+(if p.t<=t then p.a else 0):=by
 rw[Qdp,h,Ty];simp [oF]
theorem Qiz{l:List Pt}(h:∀i,i<l.length->R_ l i){i:Nat}{p:Pt}(hp:l[i]?=some p):0<=p.t/\p.t<=4096/\0<=p.a/\p.a<=4096:=by
 have:=h i (pB.1 hp).1 p hp;exact⟨this.1,this.2.1,this.2.2.1,this.2.2.2.1⟩
theorem Mw{l:List Pt}(h:∀i,i<l.length->R_ l i)(t:Int):∀i:Nat,i<=l.length->0<=oF (l.take i) t/\oF (l.take i) t<=4096*i
 |0,_=>by simp [oF]
 |i+1,hi=>by
  have e1:l[i]?=some (l[i]'(by omega)):=dr _
  have ih:=Mw h t i (by omega)
  have:=Qiz h e1;rw[Oq e1];split <;> omega
def Qa0(a:a7)(t:Int):Int:=BS a.kD t+oF a.jY t
theorem ui.ne{l:List Pt}(h:ui l):l≠[]:=λe=>by have:=h.pos;rw[e]at this;simp at this
theorem Oo{l:List Pt}(h:∀i,i<l.length->R_ l i)(hl:l.length<=16)(t:Int):0<=oF l t/\oF l t<=65536:=by
 have:=Mw h t l.length (fa _);rw[QbC]at this;omega
theorem QjP{np:Nat}{a:a7}(h:R9 np a)(t:Int):t<=Qa0 a t:=by
 have:=Ry h.kD.UA h.kD.ne t;have:=Oo h.R2 h.jY t;unfold Qa0;omega
theorem QjQ{np:Nat}{a:a7}(h:R9 np a){t:Int}(ht:0<=t):Qa0 a t<=t+73728:=by
 have:=Rz h.kD.UA ht;have:=Oo h.R2 h.jY t;unfold Qa0;omega
theorem VW{l:List Pt}{t r:Int}(h:∀i,i<l.length->R_ l i)(hl:l.length<=16)(hr:0<=r)(TW:r<=2147483648){B:Int×Int->O ((Int×Int)⊕Int)}
  (hB:∀out i,B (out,i)=br (bh i (ay l)) (aQ (bn l i) λx0=>br (gB x0.t t) (some (.inl ((aV .i64 out x0.a),(aV .i64 i 1)))) (some (.inl (out,(aV .i64 i 1))))) (some (.inr out))):
  aL B (r,0)=some (r+oF l t):=by
 have e:aL B ((λi:Nat=>(r+oF (l.take i) t,(i:Int))) 0)=some (r+oF l t):=by
  refine gQ l.length (λi:Nat=>(r+oF (l.take i) t,(i:Int))) (by omega) (λi hi=>?_) ?_
  ·have e1:l[i]?=some l[i]:=dr hi;have hb:=Mw h t i (by omega)
   have hp:=Qiz h e1;show B (_,_)=some (.inl (_,_));rw[hB,bk (by simp [ay];exact hi),bB e1,af,Oq e1,show aV .i64 (i:Int) 1=((i+1:Nat):Int) by rw[dZ (by omega) (by omega)];omega]
   by_cases hc:l[i].t<=t
   ·rw[bk (by simpa using hc),if_pos hc,dZ (by omega) (by omega),Int.add_assoc]
   ·rw[aR (by simp;omega),if_neg hc,Qkj]
  ·show B (_,_)=_;rw[hB,aR (by simp [ay]),QbC]
 simpa [oF]using e
theorem Qa1{np:Nat}{a:a7}(h:R9 np a){t:Int}(ht:QW t):tq a t=some (Qa0 a t):=by
 have h1:=Ry h.kD.UA h.kD.ne t;have h2:=Rz h.kD.UA ht.1;unfold QW at ht;unfold tq;rw[K4 h.kD ht,af,VW h.R2 h.jY (by omega) (by omega) (λout i=>rfl),af]
 rfl
theorem U4{α E:Type}{l:List α}(p:α->Bool)(Y:α->E)(N:E)(hl:l.length<=1048576){B:Int->O (Int⊕E)}
  (hB:∀i,B i=br (bh i (ay l)) (aQ (bn l i) λx=>br (p x) (some (.inr (Y x))) (some (.inl (aV .i64 i 1)))) (some (.inr N))):
  aL B 0=some (match l.find? p with|some x=>Y x|none=>N):=by
 apply post.eq;refine dP (λi=>∃k:Nat,i=(k:Int)/\k<=l.length/\(l.drop k).find? p=l.find? p) (λi=>l.length-i.toNat) ⟨0,rfl,QaD _,rfl⟩ (by simp;omega) ?_
 rintro _ ⟨k,rfl,hk,hf⟩;rw[hB];refine bg (λhb=>?_) (λhb=>dd ?_)
 ·simp only[ew,ay]at hb;have xw:k<l.length:=by omega
  have e1:l[k]?=some l[k]:=dr xw;rw[Qfa xw,List.find?_cons]at hf;rw[bB e1,af,inc xw hl];refine bg (λhc=>dd ?_) (λhc=>cZ ⟨⟨k+1,by simp,by omega,?_⟩,by simp;omega⟩)
  ·rw[hc]at hf;simp only at hf;rw[<-hf]
  ·rw[hc]at hf;simpa using hf
 ·simp only[eC,ay]at hb;rw[QiZ (by omega)]at hf
  rw[<-hf];rfl
def No(aJ aY eI:Int)(a:a7):Bool:=decide (a.aY=aY/\a.eI=eI/\a.aJ=aJ)
def Eo(n:aC)(aJ aY eI:Int):a7×Bool:=match n.eX.find? (No aJ aY eI)with
 |some a=>(a,true)
 |none=>(a7.mk 0 0 0 0 [] [],false)
theorem find_eq{n:aC}(h:n.eX.length<=1048576)(aJ aY eI:Int):yD n aJ aY eI=some (Eo n aJ aY eI):=by
 unfold yD Eo;have:=U4 (No aJ aY eI) (λa=>(Sum.inr (a,true):Unit⊕(a7×Bool))) (.inl ()) h (B:=λs=>tp n aJ aY eI s) (λi=>by
  unfold tp;congr 2
  funext x
  unfold Aa;rw[af];congr 1;unfold No;rw[Qdg];simp [and_assoc])
 rw[cN this];cases n.eX.find? (No aJ aY eI) <;> rfl
theorem O3{n:aC}{aJ aY eI:Int}(h:(Eo n aJ aY eI).2=true):(Eo n aJ aY eI).1∈n.eX/\No aJ aY eI (Eo n aJ aY eI).1=true:=by
 unfold Eo at h ⊢;cases hf:n.eX.find? (No aJ aY eI)with
 |none=>rw[hf]at h;cases h
 |some a=>exact⟨List.mem_of_find?_eq_some hf,List.find?_some hf⟩
def pY(n:aC)(i:Int):Bool:=decide (0<=i/\i<n.bm.length)
theorem ZO(n:aC)(i:Int):tL n i=some (pY n i):=by
 unfold tL pY ay;congr 1;rw[Qdg];simp
def goN(n:aC)(aJ aY eI t:Int):Int×Int×Int:=
 if pY n aY=true/\pY n eI=true then
  if aY=eI then(t,0,0)else
  if(Eo n aJ aY eI).2=true then(Qa0 (Eo n aJ aY eI).1 t,(Eo n aJ aY eI).1.cV,0)else(0,0,12)
 else(0,0,11)
theorem go_eq{n:aC}(h:Ef n)(aJ aY eI:Int){t:Int}(ht:QW t):uB n aJ aY eI t=some (goN n aJ aY eI t):=by
 unfold uB goN;rw[ZO,af,ZO,af,find_eq (by have:=h.eX;omega),af]
 simp only[GJ,kp];by_cases h1:pY n aY=true
 ·by_cases h2:pY n eI=true
  ·rw[if_pos h1,if_pos h2,if_pos (And.intro h1 h2)];by_cases h3:aY=eI
   ·rw[if_pos h3,if_pos h3]
   ·rw[if_neg h3,if_neg h3];by_cases h4:(Eo n aJ aY eI).2=true
    ·rw[if_pos h4,if_pos h4,Qa1 (h.all _ (O3 h4).1) ht,af]
    ·rw[if_neg h4,if_neg h4]
  ·rw[if_pos h1,if_neg h2,if_neg (λh:pY n aY=true/\pY n eI=true=>h2 h.2)]
 ·rw[if_neg h1,if_neg (λh:pY n aY=true/\pY n eI=true=>h1 h.1)]
def Wi(f:List Int->O (List Int))(c:Nat)(P:Prop):Prop:=∀l:List Int,l.length+c<=100->post (f l) (Ext l c P)
section
variable {f : List Int -> O (List Int)} {c : Nat} {P Q : Prop} {l : List Int} {e : Int}
theorem Wi.bad(h:Wi f c P)(hl:l.length+(c+1)<=100):post (ft (fQ (l++[e]).length 8) (f (l++[e]))) (Ext l (c+1) Q):=
 bY (eV (by simp;omega)) ((h (l++[e]) (by simp;omega)).mono λx hx=>(Ext.one (P:=False) (fa 1) trivial).trans hx (by omega) λh _=>h.elim)
theorem Wi.Es(h:Wi f c P)(hl:l.length+(c+1)<=100)(hp:P->Q):post (f l) (Ext l (c+1) Q):=(h l (by omega)).mono λx hx=>hx.mono (by omega) hp
theorem JZ(hl:l.length+1<=100):post (ft (fQ (l++[e]).length 8) (some (l++[e]))) (Ext l 1 Q):=bY (eV (by simp;omega)) (aI.2 (.one (fa 1) trivial))
theorem YR(hq:Q):post (some l) (Ext l 1 Q):=aI.2 (.nil hq)
end
section
variable {α : Type} {n lo hi : Int} {f : Bool -> O α} {Q : α -> Prop}
theorem pq(h:post (f (decide (lo<=n/\n<=hi))) Q):post (aQ (ch n lo hi) f) Q:=by
 have:ch n lo hi=some (decide (lo<=n/\n<=hi)):=by
  unfold ch;congr 1;rw[Qdg,Ae,gX,xa,QbB]
 rw[this];exact h
theorem Ii(h:post (f (decide (lo<=n/\n<=hi))) Q):post (aQ (e_ n lo hi) f) Q:=pq h
end
theorem qj{E:Type}{B:Int->O (Int⊕E)}(n:Nat)(R:E->Prop)(P:Nat->Prop)(hn:n<18446744073709551615)
  (step:∀i,i<n->post (B (i:Int)) λx=>(x=.inl ((i:Int)+1)/\P i)\/∃e,x=.inr e/\R e) (fin:post (B (n:Int)) λx=>∃e,x=.inr e/\((∀i,i<n->P i)->R e)):post (aL B 0) R:=by
 refine dP (λi=>∃k:Nat,i=(k:Int)/\k<=n/\∀j,j<k->P j) (λi=>n-i.toNat) ⟨0,rfl,QaD _,by simp⟩ (by simp;omega) ?_
 rintro _ ⟨k,rfl,hk,hP⟩;by_cases h:k<n
 ·refine(step k h).mono ?_
  rintro x (⟨rfl,hp⟩|⟨e,rfl,he⟩)
  ·refine⟨λs' hs=>?_,λ_ h=>by(cases h)⟩
   cases hs;refine⟨⟨k+1,by simp,by omega,λj hj=>?_⟩,by simp;omega⟩
   rcases sh j k with h|h
   ·exact hP j h
   ·obtain rfl:j=k:=by omega
    exact hp
  ·exact⟨λ_ h=>(by cases h),λe' he'=>by cases he';exact he⟩
 ·obtain rfl:k=n:=by omega
  refine fin.mono ?_
  rintro x ⟨e,rfl,he⟩;exact⟨λ_ h=>(by cases h),λe' he'=>by cases he';exact he hP⟩
structure QcT (np dS:Nat) (t:av):Prop where
 q7:0<=t.q7/\t.q7<=10
 aY:0<=t.aY/\t.aY<np
 eI:0<=t.eI/\t.eI<np
 Qo5:1<=dS/\dS<=3
 cap:t.cap.length=dS
 gZ:∀i,i<t.cap.length->∀x,t.cap[i]?=some x->0<=x/\x<=1000
 cF:0<=t.cF/\t.cF<=1073741823
 pL:0<=t.bA/\t.bA<=t.bI
 bI:t.bI<=4096
 eu:1<=t.eu/\t.eu<=4096
 rest:0<=t.bJ/\t.bJ<=4096
 aJ:0<=t.aJ/\t.aJ<=7
 gA:0<=t.gA/\t.gA<=100000
 cP:0<=t.cP/\t.cP<=100
 de:0<=t.de/\t.de<=100
section
variable {x0 : av} {n : aC} {l0 : List av}
abbrev P8(x0:av):Prop:=(0<=x0.aJ/\x0.aJ<=7)/\(0<=x0.gA/\x0.gA<=100000)/\(0<=x0.cP/\x0.cP<=100)/\(0<=x0.de/\x0.de<=100)
theorem ty8:Wi (kR x0) 1 (P8 x0):=λl hl=>by
 unfold kR;refine pq (bg (λh1=>pq (bg (λh2=>pq (bg (λh3=>pq (bg (λh4=>YR ?_) (λ_=>JZ hl))) (λ_=>JZ hl))) (λ_=>JZ hl))) (λ_=>JZ hl))
 exact⟨QbF h1,QbF h2,QbF h3,QbF h4⟩
abbrev P7(x0:av):Prop:=(1<=x0.eu/\x0.eu<=4096)/\(0<=x0.bJ/\x0.bJ<=4096)/\P8 x0
theorem ty7:Wi (kQ x0) 2 (P7 x0):=λl hl=>by
 unfold kQ;exact pq (bg (λh1=>pq (bg (λh2=>ty8.Es hl λh=>⟨QbF h1,QbF h2,h⟩) (λ_=>ty8.bad hl))) (λ_=>ty8.bad hl))
abbrev P6(x0:av):Prop:=(0<=x0.bA/\x0.bA<=x0.bI)/\x0.bI<=4096/\P7 x0
theorem ty6:Wi (kP x0) 3 (P6 x0):=λl hl=>by
 unfold kP;refine pq (bg (λ_=>ty7.bad hl) (λh1=>ty7.Es hl λh=>?_))
 simp only[Ja,ntF,iu]at h1;exact⟨QbF h1.1,h1.2,h⟩
abbrev P5(x0:av):Prop:=(0<=x0.cF/\x0.cF<=1073741823)/\P6 x0
theorem ty5:Wi (kO x0) 4 (P5 x0):=λl hl=>by
 unfold kO;exact pq (bg (λh1=>ty6.Es hl λh=>⟨QbF h1,h⟩) (λ_=>ty6.bad hl))
def cU(l:List av):Nat:=match l with
 | []=>0
 |t ::_=>t.cap.length
theorem Qdc:nE l0=some (cU l0:Int):=by
 unfold nE cU;cases l0 with
 |nil=>rfl
 |cons t r =>
  rw[aR (by simp [ay];omega),show(0:Int)=((0:Nat):Int)from rfl,bB (a:=t) rfl];rfl
abbrev P4(dS:Nat)(x0:av):Prop:=(1<=dS/\dS<=3)/\x0.cap.length=dS/\(∀i,i<x0.cap.length->∀x,x0.cap[i]?=some x->0<=x/\x<=1000)/\P5 x0
theorem QgZ{c:List Int}{dS:Nat}(hc:c.length<=1048576):post (kJ c dS) λr=>r=true->(1<=dS/\dS<=3)/\c.length=dS/\∀i,i<c.length->∀x,c[i]?=some x->0<=x/\x<=1000:=by
 unfold kJ;refine pq (bg (λ_=>aI.2 λh=>by cases h) (λh1=>?_))
 simp only[Ja,ntF,vu,ay,QbB]at h1;have h2:=QbF h1.1;refine bw (R:=λe:Unit⊕Bool=>(∃u,e=.inl u/\∀i,i<c.length->∀x,c[i]?=some x->0<=x/\x<=1000)\/e=.inr false) ?_ λe he=>?_
 ·refine qj (B:=λs=>fx c s) c.length _ (λi=>∀x,c[i]?=some x->0<=x/\x<=1000) (by omega) (λi hi=>?_) ?_
  ·show post (fx c (i:Int)) _;unfold fx;have e1:c[i]?=some c[i]:=dr hi;rw[bk (by simp [ay];omega),bB e1,af,inc hi hc]
   exact pq (bg (λh=>aI.2 (.inl ⟨rfl,λx hx=>by rw[e1]at hx;cases hx;exact QbF h⟩)) (λ_=>aI.2 (.inr ⟨_,rfl,.inr rfl⟩)))
  ·show post (fx c (c.length:Int)) _;unfold fx;rw[aR (by simp [ay])]
   exact aI.2 ⟨_,rfl,λh=>.inl ⟨_,rfl,h⟩⟩
 ·rcases he with⟨u,rfl,h⟩|rfl
  ·have hd:(1<=dS/\dS<=3)/\c.length=dS:=by omega
   rw[c5];exact aI.2 λ_=>⟨hd.1,hd.2,h⟩
  ·rw[iJ];exact aI.2 λh=>by cases h
theorem ty4(hc:x0.cap.length<=1048576):Wi (kN l0 x0) 5 (P4 (cU l0) x0):=λl hl=>by
 unfold kN;rw[Qdc,af];exact bw (QgZ hc) λr hr=>bg (λh=>ty5.Es hl λh'=>⟨(hr h).1,(hr h).2.1,(hr h).2.2,h'⟩) (λ_=>ty5.bad hl)
abbrev P3(np dS:Nat)(x0:av):Prop:=(0<=x0.aY/\x0.aY<np)/\(0<=x0.eI/\x0.eI<np)/\P4 dS x0
theorem ty3(hn:n.bm.length<=1048576)(hc:x0.cap.length<=1048576):Wi (kM n l0 x0) 6 (P3 n.bm.length (cU l0) x0):=λl hl=>by
 unfold kM;have hs:cX .i64 (ay n.bm) 1=(n.bm.length:Int)-1:=by unfold ay;exact nd (by omega) (by omega)
 rw[hs];refine pq (bg (λh1=>pq (bg (λh2=>(ty4 hc).Es hl λh=>⟨?_,?_,h⟩) (λ_=>(ty4 hc).bad hl))) (λ_=>(ty4 hc).bad hl))
 ·have:=QbF h1;omega
 ·have:=QbF h2;omega
theorem ty2(hn:n.bm.length<=1048576)(hc:x0.cap.length<=1048576):Wi (kL n l0 x0) 7 ((0<=x0.q7/\x0.q7<=10)/\P3 n.bm.length (cU l0) x0):=λl hl=>by
 unfold kL;exact pq (bg (λh1=>(ty3 hn hc).Es hl λh=>⟨QbF h1,h⟩) (λ_=>(ty3 hn hc).bad hl))
theorem QbN{i:Nat}{s:I}(hi:i<=l0.length)(hl:l0.length<=1048576):post (rM l0 (i:Int) s) λ_=>True:=by
 unfold rM;refine bw (R:=λ_=>True) ?_ λe _=>by cases e <;> exact aI.2 trivial
 refine qj (B:=λx=>gE l0 (i:Int) s x) i _ (λ_=>True) (by omega) (λk hk=>?_) ?_
 ·show post (gE l0 (i:Int) s (k:Int)) _;unfold gE;have e1:l0[k]?=some (l0[k]'(by omega)):=dr _
  rw[bk (by simp;omega),bB e1,af,inc (n:=i) hk (by omega)]
  exact bg (λ_=>aI.2 (.inr ⟨_,rfl,trivial⟩)) (λ_=>aI.2 (.inl ⟨rfl,trivial⟩))
 ·show post (gE l0 (i:Int) s (i:Int)) _;unfold gE;rw[aR (by simp)]
  exact aI.2 ⟨_,rfl,λ_=>trivial⟩
structure Qmd (t:av):Prop where
 name:t.name.size<=1048576
 cap:t.cap.length<=1048576
theorem XN(hn:n.bm.length<=1048576)(hl:l0.length<=1048576){i:Nat}(hx:l0[i]?=some x0)(hI:Qmd x0):post (rN n l0 (i:Int)) (Ext [] 9 (QcT n.bm.length (cU l0) x0)):=by
 unfold rN;rw[bB hx,af];have hi:=(pB.1 hx).1;have h1:Wi (kK n l0 (i:Int) x0) 8 ((0<=x0.q7/\x0.q7<=10)/\P3 n.bm.length (cU l0) x0):=λl Ko=>by
  unfold kK;exact bw (QbN (by omega) hl) λr _=>bg (λ_=>(ty2 hn hI.cap).bad Ko) (λ_=>(ty2 hn hI.cap).Es Ko id)
 refine bw (Pk _ hI.name) λr _=>bg (λ_=>h1.Es (by simp) λh=>?_) (λ_=>h1.bad (l:=[]) (by simp))
 obtain⟨a,⟨b,c,d,e,f,g,⟨h,i,j,k,l,m,o,p⟩⟩⟩:=h;exact⟨a,b,c,d,e,f,g,h,i,j,k,l,m,o,p⟩
theorem Su{r:List Int}{s:I}{i:Nat}(hi:i<1048576)(hr:r.length<=100)(out:List aa)(ho:out.length<=209715200){B:List aa×Int->O ((List aa×Int)⊕(List aa))}
  (hB:∀l3 k,B (l3,k)=br (bh k (ay r)) (aQ (bn r k) λx0=>aQ (fj (i:Int)) λr2=>ft (fQ (l3++[(aa.mk x0 r2)]).length 24) (some (.inl ((l3++[(aa.mk x0 r2)]),(aV .i64 k 1))))) (some (.inr l3))):
  post (aL B (out,0)) (Ext out r.length (r=[])):=by
 refine(uD r.length 1 (λ_=>False) out (by omega) (λk o hk ho'=>?_) (λo=>?_)).mono λx hx=>hx.mono (by omega) λh=>?_
 ·have e1:r[k]?=some r[k]:=dr hk;rw[hB,bk (by simp [ay];exact hk),bB e1,af,inc hk (by omega)]
  exact bw (xB (i:Int) (NG (by omega))) λs hs=>bY (eV (by simp;omega)) (Gw rfl (by omega) (sm_at (by omega)))
 ·rw[hB,aR (by simp [ay])]
 ·cases r with
  |nil=>rfl
  |cons y ys=>exact(h 0 (by simp)).elim
theorem Ext.QbQ{α:Type} [Sm α] {r:List α}{c:Nat}{P:Prop}(h:Ext [] c P r):r.length<=c:=by have:=h.len;simpa using this
theorem Ws(hn:n.bm.length<=1048576)(hl:l0.length<=1048576)(hI:∀t∈l0,Qmd t):post (rL n l0) (Ext [] (1+9*l0.length) ((1<=l0.length/\l0.length<=6)/\∀t∈l0,QcT n.bm.length (cU l0) t)):=by
 have main:∀l1:List aa,l1.length<=1->post (nZ n l0 l1) (Ext l1 (9*l0.length) (∀i,i<l0.length->∀t,l0[i]?=some t->QcT n.bm.length (cU l0) t)):=by
  intro l1 h1;refine xk ?_
  refine(uD l0.length 9 _ l1 (by omega) (λi out hi ho=>?_) (λout=>?_)).mono λr h=>aI.2 h
  ·show post (iQ n l0 out (i:Int)) _;unfold iQ;have e1:l0[i]?=some l0[i]:=dr hi;rw[bk (by simp [ay];exact hi),inc hi hl]
   refine bw (XN hn hl e1 (hI _ (QaH hi))) λr1 QT=>?_
   have:=QT.QbQ;refine bw (Su (i:=i) (s:=ByteArray.empty) (by omega) (by omega) out (by omega) (λ_ _=>rfl)) λl4 h4=>aI.2 ⟨_,rfl,h4.mono this λh=>?_⟩
   intro t ht;rw[e1]at ht;cases ht;exact QT.of_nil h
  ·show iQ n l0 out (l0.length:Int)=_;unfold iQ;rw[aR (by simp [ay])]
 unfold rL;refine pq (bg (λh=>(main [] (by simp)).mono λr hr=>hr.mono (by omega) λh'=>⟨?_,λt ht=>?_⟩) (λh=>bY (eV (by simp)) ((main _ (by simp)).mono λr hr=>(Ext.one (P:=False) (fa 1) (sm_at (s:=ByteArray.empty) (by simp [QmF]))).trans hr (by omega) λh _=>h.elim)))
 ·have:=QbF h;simp only[ay]at this;omega
 ·obtain⟨i,hi⟩:=QhO ht;exact h' i (pB.1 hi).1 t hi
end
def Sc(np:Nat)(s:aS):Prop:=(s.place=-1/\s.bA=0/\s.bI=0/\s.dG=0)\/(0<=s.place/\s.place<np/\0<=s.bA/\s.bA<=s.bI/\s.bI<=4096/\0<=s.dG/\s.dG<=4096)
structure UH (np dS types:Nat) (o:aw):Prop where
 load:o.load.length=dS
 Qql:∀i,i<o.load.length->∀x,o.load[i]?=some x->0<=x/\x<=1000
 pick:Sc np o.pick
 drop:Sc np o.drop
 one:¬(o.pick.place=-1/\o.drop.place=-1)
 cF:0<=o.cF/\o.cF<=1073741823
 yJ:-1<=o.yJ/\o.yJ<=1000000
 split:1<=o.split/\o.split<=4
 whole:1<o.split->o.pick.place=-1\/o.drop.place=-1
 last:-1<=o.cr/\o.cr<types
 now:-1<=o.now/\o.now<types
section
variable {x0 : aw} {types : Nat} {np : Nat} {dS : Nat}
abbrev Q5(types:Nat)(x0:aw):Prop:=(-1<=x0.yJ/\x0.yJ<=1000000)/\(1<=x0.split/\x0.split<=4)/\(1<x0.split->x0.pick.place=-1\/x0.drop.place=-1)/\(-1<=x0.cr/\x0.cr<types)/\(-1<=x0.now/\x0.now<types)
theorem or5:Wi (kV types x0) 1 (Q5 types x0):=λl hl=>by
 unfold kV;refine Ii (bg (λh1=>Ii (bg (λ_=>JZ hl) (λh2=>YR ?_))) (λ_=>JZ hl))
 simp only[Ja,Wj,ntF,iu,vu,eC,A7]at h2;have h3:=QbF h1;have h4:=QbF h2.1.1.1.1.1;obtain⟨⟨⟨⟨⟨_,h5⟩,h6⟩,h7⟩,h8⟩,h9⟩:=h2;exact⟨h3,h4,λh=>by rcases h5 with h5|h5;omega;exact h5,⟨h6,h7⟩,⟨h8,h9⟩⟩
abbrev Q6(types:Nat)(x0:aw):Prop:=(0<=x0.cF/\x0.cF<=1073741823)/\Q5 types x0
theorem or6:Wi (kW types x0) 2 (Q6 types x0):=λl hl=>by
 unfold kW;exact Ii (bg (λh1=>or5.Es hl λh=>⟨QbF h1,h⟩) (λ_=>or5.bad hl))
def Qgy(s:aS):Prop:=(s.place=-1/\s.bA=0/\s.bI=0/\s.dG=0)\/(0<=s.place/\0<=s.bA/\s.bA<=s.bI/\s.bI<=4096/\0<=s.dG/\s.dG<=4096)
theorem Qau(s:aS):post (jL s) λr=>r=0->Qgy s:=by
 unfold jL;refine bg (λh=>aI.2 λ_=>.inl ?_) (λ_=>bg (λ_=>aI.2 λh=>absurd h (by decide)) (λh=>aI.2 λ_=>.inr ?_))
 ·simp only[Ae,kp]at h;exact⟨h.1.1.1,h.1.1.2,h.1.2,h.2⟩
 ·simp only[Ja,eC,iu]at h;omega
abbrev Q4(types:Nat)(x0:aw):Prop:=Qgy x0.pick/\Qgy x0.drop/\Q6 types x0
theorem or4:Wi (kU types x0) 3 (Q4 types x0):=λl hl=>by
 unfold kU;refine bw (Qau _) λr4 h4=>bg (λ_=>or6.bad hl) (λh=>bw (Qau _) λr8 h8=>bg (λ_=>or6.bad hl) (λh'=>or6.Es hl λh6=>⟨h4 (by simpa using h),h8 (by simpa using h'),h6⟩))
abbrev Q3(types:Nat)(x0:aw):Prop:=¬(x0.pick.place=-1/\x0.drop.place=-1)/\Q4 types x0
theorem or3:Wi (kT types x0) 4 (Q3 types x0):=λl hl=>by
 unfold kT;refine bg (λ_=>or4.bad hl) (λh=>or4.Es hl λh'=>⟨?_,h'⟩)
 simp only[Wj,rC]at h;omega
abbrev Q2(np types:Nat)(x0:aw):Prop:=(-1<=x0.pick.place/\x0.pick.place<np)/\(-1<=x0.drop.place/\x0.drop.place<np)/\Q3 types x0
theorem or2(hn:np<=1048576):Wi (gF np types x0) 5 (Q2 np types x0):=λl hl=>by
 unfold gF;have hs:cX .i64 (np:Int) 1=(np:Int)-1:=nd (by omega) (by omega)
 rw[hs];refine Ii (bg (λh1=>Ii (bg (λh2=>or3.Es hl λh=>⟨?_,?_,h⟩) (λ_=>or3.bad hl))) (λ_=>or3.bad hl))
 ·have:=QbF h1;omega
 ·have:=QbF h2;omega
theorem XM{c:List Int}(hc:c.length<=1048576):post (pa c dS) λr=>r=true->c.length=dS/\∀i,i<c.length->∀x,c[i]?=some x->0<=x/\x<=1000:=by
 unfold pa;refine bg (λ_=>aI.2 λh=>by cases h) (λh1=>?_)
 simp only[vu,ay]at h1;have hd:c.length=dS:=by omega
 refine bw (R:=λe:Unit⊕Bool=>(∃u,e=.inl u/\∀i,i<c.length->∀x,c[i]?=some x->0<=x/\x<=1000)\/e=.inr false) ?_ λe he=>?_
 ·refine qj (B:=λs=>gD c s) c.length _ (λi=>∀x,c[i]?=some x->0<=x/\x<=1000) (by omega) (λi hi=>?_) ?_
  ·show post (gD c (i:Int)) _;unfold gD;have e1:c[i]?=some c[i]:=dr hi;rw[bk (by simp [ay];omega),bB e1,af,inc hi hc]
   refine bg (λ_=>aI.2 (.inr ⟨_,rfl,.inr rfl⟩)) (λh2=>bg (λ_=>aI.2 (.inr ⟨_,rfl,.inr rfl⟩)) (λh3=>aI.2 (.inl ⟨rfl,λx hx=>?_⟩)))
   rw[e1]at hx;cases hx;simp only[eC,iu]at h2 h3;exact⟨h2,h3⟩
  ·show post (gD c (c.length:Int)) _;unfold gD;rw[aR (by simp [ay])]
   exact aI.2 ⟨_,rfl,λh=>.inl ⟨_,rfl,h⟩⟩
 ·rcases he with⟨u,rfl,h⟩|rfl
  ·rw[c5];exact aI.2 λ_=>⟨hd,h⟩
  ·rw[iJ];exact aI.2 λh=>by cases h
structure Ql_ (o:aw):Prop where
 name:o.name.size<=1048576
 load:o.load.length<=1048576
theorem XO{l:List aw}(hn:np<=1048576)(hl:l.length<=1048576){i:Nat}(hx:l[i]?=some x0)(hI:Ql_ x0):post (rP np dS types l (i:Int)) (Ext [] 9 (UH np dS types x0)):=by
 unfold rP;rw[bB hx,af];have hi:=(pB.1 hx).1;have hb:Wi (λl2=>aQ (pa x0.load dS) λr1=>br r1 (gF np types x0 l2) (ft (fQ (l2++[17]).length 8) (gF np types x0 (l2++[17])))) 6 ((x0.load.length=dS/\∀i,i<x0.load.length->∀x,x0.load[i]?=some x->0<=x/\x<=1000)/\Q2 np types x0):=λl Ko =>
  bw (XM hI.load) λr hr=>bg (λh=>(or2 hn).Es Ko λh'=>⟨hr h,h'⟩) (λ_=>(or2 hn).bad Ko)
 have h1:Wi (kS np dS types l (i:Int) x0) 7 ((x0.load.length=dS/\∀i,i<x0.load.length->∀x,x0.load[i]?=some x->0<=x/\x<=1000)/\Q2 np types x0):=λl1 Ko=>by
  unfold kS;refine bw (R:=Ext l1 1 True) ?_ λl2 h2=>?_
  ·refine qj (B:=λs=>gH np dS types l (i:Int) x0 l1 s) i _ (λ_=>True) (by omega) (λk hk=>?_) ?_
   ·show post (gH np dS types l (i:Int) x0 l1 (k:Int)) _;unfold gH;have e1:l[k]?=some (l[k]'(by omega)):=dr _
    rw[bk (by simp;omega),bB e1,af,inc (n:=i) hk (by omega)]
    exact bg (λ_=>bY (eV (by simp;omega)) (aI.2 (.inr ⟨_,rfl,.one (fa 1) trivial⟩))) (λ_=>aI.2 (.inl ⟨rfl,trivial⟩))
   ·show post (gH np dS types l (i:Int) x0 l1 (i:Int)) _;unfold gH;rw[aR (by simp)]
    exact aI.2 ⟨_,rfl,λ_=>.nil trivial⟩
  ·have:=h2.len;exact(hb l2 (by omega)).mono λr hr=>h2.trans hr (by omega) λ_ h=>h
 refine bw (Pk _ hI.name) λr _=>bg (λ_=>(h1.Es (l:=[]) (by simp) λh=>?_:post _ (Ext [] 8 (UH np dS types x0))).mono λr hr=>hr.mono (by omega) id) (λ_=>(h1.bad (l:=[]) (by simp):post _ (Ext [] 8 (UH np dS types x0))).mono λr hr=>hr.mono (by omega) id)
 obtain⟨⟨a,b⟩,⟨c0,c⟩,⟨d0,d⟩,e,f,g,h,⟨i,j,k,m,o⟩⟩:=h;refine⟨a,b,?_,?_,e,h,i,j,k,m,o⟩
 ·rcases f with f|f
  ·exact .inl f
  ·exact .inr ⟨f.1,c,f.2⟩
 ·rcases g with g|g
  ·exact .inl g
  ·exact .inr ⟨g.1,d,g.2⟩
theorem Wt{n:aC}{l:List aw}(hn:n.bm.length<=1048576)(hl:l.length<=1048576)(hI:∀t∈l,Ql_ t):post (rO n dS types l) (Ext [] (1+9*l.length) (l.length<=10/\∀t∈l,UH n.bm.length dS types t)):=by
 have main:∀l1:List aa,l1.length<=1->post (n5 n dS types l l1) (Ext l1 (9*l.length) (∀i,i<l.length->∀t,l[i]?=some t->UH n.bm.length dS types t)):=by
  intro l1 h1;refine xk ?_
  refine(uD l.length 9 _ l1 (by omega) (λi out hi ho=>?_) (λout=>?_)).mono λr h=>aI.2 h
  ·show post (iR n dS types l out (i:Int)) _;unfold iR;have e1:l[i]?=some l[i]:=dr hi;rw[bk (by simp [ay];exact hi),inc hi hl]
   refine bw (XO hn hl e1 (hI _ (QaH hi))) λr1 QT=>?_
   have:=QT.QbQ;refine bw (Su (i:=i) (s:=ByteArray.empty) (by omega) (by omega) out (by omega) (λ_ _=>rfl)) λl4 h4=>aI.2 ⟨_,rfl,h4.mono this λh=>?_⟩
   intro t ht;rw[e1]at ht;cases ht;exact QT.of_nil h
  ·show iR n dS types l out (l.length:Int)=_;unfold iR;rw[aR (by simp [ay])]
 unfold rO;refine bg (λh=>bY (eV (by simp)) ((main _ (by simp)).mono λr hr=>(Ext.one (P:=False) (fa 1) (sm_at (s:=ByteArray.empty) (by simp [QmF]))).trans hr (by omega) λh _=>h.elim)) (λh=>(main [] (by simp)).mono λr hr=>hr.mono (by omega) λh'=>⟨?_,λt ht=>?_⟩)
 ·simp only[iu,ay]at h;omega
 ·obtain⟨i,hi⟩:=QhO ht;exact h' i (pB.1 hi).1 t hi
end
def OH(ai:Nat)(p:aW):Prop:=0<=p.x0/\p.x0<ai/\0<=p.x1/\p.x1<ai/\p.x0≠p.x1
theorem Sw{i:Nat}(hi:i<1048576):post (lV (i:Int)) λs=>s.size<=21:=by
 unfold lV;refine bw (R:=λe=>e.2.size<=20) ?_ λe he=>bY (by rw[w8];simp;omega) (aI.2 (by rw[xA,w8];simp;omega))
 refine dP (λs=>∃m k:Nat,s.1=(m:Int)/\m<1048576/\m<10 ^ k/\s.2.size+k<=20) (λs=>s.1.toNat) ⟨i,7,rfl,hi,by omega,by simp [QmF]⟩ (by simp;omega) ?_
 rintro⟨_,s⟩ ⟨m,k,rfl,h0,h1,h2⟩;simp only at h2;show post (lD (m:Int) s) _;unfold lD;refine bg (λhb=>bY (by rw[w8];simp;omega) (cZ ?_)) (λ_=>dd (show s.size<=20 by omega))
 simp only[gX]at hb;have hq:q_ .i64 (m:Int) 10=((m / 10:Nat):Int):=by rw[Ql2 (by omega),Qix (by omega)];omega
 obtain⟨k,rfl⟩:∃j,k=j+1:=⟨k-1,by
  rcases QcW k with rfl|h
  ·simp at h1;omega
  ·omega⟩
 rw[hq];refine⟨⟨m / 10,k,rfl,by omega,by rw[Qdw]at h1;omega,?_⟩,by simp;omega⟩
 rw[xA,w8];simp;omega
theorem Qj{ai:Nat}{l:List aW}{word:I}{dp:Bool}(hl:l.length<=1048576)(hw:word.size<=20):post (qG ai l word dp) (Ext [] (1+l.length) (l.length<=16/\∀p∈l,OH ai p)):=by
 have main:∀l1:List aa,l1.length<=1->post (mK ai l word dp l1) (Ext l1 l.length (∀i,i<l.length->∀p,l[i]?=some p->OH ai p)):=by
  intro l1 h1;refine xk ?_
  refine(uD l.length 1 _ l1 (by omega) (λi out hi ho=>?_) (λout=>?_)).mono λr h=>aI.2 (h.mono (by omega) id)
  ·show post (ib ai l word dp out (i:Int)) _;unfold ib;have e1:l[i]?=some l[i]:=dr hi;rw[bk (by simp [ay];exact hi),inc hi hl,bB e1,af]
   have Ud:fC.size=1:=rfl;refine bY (by omega) (bw (Sw (by omega)) λr hr=>bY (by rw[xA];omega) ?_)
   have yy:∀{e:Int},Sm.sm (aa.mk e (ee (ee word fC) r)):=sm_at (by rw[xA,xA];omega)
   generalize l[i]=p at e1;refine bg (λ_=>bY (eV (by simp;omega)) (Gw rfl (fa 1) yy)) (λh=>?_)
   refine bw (R:=λ_=>True) ?_ λtw _=>bg (λ_=>bY (eV (by simp;omega)) (Gw rfl (fa 1) yy)) (λ_=>RY rfl ?_)
   ·refine dP (λs=>∃k:Nat,s.2=(k:Int)/\k<=i) (λs=>i-s.2.toNat) ⟨0,rfl,QaD _⟩ (by simp;omega) ?_
    rintro⟨b,_⟩ ⟨k,rfl,hk⟩;show post (mL ai l word dp out (i:Int) p r b (k:Int)) _;unfold mL;refine bg (λhb=>?_) (λ_=>dd trivial)
    simp only[ew]at hb;have xw:k<i:=by omega
    rw[inc (n:=i) xw (by omega)]
    have leaf:∀b:Bool,post (some (Sum.inl (b,(k:Int)+1):(Bool×Int)⊕Bool)) λx=>(∀s',x=.inl s'->(∃k:Nat,s'.2=(k:Int)/\k<=i)/\i-s'.2.toNat<i-((b,(k:Int)):Bool×Int).2.toNat)/\∀e,x=.inr e->True:=
     λb=>cZ ⟨⟨k+1,by simp,by omega⟩,by simp;omega⟩
    refine bg (λ_=>leaf _) (λ_=>?_)
    have e2:l[k]?=some (l[k]'(by omega)):=dr _
    rw[bB e2,af];exact bg (λ_=>bg (λ_=>leaf _) (λ_=>bg (λ_=>bg (λ_=>leaf _) (λ_=>leaf _)) (λ_=>leaf _))) (λ_=>bg (λ_=>bg (λ_=>leaf _) (λ_=>leaf _)) (λ_=>leaf _))
   ·intro q hq;rw[e1]at hq;cases hq;simp only[Ja,eC,A7,rC]at h;exact⟨h.1.1.1.1,h.1.1.1.2,h.1.1.2,h.1.2,h.2⟩
  ·show ib ai l word dp out (l.length:Int)=_;unfold ib;rw[aR (by simp [ay])]
 unfold qG;refine bg (λh=>bY (eV (by simp)) ((main _ (by simp)).mono λr hr=>(Ext.one (P:=False) (fa 1) (sm_at (by omega))).trans hr (by omega) λh _=>h.elim)) (λh=>(main [] (by simp)).mono λr hr=>hr.mono (by omega) λh'=>⟨?_,λt ht=>?_⟩)
 ·simp only[iu,ay]at h;omega
 ·obtain⟨i,hi⟩:=QhO ht;exact h' i (pB.1 hi).1 t hi
theorem GB{word:I}{r:List aa}(hw:word.size<=20)(hr:r.length<=5000000000000)(hs:∀f∈r,Sm.sm f):post (pb word r) λx=>x.length=r.length:=by
 refine xk ?_
 refine dP (λs=>∃k:Nat,s.2=(k:Int)/\k<=r.length/\s.1.length=k) (λs=>r.length-s.2.toNat) ⟨0,rfl,QaD _,rfl⟩ (by simp;omega) ?_
 rintro⟨out,_⟩ ⟨k,rfl,hk,hl⟩;show post (n8 word r out (k:Int)) _;unfold n8 n7;refine bg (λhb=>?_) (λhb=>dd (aI.2 ?_))
 ·simp only[ew,ay]at hb;simp only at hl;have xw:k<r.length:=by omega
  have e1:r[k]?=some r[k]:=dr xw;have hsk:(r[k]).j7.size<=64:=hs _ (QaH xw);have G5:aV .i64 (k:Int) 1=(k:Int)+1:=dZ (by omega) (by omega)
  have Ud:fC.size=1:=rfl;rw[bB e1,af,af,G5];have leaf:∀f:aa,post (ft (fQ (out++[f]).length 24) (some (Sum.inl (out++[f],(k:Int)+1):(List aa×Int)⊕(List aa)))) λx=>(∀s',x=.inl s'->(∃k:Nat,s'.2=(k:Int)/\k<=r.length/\s'.1.length=k)/\r.length-s'.2.toNat<r.length-((out,(k:Int)):List aa×Int).2.toNat)/\∀e,x=.inr e->post (some e) λx=>x.length=r.length:=
   λf=>bY (eV (by simp;omega)) (cZ ⟨⟨k+1,by simp,by omega,by simp;omega⟩,by simp;omega⟩)
  exact bg (λ_=>leaf _) (λ_=>bY (by omega) (bY (by rw[xA];omega) (leaf _)))
 ·simp only[eC,ay]at hb;simp only at hl;omega
structure QcO (x:ae):Prop where
 bV:Qgo x.bV
 types:x.types.length<=1048576
 ai:x.ai.length<=1048576
 dx:x.dx.length<=1048576
 before:x.before.length<=1048576
 Qt3:∀t∈x.types,Qmd t
 QtS:∀t∈x.ai,Ql_ t
structure dn (x:ae):Prop where
 bV:Ef x.bV
 Qi8:1<=x.types.length
 types:x.types.length<=6
 Ed:∀t∈x.types,QcT x.bV.bm.length (cU x.types) t
 ai:x.ai.length<=10
 ord:∀o∈x.ai,UH x.bV.bm.length (cU x.types) x.types.length o
 dx:x.dx.length<=16
 QaZ:∀p∈x.dx,OH x.ai.length p
 before:x.before.length<=16
 MQ:∀p∈x.before,OH x.ai.length p
theorem Wu{x:ae}(hI:QcO x):post (rR x) λr=>r=[]->dn x:=by
 have h1:=hI.types;have h2:=hI.ai;have h3:=hI.dx;have h4:=hI.before;have h5:=hI.bV.eX;unfold rR;refine bw (Pu (n:=x.bV) hI.bV) λr hr=>?_
 have l1:=hr.QbQ;refine bw (GB (show 3<=20 by omega) (by omega) hr.sms:post (qH Tu r) _) λr1 QT=>?_
 refine bw (Ws (n:=x.bV) hI.bV.bm h1 hI.Qt3) λr2 lW=>?_
 have l2:=lW.QbQ;refine bw (GB (show 5<=20 by omega) (by omega) lW.sms) λr3 hr3=>bY (eV (by simp;omega)) ?_
 rw[Qdc,af];refine bw (Wt (n:=x.bV) (types:=x.types.length) hI.bV.bm h2 hI.QtS) λr5 hr5=>?_
 have l5:=hr5.QbQ;refine bw (GB (show 6<=20 by omega) (by omega) hr5.sms) λr6 hr6=>bY (eV (by simp;omega)) ?_
 have hC:post (rQ (ay x.ai) x.dx x.before) λr=>r.length<=2+x.dx.length+x.before.length/\(∀f∈r,Sm.sm f)/\(r=[]->(x.dx.length<=16/\∀p∈x.dx,OH x.ai.length p)/\(x.before.length<=16/\∀p∈x.before,OH x.ai.length p)):=by
  unfold rQ;refine bw (Qj (ai:=x.ai.length) (word:=Ok) (dp:=true) h3 (show 5<=20 by omega)) λa ha=>bw (Qj (ai:=x.ai.length) (word:=Lt) (dp:=false) h4 (show 6<=20 by omega)) λb hb=>?_
  have la:=ha.QbQ;have lb:=hb.QbQ;refine bY (eV (by simp;omega)) (aI.2 ⟨by simp;omega,λf hf=>?_,λh=>?_⟩)
  ·rcases QaI.1 hf with h|h
   ·exact ha.sms f h
   ·exact hb.sms f h
  ·rw[Qms]at h;exact⟨ha.of_nil h.1,hb.of_nil h.2⟩
 refine bw hC λr7 ⟨l7,s7,c7⟩=>bw (GB (show 5<=20 by omega) (by omega) s7) λr8 hr8=>bY (eV (by simp;omega)) (aI.2 λh=>?_)
 simp only[Qms]at h;obtain⟨⟨⟨e1,e3⟩,e6⟩,e8⟩:=h;have nil:∀{a b:List aa},a.length=b.length->a=[]->b=[]:=λh h'=>Qjs.1 (by rw[<-h,h'];rfl)
 obtain⟨⟨t1,t2⟩,t3⟩:=lW.of_nil (nil hr3 e3);obtain⟨o1,o2⟩:=hr5.of_nil (nil hr6 e6);obtain⟨⟨a1,a2⟩,⟨b1,b2⟩⟩:=c7 (nil hr8 e8);exact⟨hr.of_nil (nil QT e1),t1,t2,t3,o1,o2,a1,a2,b1,b2⟩
def Lv:aS:=aS.mk 0 0 0 0
def Qen:av:=av.mk ByteArray.empty 0 0 0 [] 0 0 0 0 0 0 0 0 0
def Qje:bu:=bu.mk (ae.mk (aC.mk [] []) [] [] [] []) Qen (aD.mk 0 0 [] []) []
def tY:a8:=a8.mk false 0 [] 0 0
def X_:aj:=aj.mk 0 0 tY
def atS(v:ab)(o:aw):aS:=if v.drop=true then o.drop else o.pick
theorem QgN{v:ab}{o:aw}(h:v.drop=true):atS v o=o.drop:=if_pos h
theorem QgM{v:ab}{o:aw}(h:v.drop=false):atS v o=o.pick:=if_neg (by rw[h];decide)
def q8(x:ae)(v:ab):O aS:=
 match(if 0<=v.aP then x.ai[v.aP.toNat]? else none)with
 |none=>none
 |some o=>if 0<=(atS v o).place then some (atS v o)else none
def XF(x:ae)(r:aD):Bool:=decide (0<=r.bt/\r.bt<x.types.length/\0<=r.aE/\r.aE<=4096/\r.ak.length<=20)
def ub(x:ae)(r:aD):Bool:=XF x r&&r.ak.all λv=>(q8 x v).isSome
def aU(x:ae)(r:aD):List aS:=r.ak.map λv=>(q8 x v).getD Lv
def bG(x:ae)(r:aD):av:=x.types.getD r.bt.toNat Qen
structure vz (r:aD):Prop where
 bt:w_ r.bt
 aE:w_ r.aE
 aH:r.aH.length<=1048576
 ak:r.ak.length<=1048576
section
variable {x : ae} {r : aD}
theorem Ql0:(((((bh r.bt 0)||(cT r.bt (ay x.types)))||(bh r.aE 0))||(dt r.aE 4096))||(dt (ay r.ak) 20))=!XF x r:=by
 unfold XF ay;rw[Qdg];simp only[Yj,ntT,ew,gX,oH,QeQ];omega
theorem TG(hx:dn x){v:ab}{s:aS}(h:q8 x v=some s):0<=s.place/\s.place<x.bV.bm.length/\0<=s.bA/\s.bA<=s.bI/\s.bI<=4096/\0<=s.dG/\s.dG<=4096:=by
 unfold q8 at h;split at h
 ·cases h
 ·rename_i o ho;split at ho
  ·have hm:=QaG ho;have hO:=hx.ord o hm;split at h
   ·rename_i h0;cases h;cases hd:v.drop with
    |true =>
     rw[QgN hd]at h0 ⊢;rcases hO.drop with h1|h1
     ·omega
     ·exact h1
    |false =>
     rw[QgM hd]at h0 ⊢;rcases hO.pick with h1|h1
     ·omega
     ·exact h1
   ·cases h
  ·cases ho
theorem D2(v:ab):uC x.ai v=some (match q8 x v with
  |some s=>(s,0)
  |none=>(Lv,if 0<=v.aP/\v.aP<x.ai.length then 19 else 2)):=by
 unfold uC xj v_ q8;rw[af];by_cases h:0<=v.aP/\v.aP<x.ai.length
 ·rw[bk (by simp only[Ae,gX,ew,ay];exact h),Db h.1 h.2,af,if_pos h.1,dr (by omega),if_pos h]
  generalize x.ai[v.aP.toNat]'(by omega)=o
  cases hd:v.drop with
  |true =>
   rw[dT];simp only[QgN hd,GJ,ew];by_cases hp:o.drop.place<0
   ·rw[if_pos hp,if_neg (by omega)];rfl
   ·rw[if_neg hp,if_pos (by omega)]
  |false =>
   rw[dX];simp only[QgM hd,GJ,ew];by_cases hp:o.pick.place<0
   ·rw[if_pos hp,if_neg (by omega)];rfl
   ·rw[if_neg hp,if_pos (by omega)]
 ·rw[aR (by simp only[Wj,A7,eC,ay];omega),if_neg h]
  by_cases h0:0<=v.aP
  ·rw[if_pos h0,Qbp (by omega)];rfl
  ·rw[if_neg h0];rfl
theorem Yp{α:Type}{p:α->Bool}{l:List α}{k:Nat}{a:α}(ha:l[k]?=some a)(hp:p a=false):l.all p=false:=by
 rw[List.all_eq_false];exact⟨a,QaG ha,by simp [hp]⟩
theorem X4(h:XF x r=true):bn x.types r.bt=some (bG x r)/\bG x r∈x.types:=by
 have h5:=QbF h;unfold bG;rw[Qbo,dr (by omega),Db h5.1 h5.2.1]
 exact⟨rfl,QaH _⟩
theorem QkP:zF x r=some (if ub x r=true then(bu.mk x (bG x r) r (aU x r),true)else(Qje,false)):=by
 unfold zF;rw[Ql0];unfold ub;by_cases h:XF x r=true
 ·have h5:r.ak.length<=20:=(QbF h).2.2.2.2;rw[h,QfW,dX,Qe1,(X4 h).1,af];apply post.eq;refine bw (R:=λe:List aS⊕(bu×Bool)=>(e=.inl (aU x r)/\(r.ak.all λv=>(q8 x v).isSome)=true)\/(e=.inr (Qje,false)/\(r.ak.all λv=>(q8 x v).isSome)=false)) ?_ ?_
  ·refine dP (λs=>∃k:Nat,k<=r.ak.length/\s=((r.ak.take k).map (λv=>(q8 x v).getD Lv),(k:Int))/\∀i v,i<k->r.ak[i]?=some v->(q8 x v).isSome=true) (λs=>r.ak.length-s.2.toNat) ⟨0,QaD _,rfl,λi v hi=>by omega⟩ (by simp;omega) ?_
   rintro _ ⟨k,hk,rfl,hS⟩;show post (vT x r (bG x r) _ (k:Int)) _;unfold vT;refine bg (λhb=>?_) (λhb=>dd (.inl ⟨?_,?_⟩))
   ·simp only[ew,ay]at hb;have xw:k<r.ak.length:=by omega
    have e1:r.ak[k]?=some r.ak[k]:=dr xw;rw[bB e1,af,D2,af,inc xw (by omega)]
    cases hs:q8 x r.ak[k]with
    |none =>
     simp only;rw[bk (by simp only[Yj,uA];left;split <;> omega)]
     exact dd (.inr ⟨rfl,Yp e1 (by rw[hs];rfl)⟩)
    |some s =>
     simp only;have hp:0<=s.place:=by
      unfold q8 at hs;split at hs
      ·cases hs
      ·split at hs
       ·rename_i h0;cases hs;exact h0
       ·cases hs
     rw[aR (by simp only[Ja,vu,eC];exact⟨trivial,hp⟩)]
     refine bY (eV (by simp;omega)) (cZ ⟨⟨k+1,by omega,?_,λi v hi hv=>?_⟩,by simp;omega⟩)
     ·rw[Qdp,e1,Qh0];simp [hs]
     ·rcases sh i k with h|h
      ·exact hS i v h hv
      ·obtain rfl:i=k:=by omega
       rw[e1]at hv;cases hv;rw[hs];rfl
   ·simp only[eC,ay]at hb;rw[QeR (by omega)];rfl
   ·simp only[eC,ay]at hb;rw[Qc8];intro v hv;obtain⟨i,hi⟩:=QhO hv;exact hS i v (by have:=(pB.1 hi).1;omega) hi
  ·rintro e (⟨rfl,h⟩|⟨rfl,h⟩)
   ·rw[c5,h];exact aI.2 rfl
   ·rw[iJ,h];exact aI.2 rfl
 ·have h':XF x r=false:=by simpa using h
  rw[h',Qlo,dT,Qln];rfl
theorem yK(h:ub x r=true):XF x r=true:=by unfold ub at h;exact(Ae.1 h).1
theorem tN:(aU x r).length=r.ak.length:=by simp [aU]
theorem TH(h:ub x r=true){i:Nat}{s:aS}(hs:(aU x r)[i]?=some s):∃v,r.ak[i]?=some v/\q8 x v=some s:=by
 unfold aU at hs;rw[Qc0]at hs;cases hv:r.ak[i]? with
 |none=>rw[hv]at hs;cases hs
 |some v =>
  rw[hv]at hs;have h2:=Qc8.1 (Ae.1 h).2 v (QaG hv);obtain⟨s',fK⟩:=Qls.1 h2;refine⟨v,rfl,?_⟩;simp only[Qjl,fK,QbG]at hs;rw[<-hs];exact fK
end
theorem AK{n:aC}(h:Ef n){aJ a b t:Int}(ht:QW t)(h0:(goN n aJ a b t).2.2=0):t<=(goN n aJ a b t).1/\(goN n aJ a b t).1<=t+73728/\0<=(goN n aJ a b t).2.1/\(goN n aJ a b t).2.1<=10000:=by
 unfold goN at h0 ⊢;split at h0
 ·rename_i h1;rw[if_pos h1];split at h0
  ·rename_i h2;rw[if_pos h2];exact⟨QaJ _,by simp only;omega,by simp,by simp⟩
  ·rename_i h2;rw[if_neg h2];split at h0
   ·rename_i h3;rw[if_pos h3];have ha:=h.all _ (O3 h3).1;exact⟨QjP ha t,QjQ ha ht.1,ha.Ge,ha.sR⟩
   ·simp at h0
 ·simp at h0
structure Tr (s:aS):Prop where
 VF:0<=s.bA
 Ti:s.bA<=s.bI
 bI:s.bI<=4096
 QE:0<=s.dG
 VU:s.dG<=4096
def YQ(t:av):aS:=aS.mk t.eI 0 t.bI 0
section
variable (n : aC) (t : av) (aA : List aS)
def jy:Nat->Int
 |0=>t.aY
 |k+1=>(aA.getD k Lv).place
def c9(k:Nat):aS:=aA.getD k (YQ t)
def patch(ts:List a6)(i:Nat)(dep:Int)(rest:Bool):List a6:=match ts[i]? with
 |some m=>ts.set i (a6.mk m.iA m.te dep rest)
 |none=>ts
def im(l:aj)(rest:Bool):Int:=l.ready+(if rest=true then t.bJ else 0)
def sr(l:aj)(rest:Bool):Int:=if rest=true then 0 else l.cz
def sY(l:aj)(k:Nat)(dep:Int)(rest:Bool):List a6:=if k=0 then l.ct.gK else patch l.ct.gK (k-1) dep rest
def shS(l:aj)(k:Nat)(rest:Bool)(dep:Int)(g:Int×Int×Int):a8:=
 a8.mk (if k=0 then rest else l.ct.bJ) (if k=0 then dep else l.ct.cW)
  (if k<aA.length then sY l k dep rest++[a6.mk g.1 (max g.1 (c9 t aA k).bA) 0 false]else sY l k dep rest)
  (if k<aA.length then l.ct.j8 else g.1) (l.ct.cV+g.2.1)
def ZF(l:aj)(k:Nat)(rest:Bool)(dep sn:Int):aj×Int:=
 if(goN n t.aJ (jy t aA k) (c9 t aA k).place dep).2.2≠0 then(X_,12)
 else if(c9 t aA k).bI<(goN n t.aJ (jy t aA k) (c9 t aA k).place dep).1 then(X_,if k<aA.length then 14 else 15)
 else if t.eu<sn+(goN n t.aJ (jy t aA k) (c9 t aA k).place dep).1-dep then(X_,16)
 else(aj.mk (max (goN n t.aJ (jy t aA k) (c9 t aA k).place dep).1 (c9 t aA k).bA+(c9 t aA k).dG) (sn+(goN n t.aJ (jy t aA k) (c9 t aA k).place dep).1-dep)
  (shS t aA l k rest dep (goN n t.aJ (jy t aA k) (c9 t aA k).place dep)),0)
def AG(l:aj)(k:Nat)(rest:Bool):aj×Int:=ZF n t aA l k rest (im t l rest) (sr l rest)
end
structure Fk (k:Nat) (l:aj):Prop where
 Qca:0<=l.ready
 Qcb:l.ready<=8192
 XV:0<=l.cz
 Qct:l.cz<=4096
 Ge:0<=l.ct.cV
 sR:l.ct.cV<=10000*k
 gK:l.ct.gK.length=k
structure ou (n:aC) (t:av) (aA:List aS):Prop where
 bV:Ef n
 pL:0<=t.bA/\t.bA<=t.bI
 bI:t.bI<=4096
 eu:1<=t.eu/\t.eu<=4096
 rest:0<=t.bJ/\t.bJ<=4096
 rr:aA.length<=20
 aA:∀s∈aA,Tr s
theorem PX{x:ae}{r:aD}(hx:dn x)(h:ub x r=true):ou x.bV (bG x r) (aU x r):=by
 have hT:=hx.Ed _ (X4 (yK h)).2;refine⟨hx.bV,hT.pL,hT.bI,hT.eu,hT.rest,by rw[tN];exact(QbF (yK h)).2.2.2.2,λs hs=>?_⟩
 obtain⟨i,hi⟩:=QhO hs;obtain⟨v,_,hv⟩:=TH h hi;have:=TG hx hv;exact⟨this.2.2.1,this.2.2.2.1,this.2.2.2.2.1,this.2.2.2.2.2.1,this.2.2.2.2.2.2⟩
section
variable {n : aC} {t : av} {aA : List aS} {l : aj} {k : Nat} {rest : Bool} {dep sn : Int}
theorem ou.c9(h:ou n t aA)(k:Nat):Tr (c9 t aA k):=by
 unfold Go.Proofs.YtkcilfpbgjjjbaaGreatDoor.c9;rw[Qbo];cases hs:aA[k]? with
 |some s=>exact h.aA s (QaG hs)
 |none=>exact⟨QaJ _,by have:=h.pL;show 0<=t.bI;omega,h.bI,QaJ _,by show(0:Int)<=4096;omega⟩
theorem Ou(h:k<aA.length):aA[k]?=some (c9 t aA k):=by
 unfold c9;rw[Qbo,dr h];rfl
theorem zY(h:¬k<aA.length):c9 t aA k=YQ t:=by
 unfold c9;rw[Qbo,Qbp (by omega)];rfl
theorem Qfv{ts:List a6}{i:Nat}:(patch ts i dep rest).length=ts.length:=by unfold patch;split <;> simp
theorem wX:(sY l k dep rest).length=l.ct.gK.length:=by unfold sY;split;rfl;exact Qfv
theorem Qg4{ts:List a6}(h:ts.length<=1000):eP ts=some ts:=by
 unfold eP;rw[eU (eV (by omega))]
 cases ts with
 |nil=>exact QgI
 |cons a r=>rfl
theorem Qlh{p:bu}(hp:p.t.eu<=4096){Lr:Bool}{T9:Int}{g:Int×Int×Int}{ts:List a6}{ready fin:Int}(hd:0<=dep/\dep<=20000)(hs:0<=sn/\sn<=4096)(hg:dep<=g.1/\g.1<=dep+73728/\0<=g.2.1/\g.2.1<=10000)
  (hm:0<=l.ct.cV/\l.ct.cV<=1000000):lM p l dep sn Lr T9 g ts ready fin=some (if p.t.eu<sn+g.1-dep then(X_,16)else(aj.mk ready (sn+g.1-dep) (a8.mk Lr T9 ts fin (l.ct.cV+g.2.1)),0)):=by
 unfold lM;simp(disch:=omega) only[dZ,nd,GJ,oH];split <;> rfl
theorem Qlg{p:bu}(h:ou p.x.bV p.t p.aA)(hl:Fk k l)(hk:k<=p.aA.length)(hd:0<=dep/\dep<=20000)(hs:0<=sn/\sn<=4096):lJ p l k rest dep sn=some (ZF p.x.bV p.t p.aA l k rest dep sn):=by
 have Qpx:=h.rr;have hlen:=hl.gK;have hm0:=hl.Ge;have hm1:=hl.sR;have qc:QW dep:=⟨hd.1,by omega⟩
 have hSO:=h.c9 k
 -- J3,Qjc is written Qxq TJ ct
 have h3:∀(Lr:Bool) (T9:Int) (ts:List a6),ts.length=k->
   jC p l k dep sn ts Lr T9 (c9 p.t p.aA k).place=some
    (if(goN p.x.bV p.t.aJ (jy p.t p.aA k) (c9 p.t p.aA k).place dep).2.2≠0 then(X_,12)
    else if(c9 p.t p.aA k).bI<(goN p.x.bV p.t.aJ (jy p.t p.aA k) (c9 p.t p.aA k).place dep).1 then(X_,if k<p.aA.length then 14 else 15)
    else if p.t.eu<sn+(goN p.x.bV p.t.aJ (jy p.t p.aA k) (c9 p.t p.aA k).place dep).1-dep then(X_,16)
    else(aj.mk (max (goN p.x.bV p.t.aJ (jy p.t p.aA k) (c9 p.t p.aA k).place dep).1 (c9 p.t p.aA k).bA+(c9 p.t p.aA k).dG) (sn+(goN p.x.bV p.t.aJ (jy p.t p.aA k) (c9 p.t p.aA k).place dep).1-dep)
     (a8.mk Lr T9 (if k<p.aA.length then ts++[a6.mk (goN p.x.bV p.t.aJ (jy p.t p.aA k) (c9 p.t p.aA k).place dep).1 (max (goN p.x.bV p.t.aJ (jy p.t p.aA k) (c9 p.t p.aA k).place dep).1 (c9 p.t p.aA k).bA) 0 false] else ts)
      (if k<p.aA.length then l.ct.j8 else(goN p.x.bV p.t.aJ (jy p.t p.aA k) (c9 p.t p.aA k).place dep).1) (l.ct.cV+(goN p.x.bV p.t.aJ (jy p.t p.aA k) (c9 p.t p.aA k).place dep).2.1)),0)):=by
  intro Lr T9 ts hts;unfold jC;have QbE:o5 p (k:Int)=some (jy p.t p.aA k):=by
   unfold o5 jy;cases k with
   |zero=>rfl
   |succ j =>
    have e1:p.aA[j]?=some (p.aA[j]'(by omega)):=dr _
    rw[aR (by simp;omega),show cX .i64 ((j+1:Nat):Int) 1=(j:Int) by rw[nd (by omega) (by omega)];omega,bB e1,af]
    simp only[Qbo,e1];rfl
  show aQ (o5 p (k:Int)) (λr1=>aQ (uB p.x.bV p.t.aJ r1 (c9 p.t p.aA k).place dep) _)=_
  rw[QbE,af,go_eq h.bV _ _ _ qc,af];generalize hg:goN p.x.bV p.t.aJ (jy p.t p.aA k) (c9 p.t p.aA k).place dep=g;have AW:g.2.2=0->dep<=g.1/\g.1<=dep+73728/\0<=g.2.1/\g.2.1<=10000:=λh0=>by
   have:=AK h.bV (aJ:=p.t.aJ) (a:=jy p.t p.aA k) (b:=(c9 p.t p.aA k).place) qc (by rw[hg];exact h0)
   rwa [hg]at this
  by_cases h0:g.2.2=0
  ·rw[aR (by simpa using h0),if_neg (by simpa using h0)]
   have hb:=AW h0;by_cases WU:k<p.aA.length
   ·have e1:=Ou (t:=p.t) WU;rw[aR (by simp [ay];omega),bB e1,af]
    generalize c9 p.t p.aA k=s at *;simp only[if_pos WU];unfold vg;rw[z7];by_cases hw:s.bI<g.1
    ·rw[bk (by have:=hSO.Ti;simp;omega),af,bk (by decide),if_pos hw];rfl
    ·have:=hSO.Ti;have:=hSO.bI;have:=hSO.QE;have:=hSO.VU;have:=hSO.VF;rw[aR (by simp;omega),af,aR (by simp [cp]),eU (eV (by simp;omega)),if_neg hw,Qlh (by have:=h.eu;omega) hd hs hb ⟨hm0,by omega⟩]
     rw[dZ (by omega) (by omega)]
   ·have e1:=zY (t:=p.t) WU;rw[e1]at hSO hg ⊢;rw[bk (by simp [ay];omega)]
    simp only[if_neg WU];by_cases hw:p.t.bI<g.1
    ·rw[bk (by simpa using hw),if_pos (show(YQ p.t).bI<g.1 from hw)];rfl
    ·rw[aR (by simpa using hw),if_neg (show ¬(YQ p.t).bI<g.1 from hw),Qlh (by have:=h.eu;omega) hd hs hb ⟨hm0,by omega⟩]
     have e2:max g.1 (YQ p.t).bA+(YQ p.t).dG=g.1:=by show max g.1 0+0=g.1;omega
     rw[e2]
  ·rw[bk (by simpa using h0),if_pos h0];rfl
 have h2:∀(Lr:Bool) (T9:Int) (ts:List a6),ts.length=k->
   lK p l k dep sn ts Lr T9=jC p l k dep sn ts Lr T9 (c9 p.t p.aA k).place:=by
  intro Lr T9 ts hts;unfold lK;by_cases WU:k<p.aA.length
  ·rw[aR (by simp [ay];omega),bB (Ou (t:=p.t) WU),af]
  ·rw[bk (by simp [ay];omega),zY WU];rfl
 unfold lJ;rw[Qg4 (by omega),af]
 unfold ZF shS;cases k with
 |zero =>
  rw[bk (by simp),h2 _ _ _ hlen,h3 _ _ _ hlen]
  rfl
 |succ j =>
  have e1:l.ct.gK[j]?=some (l.ct.gK[j]'(by omega)):=dr _
  have Ud:cX .i64 ((j+1:Nat):Int) 1=(j:Int):=by rw[nd (by omega) (by omega)];omega
  rw[aR (by simp;omega),Ud,bB e1,af,h2 _ _ _ (by simp [jq];exact hlen),h3 _ _ _ (by simp [jq];exact hlen)]
  have e2:jq (jq l.ct.gK (j:Int) (a6.mk (l.ct.gK[j]'(by omega)).iA (l.ct.gK[j]'(by omega)).te (l.ct.gK[j]'(by omega)).cW rest)) (j:Int) (a6.mk (l.ct.gK[j]'(by omega)).iA (l.ct.gK[j]'(by omega)).te dep rest)=sY l (j+1) dep rest:=by
   unfold sY patch jq;rw[if_neg (by omega),Qjg,e1,QaC,List.set_set]
  rw[e2];rfl
theorem QdM{p:bu}(h:ou p.x.bV p.t p.aA)(hl:Fk k l)(hk:k<=p.aA.length):ll p l k rest=some (AG p.x.bV p.t p.aA l k rest):=by
 have h1:=hl.Qca;have h2:=hl.Qcb;have h3:=h.rest;have h4:=hl.XV;have h5:=hl.Qct;unfold ll AG im sr;cases rest with
 |true =>
  rw[dT,dZ (by omega) (by omega),Qlg h hl hk ⟨by omega,by omega⟩ ⟨by omega,by omega⟩];rfl
 |false =>
  rw[dX,Qlg h hl hk ⟨by omega,by omega⟩ ⟨by omega,by omega⟩]
  simp
theorem Cp(h:ou n t aA)(hl:Fk k l)(h0:(AG n t aA l k rest).2=0):
  (goN n t.aJ (jy t aA k) (c9 t aA k).place (im t l rest)).2.2=0/\(goN n t.aJ (jy t aA k) (c9 t aA k).place (im t l rest)).1<=(c9 t aA k).bI/\
  sr l rest+(goN n t.aJ (jy t aA k) (c9 t aA k).place (im t l rest)).1-im t l rest<=t.eu/\
  (AG n t aA l k rest).1=aj.mk (max (goN n t.aJ (jy t aA k) (c9 t aA k).place (im t l rest)).1 (c9 t aA k).bA+(c9 t aA k).dG) (sr l rest+(goN n t.aJ (jy t aA k) (c9 t aA k).place (im t l rest)).1-im t l rest)
   (shS t aA l k rest (im t l rest) (goN n t.aJ (jy t aA k) (c9 t aA k).place (im t l rest))):=by
 unfold AG ZF at h0 ⊢;split at h0
 ·simp at h0
 ·rename_i h1;split at h0
  ·simp only at h0;split at h0 <;> simp at h0
  ·rename_i h2;split at h0
   ·simp at h0
   ·rename_i h3;rw[if_neg h1,if_neg h2,if_neg h3];exact⟨by simpa using h1,by omega,by omega,rfl⟩
theorem OS(h:ou n t aA)(hl:Fk k l):QW (im t l rest):=by
 have h1:=hl.Qca;have h2:=hl.Qcb;have h3:=h.rest;unfold im QW;split <;> omega
theorem NJ(h:ou n t aA)(hl:Fk k l)(hk:k<aA.length)(h0:(AG n t aA l k rest).2=0):Fk (k+1) (AG n t aA l k rest).1:=by
 obtain⟨g0,g1,g2,g3⟩:=Cp h hl h0;have qc:=OS (rest:=rest) h hl;have hb:=AK h.bV qc g0;have hS:=h.c9 k;have:=hS.VF;have:=hS.Ti;have:=hS.bI;have:=hS.QE;have:=hS.VU;have hd:=h.eu;have hm0:=hl.Ge;have hm1:=hl.sR;have hsn:0<=sr l rest:=by unfold sr;split;omega;exact hl.XV
 unfold QW at qc;rw[g3];refine⟨by simp only;omega,by simp only;omega,by simp only;omega,by simp only;omega,?_,?_,?_⟩
 ·show 0<=l.ct.cV+_;omega
 ·show l.ct.cV+_<=_;rw[Qjo,QdY];omega
 ·show(if k<aA.length then _ else _:List a6).length=_
  rw[if_pos hk,Qay,wX,hl.gK];rfl
end
end Go.Proofs.YtkcilfpbgjjjbaaGreatDoor
