/- Part MP. -/
import Derived.Test.YtkcilfpbgjjjbaaGreatDoorMT
import Derived.KernelRfl
set_option linter.unusedSimpArgs false
set_option linter.unusedVariables false
set_option linter.unusedSectionVars false
namespace Go.Proofs.YtkcilfpbgjjjbaaGreatDoor
section
variable {α : Type}
theorem V4{B:List α × Int→Option ((List α × Int) ⊕(List α))}(n c:Nat)(P:Nat→Prop)(init:List α)(hn:n < 18446744073709551615)
    (step: ∀(i:Nat) (out:List α),i < n→out.length≤init.length + c * i→post (B (out,(i:Int))) fun x => ∃new,x = .inl (out ++ new,(i:Int) + 1)∧new.length≤c∧(new = []↔P i))
    (fin: ∀out,B (out,(n:Int)) = some (.inr out)):post (aL B (init,0)) fun r => r.length≤init.length + c * n∧(r = []↔init = []∧∀i,i < n→P i):= by
  refine eJ (fun s => ∃i:Nat,s.2 =(i:Int)∧i≤n∧s.1.length≤init.length + c * i∧(s.1 = []↔init = []∧∀k,k < i→P k)) (fun s => n - s.2.toNat)
    ⟨0,rfl,Nat.zero_le _,by simp,by simp⟩ (by simp;omega) ?_
  rintro⟨out,j⟩ ⟨i,hj,hi,hl,he⟩;simp only at hj hl he;subst hj;by_cases h:i < n
  · refine(step i out h hl).mono ?_
    rintro x ⟨new,rfl,h1,h2⟩;refine⟨fun s' hs => ?_,fun _ h => by cases h⟩
    cases hs;refine⟨⟨i + 1,by simp,by omega,by simp [Nat.mul_add];omega, ?_⟩,by simp;omega⟩
    simp only[List.append_eq_nil_iff,he,h2];constructor
    · rintro⟨⟨h3,h4⟩,h5⟩
      exact ⟨h3, fun k hk => by rcases Nat.lt_or_ge k i with h | h; exact h4 k h; obtain rfl : k = i := by omega
                                exact h5⟩
    · rintro⟨h3,h4⟩;exact⟨⟨h3,fun k hk => h4 k (by omega)⟩,h4 i (by omega)⟩
  · obtain rfl:i = n:= by omega
    rw[fin];exact b5 ⟨hl,he⟩
end
theorem dt{n b:Nat}(h:n*b≤140737488355328):eO n b:=h
theorem orT{a b:Bool}:(a||b)=true↔a=true∨b=true:=Bool.or_eq_true_iff ..
theorem PW{a b:Bool}:(a||b)=false↔a=false∧b=false:=Bool.or_eq_false_iff
theorem Ih{a b:Bool}:(a&&b)=true↔a=true∧b=true:=Bool.and_eq_true_iff
theorem Qea{a b:Bool}:(a&&b)=false↔a=false∨b=false:=Bool.and_eq_false_iff
theorem ntT{a:Bool}:(!a)=true↔a=false:=by cases a <;> simp
theorem ntF{a:Bool}:(!a)=false↔a=true:=by cases a <;> simp
theorem uq(l:List Int):(xf l).size=l.length:=by simp [xf,ByteArray.size]
theorem WC(a:Int):(a.tdiv 10).natAbs=a.natAbs / 10:=by rw[Int.natAbs_tdiv];rfl
theorem QgF{a:Int}(h:a.natAbs≤9223372036854775808):so .i64 a 10=a.tdiv 10:=by
 have:=WC a;exact Qfk (by omega) (by omega)
def x9(n:Int):Prop:=-9223372036854775808≤n∧n≤9223372036854775807
theorem RM{n left d:Int}{s:ByteArray}{k:Nat}(hl:left.natAbs≤9223372036854775808)(h1:left.natAbs<10 ^ k)(h2:s.size+k≤20)(hk:1≤k):
  post (ij n s left d) fun x=>(∀s',x=.inl s'→(∃k:Nat,s'.2.1.natAbs≤9223372036854775808∧s'.2.1.natAbs<10 ^ k∧s'.1.size+k≤20∧(s'.2.2=true→1≤k∧s'.2.1≠0))∧s'.2.1.natAbs+(if s'.2.2 then 1 else 0)<left.natAbs+1)∧∀e,x=.inr e→e.size≤20:=by
 unfold ij;have hq:=QgF hl;have ha:=WC left;refine bW (by rw[uq];simp;omega) (bZ ?_)
 simp only[hq];obtain⟨k,rfl⟩:∃j,k=j+1:=⟨k-1,by omega⟩
 have hs:(dC (xf [Ax IntKind.u8 (aU IntKind.i64 48 d)]) s).size=1+s.size:=by unfold dC;rw[ByteArray.size_append,uq];rfl
 refine⟨⟨k,by omega,by rw[ha];rw[Nat.pow_succ]at h1;omega,by rw[hs];omega,fun h=>?_⟩,?_⟩
 ·simp only[xb]at h;refine⟨?_,h⟩;rcases Nat.eq_zero_or_pos k with rfl|h'
  ·exfalso;apply h;have:(left.tdiv 10).natAbs=0:=by rw[ha];simp at h1;omega
   omega
  ·exact h'
 ·cases hb:cr (left.tdiv 10) 0 with
  |true =>
   simp only[xb]at hb;simp only[if_true];have:(left.tdiv 10).natAbs≠0:=by omega
   omega
  |false=>simp only[Bool.false_eq_true,if_false];omega
theorem uP(n:Int)(hn:x9 n):post (eE n) fun s=>s.size≤21:=by
 unfold x9 at hn;refine ba (R:=fun s=>s.size≤20) ?_ fun s hs=>?_
 ·refine eJ (fun s=>∃k:Nat,s.2.1.natAbs≤9223372036854775808∧s.2.1.natAbs<10 ^ k∧s.1.size+k≤20∧(s.2.2=true→1≤k∧(s.2.1=0→True))) (fun s=>s.2.1.natAbs+(if s.2.2 then 1 else 0)) ⟨19,by simp only;omega,by simp only;omega,by simp [ByteArray.size_empty],by simp⟩ (by simp only;split <;> omega) ?_
  rintro⟨s,left,again⟩ ⟨k,h0,h1,h2,h3⟩;simp only at h0 h1 h2 h3;cases again with
  |false=>exact b5 (show s.size≤20 by omega)
  |true =>
   refine post.mono (Q:=fun x=>(∀s',x=.inl s'→(∃k:Nat,s'.2.1.natAbs≤9223372036854775808∧s'.2.1.natAbs<10 ^ k∧s'.1.size+k≤20∧(s'.2.2=true→1≤k∧s'.2.1≠0))∧s'.2.1.natAbs+(if s'.2.2 then 1 else 0)<left.natAbs+1)∧∀e,x=.inr e→e.size≤20) ?_ ?_
   ·show post (br true (br (bh (uJ left 10) 0) _ _) _) _;rw[fW];exact a_ (fun _=>RM h0 h1 h2 (h3 rfl).1) (fun _=>RM h0 h1 h2 (h3 rfl).1)
   ·rintro x ⟨g1,g2⟩;refine⟨fun s' hs=>?_,g2⟩
    obtain⟨⟨k',q1,q2,q3,q4⟩,q5⟩:=g1 s' hs;exact⟨⟨k',q1,q2,q3,fun h=>⟨(q4 h).1,fun _=>trivial⟩⟩,q5⟩
 ·refine a_ (fun _=>bW ?_ (aP.2 ?_)) (fun _=>aP.2 (by omega))
  ·show 1+s.size≤_;omega
  ·unfold dC;rw[ByteArray.size_append];show 1+s.size≤_;omega
theorem KA{k:Nat}(h:k<4294967296):x9 (k:Int):=by unfold x9;omega
abbrev Pt:=aI
def Ye(p:Pt):Prop:=0≤p.t∧p.t≤4096∧p.t≤p.a∧p.a≤p.t+4096
def okP(l:List Pt)(i:Nat):Prop:=∀p,l[i]?=some p→Ye p∧(0<i→∀q,l[i-1]?=some q→q.t<p.t∧q.a≤p.a)
structure rT (l:List Pt):Prop where
 pos:1≤l.length
 zY:l.length≤16
 all:∀i,i<l.length→okP l i
def ptI(p:Pt):Prop:=x9 p.t∧x9 p.a
theorem V8{l:List Pt}{i:Nat}{x0:Pt}{out new:List aa}(hx:l[i]?=some x0)(hi:i<2000000)(hlen:l.length<2000000)(ho:out.length≤1+2*i)(hn:new.length≤1)(hw:new=[]↔Ye x0):
  post (jy l (i:Int) x0 (out++new)) fun x=>∃new,x=.inl (out++new,(i:Int)+1)∧new.length≤2∧(new=[]↔okP l i):=by
 have AE:aU .i64 (i:Int) 1=(i:Int)+1:=fp (by omega) (by omega)
 unfold jy;have Qmx:∀f:aa,eO (out++new++[f]).length 24:=fun f=>dt (by simp;omega)
 have Qgq:(0<i→∀q,l[i-1]?=some q→q.t<x0.t∧q.a≤x0.a)→post (some (Sum.inl (out++new,aU .i64 (i:Int) 1):(List aa×Int)⊕List aa)) fun x=>∃new,x=.inl (out++new,(i:Int)+1)∧new.length≤2∧(new=[]↔okP l i):=by
  intro hq;rw[AE];refine⟨_,rfl,new,rfl,by omega,?_⟩
  rw[hw];exact⟨fun h p hp=>by rw[hx]at hp;cases hp;exact⟨h,hq⟩,fun h=>(h x0 hx).1⟩
 have Qgp:∀r:ByteArray,(∃q,0<i∧l[i-1]?=some q∧¬(q.t<x0.t∧q.a≤x0.a))→post (ef (eO (out++new++[aa.mk 13 r]).length 24) (some (Sum.inl (out++new++[aa.mk 13 r],aU .i64 (i:Int) 1):(List aa×Int)⊕List aa))) fun x=>∃new,x=.inl (out++new,(i:Int)+1)∧new.length≤2∧(new=[]↔okP l i):=by
  rintro r ⟨q,h0,h1,h2⟩;refine bW (Qmx _) ?_
  rw[AE];refine⟨_,rfl,new++[_],by rw[List.append_assoc],by simp;omega,?_⟩
  constructor
  ·intro h;simp at h
  ·intro h;exact absurd ((h x0 hx).2 h0 q h1) h2
 refine a_ (fun h=>?_) (fun h=>Qgq fun h0=>by simp at h;omega)
 simp only[w4]at h;have h1:dd .i64 (i:Int) 1=((i-1:Nat):Int):=by rw[wT (by omega) (by omega)];omega
 have hx1:l[i-1]?=some (l[i-1]'(by have:=(List.getElem?_eq_some_iff.1 hx).1;omega)):=List.getElem?_eq_getElem _
 rw[h1,bC hx1,ak];have hd:=uP (i:Int) (KA (by omega))
 refine a_ (fun h2=>ba hd fun r _=>Qgp r ⟨_,by omega,hx1,fun hh=>?_⟩) (fun h2=>a_ (fun h3=>ba hd fun r _=>Qgp r ⟨_,by omega,hx1,fun hh=>?_⟩) (fun h3=>Qgq fun _ q hq=>?_))
 ·simp only[yS]at h2;omega
 ·simp only[js]at h3;omega
 ·rw[hx1]at hq;cases hq;simp only[VH]at h2;simp only[jY]at h3;omega
theorem Qgv{x0:Pt}(hI:ptI x0):((((bh x0.t 0)||(dp x0.t 4096))||(bh x0.a x0.t))||(dp x0.a (aU .i64 x0.t 4096)))=false↔Ye x0:=by
 obtain⟨h1,h2⟩:=hI;unfold x9 at h1 h2;simp only[PW,jY,pL];unfold Ye;constructor
 ·rintro⟨⟨⟨a,b⟩,c⟩,d⟩;rw[fp (by omega) (by omega)]at d
  omega
 ·rintro⟨a,b,c,d⟩;rw[fp (by omega) (by omega)]
  omega
theorem CT{l:List Pt}(hlen:l.length≤1048576)(hI:∀p∈l,ptI p):post (kB l) fun r=>r.length≤1+2*l.length∧(r=[]↔rT l):=by
 have main:∀init:List aa,init.length≤1→post (lY l init) fun r=>r.length≤init.length+2*l.length∧(r=[]↔init=[]∧∀i,i<l.length→okP l i):=by
  intro init pq;refine ba ?_ fun a h=>aP.2 h
  refine V4 l.length 2 (okP l) init (by omega) (fun i out hi ho=>?_) (fun out=>?_)
  ·have hx:=Ir hi;have By:l[i]?=some l[i]:=List.getElem?_eq_getElem hi;show post (jz l out (i:Int)) _;unfold jz;rw[bD (by simp [az];exact hi),hx,ak]
   have hp:=hI l[i] (List.getElem_mem hi);refine a_ (fun h=>ba (uP (i:Int) (KA (by omega))) fun r _=>bW (dt (by simp;omega)) (V8 (new:=[_]) By (by omega) (by omega) (by omega) (by simp) (Iff.intro (fun h=>by cases h) (fun h'=>?_)))) (fun h=>?_)
   ·rw[(Qgv hp).2 h']at h;cases h
   ·have:=V8 (out:=out) (new:=[]) By (by omega) (by omega) (by omega) (by simp) ⟨fun _=>(Qgv hp).1 h,fun _=>rfl⟩
    rwa [List.append_nil]at this
  ·unfold jz;rw[bq (by simp [az])]
 unfold kB;refine a_ (fun h=>bW (dt (by simp)) ((main _ (by simp)).mono ?_)) (fun h=>(main _ (by simp)).mono ?_)
 ·rintro r ⟨h1,h2⟩;refine⟨by simpa using h1,?_⟩
  rw[h2];simp only[orT,js,w4,az]at h;exact⟨fun h=>by(cases h.1),fun h'=>by have:=h'.pos;have:=h'.zY;omega⟩
 ·rintro r ⟨h1,h2⟩;refine⟨by simp at h1 ⊢;omega,?_⟩
  rw[h2];simp only[PW,jY,pL,az]at h;exact⟨fun h'=>⟨by omega,by omega,h'.2⟩,fun h'=>⟨rfl,h'.all⟩⟩
def seg(p q:Pt)(t:Int):Int:=p.a+((t-p.t)*(q.a-p.a)+(q.t-p.t)-1) / (q.t-p.t)
def zx:List Pt→Int→Int
 | [],_=>0
 | [p],t=>t+p.a-p.t
 |p ::q ::r,t=>if t<q.t then(if t<p.t then t+p.a-p.t else seg p q t)else zx (q ::r) t
def UG:List Pt→Prop
 | []=>True
 | [p]=>Ye p
 |p ::q ::r=>Ye p∧p.t<q.t∧p.a≤q.a∧UG (q ::r)
theorem Qdo:∀{l:List Pt},(∀i,i<l.length→okP l i)→UG l
 | [],_=>trivial
 | [p],h=>(h 0 (by simp) p rfl).1
 |p ::q ::r,h=>by
  have h0:=h 0 (by simp) p rfl
  have h1:=(h 1 (by simp) q rfl).2 (by omega) p rfl
  refine⟨h0.1,h1.1,h1.2,Qdo fun i hi x hx=>?_⟩
  have h2:=h (i+1) (by simpa using hi) x hx
  refine⟨h2.1,fun h3 y hy=>h2.2 (by omega) y ?_⟩
  obtain⟨j,rfl⟩:∃j,i=j+1:=⟨i-1,by omega⟩
  exact hy
theorem rT.Ru{l:List Pt}(h:rT l):UG l:=Qdo h.all
theorem UG.TV:∀{l:List Pt},UG l→∀{i:Nat} {p:Pt},l[i]?=some p→Ye p
 | [],_,_,_,h=>by simp at h
 | [p],h,0,x,hx=>by cases hx;exact h
 | [p],h,i+1,x,hx=>by simp at hx
 |p ::q ::r,h,0,x,hx=>by cases hx;exact h.1
 |p ::q ::r,h,i+1,x,hx=>UG.TV (l:=q ::r) h.2.2.2 hx
theorem UG.pair:∀{l:List Pt},UG l→∀{i:Nat} {p q:Pt},l[i]?=some p→l[i+1]?=some q→p.t<q.t∧p.a≤q.a
 | [],_,_,_,_,h,_=>by simp at h
 | [p],h,i,x,y,_,hy=>by simp at hy
 |p ::q ::r,h,0,x,y,hx,hy=>by cases hx;cases hy;exact⟨h.2.1,h.2.2.1⟩
 |p ::q ::r,h,i+1,x,y,hx,hy=>UG.pair (l:=q ::r) h.2.2.2 hx hy
theorem UG.lt{l:List Pt}(h:UG l){i:Nat}:∀{j:Nat},i<j→∀{p q:Pt},l[i]?=some p→l[j]?=some q→p.t<q.t
 |j+1,QX,p,q,hp,hq=>by
  rcases Nat.lt_or_ge i j with h'|h'
  ·have hj:l[j]?=some (l[j]'(by have:=(List.getElem?_eq_some_iff.1 hq).1;omega)):=List.getElem?_eq_getElem _
   have:=h.lt h' hp hj;have:=(h.pair hj hq).1;omega
  ·obtain rfl:i=j:=by omega
   exact(h.pair hp hq).1
theorem Wh{p q:Pt}(h:p.t<q.t):seg p q p.t=p.a:=by
 unfold seg;rw[Int.sub_self,Int.zero_mul,Int.ediv_eq_zero_of_lt (by omega) (by omega)];omega
theorem SC{p q:Pt}(h:p.t<q.t):seg p q q.t=q.a:=by
 unfold seg;rw[show(q.t-p.t)*(q.a-p.a)+(q.t-p.t)-1=(q.t-p.t-1)+(q.t-p.t)*(q.a-p.a) by omega,Int.add_mul_ediv_left _ _ (by omega),Int.ediv_eq_zero_of_lt (by omega) (by omega)];omega
theorem RF{p:Pt}{r:List Pt}(h:UG (p ::r)):zx (p ::r) p.t=p.a:=by
 cases r with
 |nil=>simp only[zx];omega
 |cons q r=>simp only[zx];rw[if_pos h.2.1,if_neg (by omega),Wh h.2.1]
theorem UO{p:Pt}{r:List Pt}(h:UG (p ::r)){t:Int}(ht:t≤p.t):zx (p ::r) t=t+p.a-p.t:=by
 by_cases he:t=p.t
 ·subst he;rw[RF h];omega
 ·cases r with
  |nil=>rfl
  |cons q r=>simp only[zx];have:=h.2.1;rw[if_pos (by omega),if_pos (by omega)]
theorem GP:∀{l:List Pt},UG l→∀{p:Pt},l[l.length-1]?=some p→∀{t:Int},p.t≤t→zx l t=t+p.a-p.t
 | [],_,_,hp,_,_=>by simp at hp
 | [x],_,p,hp,t,_=>by cases hp;rfl
 |x ::y ::r,h,p,hp,t,ht=>by
  have XR:(y ::r)[(y ::r).length-1]?=some p:=by simpa using hp
  have:y.t≤t:=by
   rcases Nat.eq_zero_or_pos r.length with h0|h0
   ·have:r=[]:=List.length_eq_zero_iff.1 h0;subst this;cases XR;exact ht
   ·have:=h.2.2.2.lt (i:=0) (j:=(y ::r).length-1) (by simp;omega) rfl XR
    omega
  simp only[zx];rw[if_neg (by omega)]
  exact GP h.2.2.2 XR ht
theorem JE:∀{l:List Pt},UG l→∀{j:Nat} {p q:Pt},l[j]?=some p→l[j+1]?=some q→∀{t:Int},p.t≤t→t≤q.t→zx l t=seg p q t
 | [],_,_,_,_,hp,_,_,_,_=>by simp at hp
 | [x],_,_,_,_,_,hq,_,_,_=>by simp at hq
 |x ::y ::r,h,0,p,q,hp,hq,t,h1,h2=>by
  cases hp;cases hq;simp only[zx];by_cases he:t<y.t
  ·rw[if_pos he,if_neg (by omega)]
  ·obtain rfl:t=y.t:=by omega
   rw[if_neg he,RF h.2.2.2,SC h.2.1]
 |x ::y ::r,h,j+1,p,q,hp,hq,t,h1,h2=>by
  have:y.t≤p.t:=by
   rcases Nat.eq_zero_or_pos j with rfl|h0
   ·cases hp;omega
   ·have:=h.2.2.2.lt (i:=0) (j:=j) h0 rfl hp;omega
  simp only[zx];rw[if_neg (by omega)]
  exact JE (l:=y ::r) h.2.2.2 hp hq h1 h2
theorem Qdl{p q:Pt}(h1:p.t<q.t)(h2:p.a≤q.a){t t':Int}(h:t≤t'):seg p q t≤seg p q t':=by
 unfold seg;have:=Int.mul_le_mul_of_nonneg_right (show t-p.t≤t'-p.t by omega) (show 0≤q.a-p.a by omega)
 have:=Int.ediv_le_ediv (show 0<q.t-p.t by omega) (show(t-p.t)*(q.a-p.a)+(q.t-p.t)-1≤(t'-p.t)*(q.a-p.a)+(q.t-p.t)-1 by omega)
 omega
theorem Qii{p q:Pt}(hp:p.t≤p.a)(hq:q.t≤q.a)(h1:p.t<q.t){t:Int}(h:p.t≤t)(h':t≤q.t):t≤seg p q t:=by
 unfold seg;have key:(t-p.a)*(q.t-p.t)≤(t-p.t)*(q.a-p.a):=by
  have e1:0≤(t-p.t)*(q.a-q.t):=Int.mul_nonneg (by omega) (by omega)
  have e2:0≤(q.t-t)*(p.a-p.t):=Int.mul_nonneg (by omega) (by omega)
  have e3:(t-p.t)*(q.a-p.a)-(t-p.a)*(q.t-p.t)=(t-p.t)*(q.a-q.t)+(q.t-t)*(p.a-p.t):=by
   simp only[Int.sub_mul,Int.mul_sub,Int.mul_comm];omega
  omega
 have:=(Int.le_ediv_iff_mul_le (show 0<q.t-p.t by omega)).2 (show(t-p.a)*(q.t-p.t)≤(t-p.t)*(q.a-p.a)+(q.t-p.t)-1 by omega)
 omega
theorem Oa:∀{l:List Pt},UG l→l≠[]→∀(t:Int),t≤zx l t
 | [],_,h,_=>absurd rfl h
 | [p],h,_,t=>by simp only[zx];have:=h.2.2.1;omega
 |p ::q ::r,h,_,t=>by
  have hq:Ye q:=h.2.2.2.TV (i:=0) rfl;have h1:=h.1.2.2.1;simp only[zx];by_cases h3:t<q.t
  ·rw[if_pos h3];by_cases h4:t<p.t
   ·rw[if_pos h4];omega
   ·rw[if_neg h4];exact Qii h1 hq.2.2.1 h.2.1 (by omega) (by omega)
  ·rw[if_neg h3];exact Oa h.2.2.2 (by simp) t
theorem Oc:∀{l:List Pt},UG l→∀{t:Int},0≤t→zx l t≤t+8192
 | [],_,t,h=>by simp only[zx];omega
 | [p],h,t,_=>by simp only[zx];have:=h.2.2.2;omega
 |p ::q ::r,h,t,h0=>by
  have hq:Ye q:=h.2.2.2.TV (i:=0) rfl;have h1:=h.1.2.2.2;simp only[zx];by_cases h3:t<q.t
  ·rw[if_pos h3];by_cases h4:t<p.t
   ·rw[if_pos h4];omega
   ·rw[if_neg h4];have:=Qdl h.2.1 h.2.2.1 (show t≤q.t by omega)
    rw[SC h.2.1]at this;have:=hq.2.2.2;have:=hq.2.1;omega
  ·rw[if_neg h3];exact Oc h.2.2.2 h0
def Ou(t:Int):Prop:=0≤t∧t≤1073741824
theorem ZM{p q:Pt}(h1:Ye p)(h2:Ye q)(h:p.t<q.t)(h':p.a≤q.a){t:Int}(a:p.t≤t)(b:t≤q.t):
  0≤(t-p.t)*(q.a-p.a)∧(t-p.t)*(q.a-p.a)≤33554432∧0≤((t-p.t)*(q.a-p.a)+(q.t-p.t)-1) / (q.t-p.t)∧((t-p.t)*(q.a-p.a)+(q.t-p.t)-1) / (q.t-p.t)≤33558528:=by
 unfold Ye at h1 h2;have e1:0≤(t-p.t)*(q.a-p.a):=Int.mul_nonneg (by omega) (by omega)
 have e2:(t-p.t)*(q.a-p.a)≤4096*8192:=Int.mul_le_mul (by omega) (by omega) (by omega) (by omega)
 have e3:0≤((t-p.t)*(q.a-p.a)+(q.t-p.t)-1) / (q.t-p.t):=Int.ediv_nonneg (by omega) (by omega)
 have e4:((t-p.t)*(q.a-p.a)+(q.t-p.t)-1) / (q.t-p.t)≤(t-p.t)*(q.a-p.a)+(q.t-p.t)-1:=Int.ediv_le_self _ (by omega)
 exact⟨e1,by omega,e3,by omega⟩
theorem rT.at{l:List Pt}(h:rT l){i:Nat}{p:Pt}(hp:l[i]?=some p):Ye p:=h.Ru.TV hp
theorem rT.bd{l:List Pt}(h:rT l){i:Nat}{p:Pt}(hp:l[i]?=some p):0≤p.t∧p.t≤4096∧p.t≤p.a∧p.a≤8192:=by
 have:=h.at hp;unfold Ye at this;omega
theorem rT.ptI{l:List Pt}(h:rT l):∀p∈l,ptI p:=fun p hp=>by
 obtain⟨i,hi⟩:=List.getElem?_of_mem hp;have:=h.bd hi;unfold Go.Proofs.YtkcilfpbgjjjbaaGreatDoor.ptI x9;omega
theorem QfA{a b:Int}(h:0≤a):a.tdiv b=a / b:=Int.tdiv_eq_ediv_of_nonneg h
theorem Qkw{a b:Int}(h:0≤a)(h':a≤9223372036854775807)(hb:0<b):so .i64 a b=a / b:=by
 have h1:0≤a / b:=Int.ediv_nonneg h (by omega)
 have h2:a / b≤a:=Int.ediv_le_self _ h;have h3:=QfA (b:=b) h;rw[Qfk (by rw[h3];omega) (by rw[h3];omega),h3]
theorem KL{l:List Pt}(h:rT l):kB l=some []:=by
 obtain⟨r,h1,h2,h3⟩:=CT (by have:=h.zY;omega) h.ptI
 rw[h1,h3.2 h]
theorem IU{l:List Pt}(h:rT l){t:Int}(ht:Ou t):vc l t=some (zx l t):=by
 apply post.eq;obtain⟨p0,r0,rfl⟩:∃p r,l=p ::r:=by
  cases l with
  |nil=>have:=h.pos;simp at this
  |cons p r=>exact⟨p,r,rfl⟩
 generalize hl:p0 ::r0=l at h;have h0:l[0]?=some p0:=by rw[←hl];rfl
 have XT:=h.pos;have Zg:=h.zY;have FE:l[l.length-1]?=some (l[l.length-1]'(by omega)):=List.getElem?_eq_getElem _
 unfold Ou at ht;unfold vc;rw[KL h,ak];refine a_ (fun hb=>?_) (fun _=>?_)
 ·simp only[orT,w4,js,QcU]at hb;omega
 refine ba (R:=fun e=>(∃u,e=.inl u∧∀p,l[l.length-1]?=some p→p.t≤t∨t<p0.t)∨e=.inr (zx l t)) ?_ ?_
 ·refine eJ (fun i=>∃k:Nat,i=(k:Int)∧k<l.length∧(∀p,l[k]?=some p→p.t≤t∨t<p0.t)) (fun i=>l.length-i.toNat) ⟨0,rfl,by omega,fun p hp=>by rw[h0]at hp;cases hp;omega⟩ (by simp;omega) ?_
  rintro _ ⟨k,rfl,hk,hC⟩;show post (sc l t (k:Int)) _;unfold sc;have AE:aU .i64 (k:Int) 1=((k+1:Nat):Int):=by rw[fp (by omega) (by omega)];omega
  rw[AE];refine a_ (fun hb=>?_) (fun hb=>b5 (.inl ⟨_,rfl,fun p hp=>hC p ?_⟩))
  rotate_left
  ·simp only[jY,az]at hb;rw[show k=l.length-1 by omega];exact hp
  simp only[js,az]at hb;have hk1:k+1<l.length:=by omega
  have e1:l[k]?=some l[k]:=List.getElem?_eq_getElem hk;have e2:l[k+1]?=some l[k+1]:=List.getElem?_eq_getElem hk1;rw[bC e1,ak,bC e2,ak];generalize l[k]=p at e1;generalize l[k+1]=q at e2;have hp:=h.bd e1;have hq:=h.bd e2;obtain⟨hpq,hpa⟩:=h.Ru.pair e1 e2;refine a_ (fun hc=>?_) (fun hc=>bZ ⟨⟨k+1,rfl,hk1,fun x hx=>?_⟩,by simp;omega⟩)
  ·simp only[Ih,yS,js]at hc;obtain⟨n1,n2,n3,n4⟩:=ZM (h.at e1) (h.at e2) hpq hpa hc.1 (Int.le_of_lt hc.2);have key:(t-p.t)*(q.a-p.a)+q.t-p.t-1=(t-p.t)*(q.a-p.a)+(q.t-p.t)-1:=by omega
   rw[←key]at n3 n4;simp(disch:=omega) only[fp,wT,Qh0,Qkw];refine bW (by omega) (b5 (.inr ?_))
   rw[JE h.Ru e1 e2 hc.1 (Int.le_of_lt hc.2),key];rfl
  ·rw[e2]at hx;cases hx;simp only[Qea,VH,jY]at hc;rcases hC p e1 with h'|h'
   ·left;omega
   ·right;exact h'
 ·intro e he;rcases he with⟨u,rfl,hu⟩|rfl
  ·rw[dw,show(0:Int)=((0:Nat):Int)from rfl,bC h0,ak];have hp:=h.bd h0;refine a_ (fun hb=>?_) (fun hb=>?_)
   ·simp only[w4]at hb;have hs:dd .i64 (az l) 1=((l.length-1:Nat):Int):=by unfold az;rw[wT (by omega) (by omega)];omega
    rw[hs,bC FE,ak];have hq:=h.bd FE;simp(disch:=omega) only[fp,wT,aP];rw[GP h.Ru FE (by rcases hu _ FE with h1|h1;exact h1;omega)]
   ·simp only[pL]at hb;rw[fp (by omega) (by omega),wT (by omega) (by omega),aP,←hl,UO (by rw[hl];exact h.Ru) hb]
  ·rw[nQ];exact aP.2 rfl
theorem XX:∀i:Nat,i<16→(GD (i:Int)).isSome=true:=by decide +kernel
theorem Jv{l:List Pt}(h:rT l):wL l=some []:=by
 have XT:=h.pos;have Zg:=h.zY;unfold wL;rw[bq (by simp only[PW,zC,pL,az];omega)]
 unfold rf;have Pv:aL (fun s:List aa×Int=>j8 l s.1 s.2) ([],0)=some []:=?_
 ·rw[Pv,ak]
 refine il (e:=[]) l.length (fun i=>(([]:List aa),(i:Int))) (by omega) (fun i hi=>?_) ?_
 ·have e1:l[i]?=some l[i]:=List.getElem?_eq_getElem hi;obtain⟨r,hr⟩:=Option.isSome_iff_exists.1 (XX i (by omega))
  show j8 l [] (i:Int)=_;unfold j8;rw[bD (by simp only[js,az];omega),bC e1,ak,hr,ak]
  have hp:=h.bd e1;have hA:=h.at e1;unfold Ye at hA;rw[show mQ (l[i]).t 0 4096=some true by unfold mQ;simp only[Option.some.injEq,Ih,nk,yS];omega,ak]
  rw[bq (by simp only[Bool.not_true,Bool.false_or,PW,jY,pL];rw[fp (by omega) (by omega)];omega)]
  have AE:aU .i64 (i:Int) 1=((i+1:Nat):Int):=by rw[fp (by omega) (by omega)];omega
  unfold rh;rw[AE];rcases Nat.eq_zero_or_pos i with h0|h0
  ·rw[bq (by simp only[pL];omega)]
  ·have e0:l[i-1]?=some (l[i-1]'(by omega)):=List.getElem?_eq_getElem _
   have hs:dd .i64 (i:Int) 1=((i-1:Nat):Int):=by rw[wT (by omega) (by omega)];omega
   have hpr:=h.Ru.pair e0 (by rw[show i-1+1=i by omega];exact e1)
   rw[bD (by simp only[w4];omega),hs,bC e0,ak,bq (by simp only[VH];omega),bq (by simp only[jY];omega)]
 ·show j8 l [] (l.length:Int)=_;unfold j8;rw[bq (by simp [az])]
theorem Jw{l:List Pt}(h:rT l):wN l=some true:=by
 unfold wN;rw[Jv h];rfl
theorem half{i j:Nat}(h:i<100)(h':j<100):Ax .i64 (zd .u64 (Ax .u64 (aU .i64 (i:Int) (j:Int))) 1)=(((i+j) / 2:Nat):Int):=by
 rw[fp (by omega) (by omega)]
 unfold Ax zd;rw[IntKind.wrap_u64,IntKind.wrap_i64];have e:(2:Int) ^ min (Int.toNat 1) (IntKind.u64.bits)=2:=by decide
 rw[e,Int.fdiv_eq_ediv_of_nonneg _ (by omega)]
 omega
theorem Uf{l:List Pt}(h:rT l){t:Int}(ht:Ou t):post (cS l t) fun r=>∃i:Nat,r.1=(i:Int)∧i≤l.length∧(∀k p,k<i→l[k]?=some p→p.t<t)∧(∀k p,i≤k→l[k]?=some p→t≤p.t)∧
  (r.2=true↔∃p,l[i]?=some p∧p.t=t):=by
 have Zg:=h.zY;unfold Ou at ht;refine ba (R:=fun x=>∃i:Nat,x=(i:Int)∧i≤l.length∧(∀k p,k<i→l[k]?=some p→p.t<t)∧(∀k p,i≤k→l[k]?=some p→t≤p.t)) ?_ ?_
 ·refine eJ (fun s=>∃i j:Nat,s=((i:Int),(j:Int))∧i≤j∧j≤l.length∧(∀k p,k<i→l[k]?=some p→p.t<t)∧(∀k p,j≤k→l[k]?=some p→t≤p.t)) (fun s=>(s.2-s.1).toNat) ⟨0,l.length,rfl,by omega,by omega,fun k p hk=>by omega,fun k p hk hp=>by have:=(List.getElem?_eq_some_iff.1 hp).1;omega⟩ (by simp [az];omega) ?_
  rintro _ ⟨i,j,rfl,QX,hjl,h1,h2⟩;show post (ca l t (i:Int) (j:Int)) _;unfold ca;rw[half (by omega) (by omega)]
  refine a_ (fun hb=>?_) (fun hb=>b5 ?_)
  ·simp only[js]at hb;have hm:(i+j) / 2<l.length:=by omega
   have e1:l[(i+j) / 2]?=some l[(i+j) / 2]:=List.getElem?_eq_getElem hm;rw[bC e1,ak];generalize l[(i+j) / 2]=p at e1;have hp:=h.bd e1;unfold om;rw[wT (by omega) (by omega),ak]
   refine a_ (fun hc=>bZ ?_) (fun hc=>bZ ?_)
   ·simp only[js]at hc;refine⟨⟨(i+j) / 2+1,j,by rw[fp (by omega) (by omega)];simp,by omega,hjl,fun k q hk hq=>?_,h2⟩,by rw[fp (by omega) (by omega)];simp;omega⟩
    rcases Nat.lt_or_ge k ((i+j) / 2)with rS|rS
    ·have:=h.Ru.lt rS hq e1;omega
    ·obtain rfl:k=(i+j) / 2:=by omega
     rw[e1]at hq;cases hq;omega
   ·simp only[jY]at hc;refine⟨⟨i,(i+j) / 2,rfl,by omega,by omega,h1,fun k q hk hq=>?_⟩,by simp;omega⟩
    rcases Nat.lt_or_ge ((i+j) / 2) k with rS|rS
    ·have:=h.Ru.lt rS e1 hq;omega
    ·obtain rfl:k=(i+j) / 2:=by omega
     rw[e1]at hq;cases hq;omega
  ·simp only[jY]at hb;obtain rfl:i=j:=by omega
   exact⟨i,rfl,hjl,h1,h2⟩
 ·rintro _ ⟨i,rfl,hi,h1,h2⟩;refine a_ (fun hb=>?_) (fun hb=>aP.2 ⟨i,rfl,hi,h1,h2,?_⟩)
  ·simp only[js,az]at hb;have Pu:i<l.length:=by omega
   have e1:l[i]?=some l[i]:=List.getElem?_eq_getElem Pu;rw[bC e1,ak];generalize l[i]=p at e1;have hp:=h.bd e1;unfold om;rw[wT (by omega) (by omega),ak,aP]
   refine⟨i,rfl,hi,h1,h2,?_⟩;simp only[kJ,e1,Option.some.injEq,exists_eq_left'];omega
  ·simp only[jY,az]at hb;rw[List.getElem?_eq_none (by omega)]
   simp
theorem HO{l:List Pt}(h:rT l){t:Int}(ht:Ou t):tM l t=some (zx l t):=by
 apply post.eq;have XT:=h.pos;have Zg:=h.zY;obtain⟨⟨x,f⟩,hx,i,rfl,hi,h1,h2,h3⟩:=Uf h ht;simp only at h3;unfold tM;rw[hx,ak];unfold Ou at ht;refine a_ (fun hb=>?_) (fun hb=>?_)
 ·obtain⟨p,e1,hpt⟩:=h3.1 hb;show post (aR (bj l (i:Int)) _) _;rw[bC e1,ak,aP];subst hpt;rcases Nat.lt_or_ge (i+1) l.length with h'|h'
  ·have e2:l[i+1]?=some l[i+1]:=List.getElem?_eq_getElem h';have jU:=(h.Ru.pair e1 e2).1;rw[JE h.Ru e1 e2 (by omega) (by omega),Wh jU]
  ·have hil:i=l.length-1:=by have:=(List.getElem?_eq_some_iff.1 e1).1;omega
   rw[hil]at e1;rw[GP h.Ru e1 (by omega)];omega
 ·have hnf:∀p,l[i]?=some p→p.t≠t:=fun p hp he=>by
   have:=h3.2 ⟨p,hp,he⟩;simp only at hb;rw[this]at hb;cases hb
  have e0:l[0]?=some l[0]:=List.getElem?_eq_getElem (by omega)
  show post (br (cM (i:Int) 0) _ _) _;refine a_ (fun hc=>?_) (fun hc=>?_)
  ·simp only[kJ]at hc;obtain rfl:i=0:=by omega
   rw[show(0:Int)=((0:Nat):Int)from rfl,bC e0,ak];have hp:=h.bd e0;have h4:=h2 0 _ (by omega) e0
   generalize l[0]=p at e0 hp h4;obtain⟨r,hr⟩:∃r,l=p ::r:=by
    cases l with
    |nil=>simp at XT
    |cons x r=>cases e0;exact⟨r,rfl⟩
   simp(disch:=omega) only[fp,wT,aP];rw[hr,UO (by rw[←hr];exact h.Ru) h4]
  ·simp only[zC]at hc;have e1:l[i-1]?=some (l[i-1]'(by omega)):=List.getElem?_eq_getElem _
   have hs:dd .i64 (i:Int) 1=((i-1:Nat):Int):=by rw[wT (by omega) (by omega)];omega
   have hp:=h.bd e1;have h4:=h1 (i-1) _ (by omega) e1
   show post (br (cM (i:Int) (az l)) (aR (bj l (dd .i64 (i:Int) 1)) _) _) _;rw[hs];refine a_ (fun hd=>?_) (fun hd=>?_)
   ·simp only[kJ,az]at hd;obtain rfl:i=l.length:=by omega
    rw[bC e1,ak];simp(disch:=omega) only[fp,wT,aP];rw[GP h.Ru e1 (by omega)]
   ·simp only[zC,az]at hd;have e2:l[i]?=some (l[i]'(by omega)):=List.getElem?_eq_getElem _
    have hq:=h.bd e2;have h5:=h2 i _ (by omega) e2
    show post (aR (bj l ((i-1:Nat):Int)) fun x3=>aR (bj l (i:Int)) fun x4=>_) _
    rw[bC e1,ak,bC e2,ak];have e2':l[i-1+1]?=some (l[i]'(by omega)):=by rw[show i-1+1=i by omega];exact e2
    generalize l[i-1]=p at e1 hp h4;generalize l[i]=q at e2 e2' hq h5;obtain⟨hpq,hpa⟩:=h.Ru.pair e1 e2';obtain⟨n1,n2,n3,n4⟩:=ZM (h.at e1) (h.at e2) hpq hpa (Int.le_of_lt h4) h5;simp(disch:=omega) only[fp,wT,Qh0,Qkw];refine bW (by omega) (aP.2 ?_)
    rw[JE h.Ru e1 e2' (Int.le_of_lt h4) h5];rfl
theorem HN{l:List Pt}(h:rT l){t:Int}(ht:Ou t):rq l t=some (zx l t):=by
 unfold rq;rw[show mQ t 0 1073741824=some true by unfold mQ;unfold Ou at ht;simp only[Option.some.injEq,Ih,nk,yS];omega,ak,fW,Jw h,ak,fW,HO h ht,ak]
class Sm (α:Type) where
  sm:α→Prop
instance:Sm aa:=⟨fun f=>f.eK.size≤64⟩
instance:Sm Int:=⟨fun _=>True⟩
section
variable {α β : Type} [Sm α]
def Ext(l0:List α)(c:Nat)(P:Prop)(r:List α):Prop:=∃new,r=l0++new∧new.length≤c∧(new=[]→P)∧∀x∈new,Sm.sm x
theorem Ext.nil{l0:List α}{c:Nat}{P:Prop}(h:P):Ext l0 c P l0:=⟨[],by simp,by simp,fun _=>h,by simp⟩
theorem Ext.one{l0:List α}{c:Nat}{P:Prop}{x:α}(hc:1≤c)(hx:Sm.sm x):Ext l0 c P (l0++[x]):=⟨[x],rfl,hc,fun h=>by(cases h),fun y hy=>by rw[List.mem_singleton.1 hy];exact hx⟩
theorem Ext.trans{a b r:List α}{c d e:Nat}{P Q R:Prop}(h:Ext a c P b)(h':Ext b d Q r)(he:c+d≤e)(hr:P→Q→R):Ext a e R r:=by
 obtain⟨n,rfl,h1,h2,h5⟩:=h;obtain⟨m,rfl,h3,h4,h6⟩:=h';refine⟨n++m,by simp,by simp;omega,fun h=>?_,fun x hx=>by rcases List.mem_append.1 hx with h|h;exact h5 x h;exact h6 x h⟩
 rw[List.append_eq_nil_iff]at h;exact hr (h2 h.1) (h4 h.2)
theorem Ext.len{a r:List α}{c:Nat}{P:Prop}(h:Ext a c P r):r.length≤a.length+c:=by obtain⟨n,rfl,h1,_⟩:=h;simp;omega
theorem Ext.of_nil{r:List α}{c:Nat}{P:Prop}(h:Ext [] c P r)(hr:r=[]):P:=by
 obtain⟨n,rfl,_,h2,_⟩:=h;exact h2 (by simpa using hr)
theorem Ext.sms{r:List α}{c:Nat}{P:Prop}(h:Ext [] c P r):∀x∈r,Sm.sm x:=by
 obtain⟨n,rfl,_,_,h2⟩:=h;simpa using h2
theorem Ext.mono{a r:List α}{c d:Nat}{P Q:Prop}(h:Ext a c P r)(hc:c≤d)(hp:P→Q):Ext a d Q r:=by
 obtain⟨n,rfl,h1,h2,h3⟩:=h;exact⟨n,rfl,by omega,fun hn=>hp (h2 hn),h3⟩
def Qd9(out:List α)(i:Int)(c:Nat)(P:Prop)(x:(List α×Int)⊕β):Prop:=∃r,x=.inl (r,i)∧Ext out c P r
theorem OG{out:List α}{i j:Int}{c:Nat}{P:Prop}(hi:j=i)(h:P):post (some (Sum.inl (out,j):(List α×Int)⊕β)) (Qd9 out i c P):=⟨_,rfl,out,by rw[hi],.nil h⟩
theorem D1{out:List α}{x:α}{i j:Int}{c:Nat}{P:Prop}(hi:j=i)(hc:1≤c)(hx:Sm.sm x):post (some (Sum.inl (out++[x],j):(List α×Int)⊕β)) (Qd9 out i c P):=⟨_,rfl,_,by rw[hi],.one hc hx⟩
theorem si{B:List α×Int→Option ((List α×Int)⊕(List α))}(n c:Nat)(P:Nat→Prop)(l0:List α)(hn:n<18446744073709551615)
  (step:∀(i:Nat) (out:List α),i<n→out.length≤l0.length+c*i→post (B (out,(i:Int))) (Qd9 out ((i:Int)+1) c (P i)))
  (fin:∀out,B (out,(n:Int))=some (.inr out)):post (aL B (l0,0)) (Ext l0 (c*n) (∀i,i<n→P i)):=by
 refine eJ (fun s=>∃i:Nat,s.2=(i:Int)∧i≤n∧Ext l0 (c*i) (∀k,k<i→P k) s.1) (fun s=>n-s.2.toNat)
  ⟨0,rfl,Nat.zero_le _,.nil (by simp)⟩ (by simp;omega) ?_
 rintro⟨out,j⟩ ⟨i,hj,hi,hl⟩;simp only at hj hl;subst hj;by_cases h:i<n
 ·refine(step i out h hl.len).mono ?_
  rintro x ⟨r,rfl,h1⟩;refine⟨fun s' hs=>?_,fun _ h=>by cases h⟩
  cases hs;refine⟨⟨i+1,by simp,by omega,hl.trans h1 (by rw[Nat.mul_add];omega) fun h2 h3 k hk=>?_⟩,by simp;omega⟩
  rcases Nat.lt_or_ge k i with h|h
  ·exact h2 k h
  ·obtain rfl:k=i:=by omega
   exact h3
 ·obtain rfl:i=n:=by omega
  rw[fin];exact b5 hl
end
theorem sm_at{e:Int}{s:ByteArray}(h:s.size≤64):Sm.sm (aa.mk e s):=h
theorem uN(a b:ByteArray):(dC a b).size=a.size+b.size:=by unfold dC;exact ByteArray.size_append
theorem P2{B:Bool×Int→Option ((Bool×Int)⊕Bool)}(n:Nat)(P:Nat→Prop)(hn:n<18446744073709551615)
  (step:∀(k:Nat) (b:Bool),k<n→post (B (b,(k:Int))) fun x=>∃b',x=.inl (b',(k:Int)+1)∧(b'=true↔b=true∨P k))
  (fin:∀b,B (b,(n:Int))=some (.inr b)):post (aL B (false,0)) fun r=>(r=true↔∃k,k<n∧P k):=by
 refine eJ (fun s=>∃i:Nat,s.2=(i:Int)∧i≤n∧(s.1=true↔∃k,k<i∧P k)) (fun s=>n-s.2.toNat) ⟨0,rfl,Nat.zero_le _,by simp⟩ (by simp;omega) ?_
 rintro⟨b,j⟩ ⟨i,hj,hi,hl⟩;simp only at hj hl;subst hj;by_cases h:i<n
 ·refine(step i b h).mono ?_
  rintro x ⟨b',rfl,h1⟩;refine⟨fun s' hs=>?_,fun _ h=>by cases h⟩
  cases hs;refine⟨⟨i+1,by simp,by omega,?_⟩,by simp;omega⟩
  simp only;rw[h1,hl];constructor
  ·rintro(⟨k,h2,h3⟩|h2)
   ·exact⟨k,by omega,h3⟩
   ·exact⟨i,by omega,h2⟩
  ·rintro⟨k,h2,h3⟩;rcases Nat.lt_or_ge k i with h|h
   ·exact .inl ⟨k,h,h3⟩
   ·obtain rfl:k=i:=by omega
    exact .inr h3
 ·obtain rfl:i=n:=by omega
  rw[fin];exact b5 hl
theorem inc{i n:Nat}(h:i<n)(hn:n≤1048576):aU .i64 (i:Int) 1=(i:Int)+1:=fp (by omega) (by omega)
theorem dec{i:Nat}(h:0<i)(hn:i≤1048576):dd .i64 (i:Int) 1=((i-1:Nat):Int):=by rw[wT (by omega) (by omega)];omega
theorem Y6{s:ByteArray}{i:Int}(h0:0≤i)(h1:i<s.size):∃b,Po s i=some b:=by
 unfold Po;rw[if_pos h0];exact⟨_,getElem?_pos s i.toNat (by omega)⟩
theorem Mo(s:ByteArray)(hs:s.size≤1048576):post (lz s) fun _=>True:=by
 unfold lz;refine a_ (fun _=>aP.2 trivial) (fun hb=>?_)
 simp only[PW,jY,pL,fG]at hb;obtain⟨b,hb0⟩:=Y6 (s:=s) (i:=0) (by omega) (by omega)
 rw[hb0,ak];refine ba (R:=fun _=>True) ⟨_,rfl,trivial⟩ fun r _=>a_ (fun _=>aP.2 trivial) fun _=>?_
 refine ba (R:=fun _=>True) ?_ fun e _=>?_
 ·refine eJ (fun i=>∃k:Nat,i=(k:Int)∧k≤s.size) (fun i=>s.size-i.toNat) ⟨0,rfl,Nat.zero_le _⟩ (by simp;omega) ?_
  rintro _ ⟨k,rfl,hk⟩;show post (nm s b (k:Int)) _;unfold nm;refine a_ (fun hb=>?_) (fun _=>b5 trivial)
  simp only[js,fG]at hb;obtain⟨c,hc⟩:=Y6 (s:=s) (i:=k) (by omega) (by omega)
  rw[hc,ak,inc (n:=s.size) (by omega) hs]
  have leaf:post (some (Sum.inl ((k:Int)+1):Int⊕(Unit⊕Bool))) fun x=>(∀s',x=.inl s'→(∃k:Nat,s'=(k:Int)∧k≤s.size)∧s.size-s'.toNat<s.size-(k:Int).toNat)∧∀e,x=.inr e→True:=
   bZ ⟨⟨k+1,by simp,by omega⟩,by simp;omega⟩
  refine ba (R:=fun _=>True) ⟨_,rfl,trivial⟩ fun r1 _=>a_ (fun _=>leaf) fun _=>?_
  exact ba (R:=fun _=>True) ⟨_,rfl,trivial⟩ fun r2 _=>a_ (fun _=>leaf) fun _=>b5 trivial
 ·cases e with
  |inl u=>exact aP.2 trivial
  |inr r=>exact aP.2 trivial
structure QiY (a:aH):Prop where
 jw:a.jw.length≤1048576
 ja:a.ja.length≤1048576
 pts:∀p∈a.jw,ptI p
 Qqo:∀p∈a.ja,ptI p
structure QbD (n:aD):Prop where
 aV:n.aV.length≤1048576
 cH:n.cH.length≤1048576
 names:∀s∈n.aV,s.size≤1048576
 Qlf:∀a∈n.cH,QiY a
def okS(l:List Pt)(i:Nat):Prop:=∀p,l[i]?=some p→0≤p.t∧p.t≤4096∧0≤p.a∧p.a≤4096∧(0<i→∀q,l[i-1]?=some q→q.t<p.t)
structure OQ (np:Nat) (a:aH):Prop where
 Qnv:0≤a.a8
 Qnw:a.a8<np
 to0:0≤a.fN
 to1:a.fN<np
 Qn7:0≤a.aT
 Qn8:a.aT≤7
 Ml:0≤a.ed
 Mm:a.ed≤10000
 ne:a.a8≠a.fN
 jw:rT a.jw
 ja:a.ja.length≤16
 OK:∀i,i<a.ja.length→okS a.ja i
def Da(a b:aH):Prop:=a.a8=b.a8∧a.fN=b.fN∧a.aT=b.aT
structure OV (n:aD):Prop where
 aV:n.aV.length≤24
 cH:n.cH.length≤1024
 all:∀a∈n.cH,OQ n.aV.length a
 once:∀(i k:Nat) (a b:aH),k<i→n.cH[i]?=some a→n.cH[k]?=some b→¬Da a b
theorem LD{n:aD}(hn:QbD n):post (gk n) (Ext [] (1+n.aV.length) (n.aV.length≤24)):=by
 have Di:=hn.aV;have main:∀l0:List aa,l0.length≤1→post (fq n l0) (Ext l0 n.aV.length True):=by
  intro l0 pq;refine ba (R:=Ext l0 n.aV.length True) ?_ fun a h=>aP.2 h
  refine(si n.aV.length 1 (fun _=>True) l0 (by omega) (fun i out hi ho=>?_) (fun out=>?_)).mono fun r h=>h.mono (by omega) fun _=>trivial
  ·show post (dI n l0 out (i:Int)) _;unfold dI;rw[bD (by simp [az];exact hi),inc hi Di]
   refine ba (uP (i:Int) (KA (by omega))) fun r hr=>bW (by show 6+r.size≤_;omega) ?_
   have e1:n.aV[i]?=some n.aV[i]:=List.getElem?_eq_getElem hi;rw[bC e1,ak];have B3:∀f:aa,eO (out++[f]).length 24:=fun f=>dt (by simp;omega)
   have hsm:∀{e:Int},Sm.sm (aa.mk e (dC jf r)):=sm_at (by rw[uN];show 6+r.size≤64;omega)
   refine ba (Mo _ (hn.names _ (List.getElem_mem hi))) fun r1 _=>a_ (fun _=>?_) (fun _=>bW (B3 _) (D1 rfl (by omega) hsm))
   refine ba (R:=fun _=>True) ((P2 i (fun k=>∃x,n.aV[k]?=some x∧E3 x n.aV[i]=true) (by omega) (fun k b hk=>?_) (fun b=>?_)).mono fun _ _=>trivial) fun tw _=>a_ (fun _=>bW (B3 _) (D1 rfl (by omega) hsm)) (fun _=>OG rfl trivial)
   ·show post (dJ n l0 out (i:Int) r b (k:Int)) _;unfold dJ;rw[bD (by simp;omega),inc (n:=i) hk (by omega)]
    have e2:n.aV[k]?=some (n.aV[k]'(by omega)):=List.getElem?_eq_getElem _
    refine a_ (fun h=>aP.2 ⟨true,rfl,by simp [h]⟩) (fun h=>?_)
    rw[bC e2,ak,bC e1,ak,aP];exact⟨_,rfl,by simp [h,e2]⟩
   ·show dJ n l0 out (i:Int) r b (i:Int)=_;unfold dJ;rw[bq (by simp)]
  ·show dI n l0 out (n.aV.length:Int)=_;unfold dI;rw[bq (by simp [az])]
 unfold gk;refine a_ (fun h=>bW (dt (by simp)) ((main _ (by simp)).mono fun r h'=>?_)) (fun h=>(main _ (by simp)).mono fun r h'=>h'.mono (by omega) fun _=>?_)
 ·exact(Ext.one (l0:=[]) (P:=n.aV.length≤24) (Nat.le_refl 1) (sm_at (s:=tJ) (show 6≤64 by omega))).trans h' (Nat.le_refl _) fun h _=>h
 ·simp only[pL,az]at h;omega
theorem ZW(t:Int):n_ t=some (decide (0≤t∧t≤4096)):=by
 unfold n_;congr 1;rw[Bool.eq_iff_iff,Ih,nk,yS,decide_eq_true_iff]
theorem SH{r:ByteArray}(hr:r.size≤21){x0:aH}{l l0:List aa}(hI:QiY x0)(pq:l0.length≤4194304):post (fy r x0 l l0) (Ext l0 x0.ja.length (∀i,i<x0.ja.length→okS x0.ja i)):=by
 have Uy:=hI.ja;have hsm:∀{e:Int},Sm.sm (aa.mk e (dC b_ r)):=sm_at (by rw[uN];show 4+r.size≤64;omega)
 refine ba (R:=Ext l0 x0.ja.length (∀i,i<x0.ja.length→okS x0.ja i)) ?_ fun a h=>aP.2 h
 refine(si x0.ja.length 1 (okS x0.ja) l0 (by omega) (fun i out hi ho=>?_) (fun out=>?_)).mono fun r h=>h.mono (by omega) id
 ·show post (fB r x0 l out (i:Int)) _;unfold fB;have B3:∀f:aa,eO (out++[f]).length 24:=fun f=>dt (by simp;omega)
  have e1:x0.ja[i]?=some x0.ja[i]:=List.getElem?_eq_getElem hi;rw[bD (by simp [az];exact hi),inc hi Uy,bC e1,ak,ZW,ak,ZW]
  generalize x0.ja[i]=p at e1;have no:post (ef (eO (out++[aa.mk 2 (dC b_ r)]).length 24) (some (Sum.inl (out++[aa.mk 2 (dC b_ r)],(i:Int)+1):(List aa×Int)⊕(List aa)))) (Qd9 out ((i:Int)+1) 1 (okS x0.ja i)):=bW (B3 _) (D1 rfl (by omega) hsm)
  refine a_ (fun h1=>?_) (fun _=>no)
  rw[ak];refine a_ (fun h2=>a_ (fun h3=>?_) (fun h3=>OG rfl ?_)) (fun _=>no)
  ·simp only[w4]at h3;have e2:x0.ja[i-1]?=some (x0.ja[i-1]'(by omega)):=List.getElem?_eq_getElem _
   rw[dec (by omega) (by omega),bC e2,ak]
   refine a_ (fun _=>no) (fun h4=>OG rfl ?_)
   simp only[VH,decide_eq_true_iff]at h1 h2 h4;intro x hx;rw[e1]at hx;cases hx;exact⟨h1.1,h1.2,h2.1,h2.2,fun _ q hq=>by rw[e2]at hq;cases hq;exact h4⟩
  ·simp only[pL,decide_eq_true_iff]at h1 h2 h3;intro x hx;rw[e1]at hx;cases hx;exact⟨h1.1,h1.2,h2.1,h2.2,fun h=>by omega⟩
 ·show fB r x0 l out (x0.ja.length:Int)=_;unfold fB;rw[bq (by simp [az])]
theorem QO{n:aD}(hn:QbD n){i:Nat}{a:aH}(ha:n.cH[i]?=some a):
  post (l_ n (i:Int)) (Ext [] 3145735 (OQ n.aV.length a∧∀(k:Nat) (b:aH),k<i→n.cH[k]?=some b→¬Da a b)):=by
 have hi:i<n.cH.length:=(List.getElem?_eq_some_iff.1 ha).1;have hal:=hn.cH;have hI:=hn.Qlf a (List.mem_of_getElem? ha);have Uy:=hI.ja;have htl:=hI.jw;unfold l_;refine ba (uP (i:Int) (KA (by omega))) fun r hr=>bW (by show 4+r.size≤_;omega) ?_
 rw[bC ha,ak];have hsm:∀{e:Int},Sm.sm (aa.mk e (dC b_ r)):=sm_at (by rw[uN];show 4+r.size≤64;omega)
 have gen:∀(l l0:List aa),l0.length≤3→post (gI r a l l0) (Ext l0 3145732 (rT a.jw∧a.ja.length≤16∧∀i,i<a.ja.length→okS a.ja i)):=by
  intro l l0 pq;unfold gI;refine ba (CT htl hI.pts) fun r1 HZ=>?_
  refine ba (R:=Ext l0 2097153 (rT a.jw)) ?_ fun l4 h4=>?_
  ·refine(si r1.length 1 (fun _=>False) l0 (by omega) (fun k out hk ho=>?_) (fun out=>?_)).mono fun x hx=>?_
   ·show post (fA r a l r1 out (k:Int)) _;unfold fA;have e1:r1[k]?=some r1[k]:=List.getElem?_eq_getElem hk;have AE:aU .i64 (k:Int) 1=(k:Int)+1:=fp (by omega) (by omega)
    rw[bD (by simp [az];exact hk),AE,bC e1,ak]
    exact bW (dt (by simp;omega)) (D1 rfl (by omega) hsm)
   ·show fA r a l r1 out (r1.length:Int)=_;unfold fA;rw[bq (by simp [az])]
   ·refine hx.mono (by omega) fun h=>HZ.2.1 ?_
    cases r1 with
    |nil=>rfl
    |cons y ys=>exact(h 0 (by simp)).elim
  ·have h4l:=h4.len;refine a_ (fun h=>bW (dt (by simp;omega)) ?_) (fun h=>?_)
   ·refine((SH hr hI (by simp;omega)).mono fun _ h=>h.mono Uy id:post (fy r a l _) (Ext _ 1048576 _)).mono fun x hx=>?_
    refine h4.trans ((Ext.one (P:=False) (Nat.le_refl 1) hsm).trans hx (e:=1048577) (by omega) (fun h _=>h)) (by omega) fun h1 h2=>h2.elim
   ·refine((SH hr hI (by omega)).mono fun _ h=>h.mono Uy id:post (fy r a l _) (Ext _ 1048576 _)).mono fun x hx=>?_
    simp only[pL,az]at h;exact h4.trans hx (by omega) fun h1 h2=>⟨h1,by omega,h2⟩
 have Qjf:∀(l l0:List aa),l0.length≤2→post (gH n (i:Int) r a l l0) (Ext l0 3145733 ((∀(k:Nat) (b:aH),k<i→n.cH[k]?=some b→¬Da a b)∧rT a.jw∧a.ja.length≤16∧∀i,i<a.ja.length→okS a.ja i)):=by
  intro l l0 pq;unfold gH;refine ba (P2 i (fun k=>∃b,n.cH[k]?=some b∧Da a b) (by omega) (fun k b hk=>?_) (fun b=>?_)) fun tw WU=>a_ (fun h=>bW (dt (by simp;omega)) ?_) (fun h=>?_)
  ·show post (fz n (i:Int) r a l l0 b (k:Int)) _;unfold fz;have e1:n.cH[k]?=some (n.cH[k]'(by omega)):=List.getElem?_eq_getElem _
   rw[bD (by simp;omega),inc (n:=i) hk (by omega),bC e1,ak,aP]
   refine⟨_,rfl,?_⟩;simp only[orT,Ih,kJ,e1,Option.some.injEq,exists_eq_left',Da,and_assoc]
  ·show fz n (i:Int) r a l l0 b (i:Int)=_;unfold fz;rw[bq (by simp)]
  ·exact(gen l _ (by simp;omega)).mono fun x hx=>(Ext.one (P:=False) (Nat.le_refl 1) hsm).trans hx (by omega) fun h _=>h.elim
  ·refine(gen l _ (by omega)).mono fun x hx=>hx.mono (by omega) fun h'=>⟨fun k b hk hb hs=>?_,h'⟩
   rw[WU.2 ⟨k,hk,b,hb,hs⟩]at h;cases h
 have fin:∀(l:List aa),l.length≤1→post (gF n (i:Int) r a l) (Ext l 3145734 (0≤a.aT∧a.aT≤7∧0≤a.ed∧a.ed≤10000∧a.a8≠a.fN∧(∀(k:Nat) (b:aH),k<i→n.cH[k]?=some b→¬Da a b)∧rT a.jw∧a.ja.length≤16∧∀i,i<a.ja.length→okS a.ja i)):=by
  intro l hl;unfold gF;refine a_ (fun h=>bW (dt (by simp;omega)) ?_) (fun h=>?_)
  ·exact(Qjf l _ (by simp;omega)).mono fun x hx=>(Ext.one (P:=False) (Nat.le_refl 1) hsm).trans hx (by omega) fun h _=>h.elim
  ·simp only[PW,jY,pL,zC]at h;exact(Qjf l _ (by omega)).mono fun x hx=>hx.mono (by omega) fun h'=>⟨h.1.1.1.1,h.1.1.1.2,h.1.1.2,h.1.2,h.2,h'⟩
 refine a_ (fun h=>bW (dt (by simp)) ?_) (fun h=>?_)
 ·exact(fin _ (by simp)).mono fun x hx=>(Ext.one (l0:=[]) (P:=False) (Nat.le_refl 1) hsm).trans hx (by omega) fun h _=>h.elim
 ·simp only[PW,jY,Cn,az]at h;exact(fin _ (by simp)).mono fun x hx=>hx.mono (by omega) fun⟨h1,h2,h3,h4,h5,h6,h7,h8,h9⟩=>⟨⟨h.1.1.1,h.1.1.2,h.1.2,h.2,h1,h2,h3,h4,h5,h7,h8,h9⟩,h6⟩
theorem ME{n:aD}(hn:QbD n):post (pN n) (Ext [] (1048578+3145735*n.cH.length) (OV n)):=by
 have hal:=hn.cH;have Di:=hn.aV;unfold pN;refine ba (LD hn) fun r hr=>?_
 have Ux:=hr.len;have main:∀l0:List aa,l0.length≤1048578→post (lZ n l0) (Ext l0 (3145735*n.cH.length) (∀i,i<n.cH.length→∀a,n.cH[i]?=some a→OQ n.aV.length a∧∀(k:Nat) (b:aH),k<i→n.cH[k]?=some b→¬Da a b)):=by
  intro l0 pq;refine uE ?_
  refine(si n.cH.length 3145735 _ l0 (by omega) (fun i out hi ho=>?_) (fun out=>?_)).mono fun r h=>aP.2 h
  ·show post (gQ n l0 out (i:Int)) _;unfold gQ;have e1:n.cH[i]?=some n.cH[i]:=List.getElem?_eq_getElem hi;rw[bD (by simp [az];exact hi),inc hi hal]
   refine ba (QO hn e1) fun r1 HZ=>?_
   obtain⟨new,h1,h2,h3,h4⟩:=HZ;rw[List.nil_append]at h1;subst h1;refine bW (dt (by simp;omega)) (aP.2 ⟨_,rfl,_,rfl,h2,fun h a ha=>?_,h4⟩)
   rw[e1]at ha;cases ha;exact h3 h
  ·show gQ n l0 out (n.cH.length:Int)=_;unfold gQ;rw[bq (by simp [az])]
 refine a_ (fun h=>bW (dt (by simp at Ux ⊢;omega)) ((main _ (by simp at Ux ⊢;omega)).mono fun x hx=>?_)) (fun h=>(main _ (by simp at Ux;omega)).mono fun x hx=>?_)
 ·exact hr.trans ((Ext.one (P:=False) (Nat.le_refl 1) (sm_at (s:=Bg) (show 4≤64 by omega))).trans hx (Nat.le_refl _) (R:=False) fun h _=>h) (by omega) fun _ h=>h.elim
 ·simp only[pL,az]at h;refine hr.trans hx (by omega) fun h1 h2=>⟨h1,by omega,fun a ha=>?_,fun i k a b hk ha hb=>(h2 i (List.getElem?_eq_some_iff.1 ha).1 a ha).2 k b hk hb⟩
  obtain⟨i,hi⟩:=List.getElem?_of_mem ha;exact(h2 i (List.getElem?_eq_some_iff.1 hi).1 a hi).1
def mH(l:List Pt)(t:Int):Int:=l.foldr (fun p s=>(if p.t≤t then p.a else 0)+s) 0
theorem Qi(l m:List Pt)(t:Int):mH (l++m) t=mH l t+mH m t:=by
 induction l with
 |nil=>simp [mH]
 |cons p l ih=>simp only[mH,List.cons_append,List.foldr_cons]at ih ⊢;omega
theorem K4{l:List Pt}{t:Int}{i:Nat}{p:Pt}(h:l[i]?=some p):mH (l.take (i+1)) t=mH (l.take i) t+(if p.t≤t then p.a else 0):=by
 rw[List.take_add_one,h,Qi];simp [mH]
theorem Qc8{l:List Pt}(h:∀i,i<l.length→okS l i){i:Nat}{p:Pt}(hp:l[i]?=some p):0≤p.t∧p.t≤4096∧0≤p.a∧p.a≤4096:=by
 have:=h i (List.getElem?_eq_some_iff.1 hp).1 p hp;exact⟨this.1,this.2.1,this.2.2.1,this.2.2.2.1⟩
theorem Jb{l:List Pt}(h:∀i,i<l.length→okS l i)(t:Int):∀i:Nat,i≤l.length→0≤mH (l.take i) t∧mH (l.take i) t≤4096*i
 |0,_=>by simp [mH]
 |i+1,hi=>by
  have e1:l[i]?=some (l[i]'(by omega)):=List.getElem?_eq_getElem _
  have ih:=Jb h t i (by omega)
  have:=Qc8 h e1;rw[K4 e1];split <;> omega
def Xk(a:aH)(t:Int):Int:=zx a.jw t+mH a.ja t
theorem rT.ne{l:List Pt}(h:rT l):l≠[]:=fun e=>by have:=h.pos;rw[e]at this;simp at this
theorem K3{l:List Pt}(h:∀i,i<l.length→okS l i)(hl:l.length≤16)(t:Int):0≤mH l t∧mH l t≤65536:=by
 have:=Jb h t l.length (Nat.le_refl _);rw[List.take_length]at this;omega
theorem Qed{np:Nat}{a:aH}(h:OQ np a)(t:Int):t≤Xk a t:=by
 have:=Oa h.jw.Ru h.jw.ne t;have:=K3 h.OK h.ja t;unfold Xk;omega
theorem Qee{np:Nat}{a:aH}(h:OQ np a){t:Int}(ht:0≤t):Xk a t≤t+73728:=by
 have:=Oc h.jw.Ru ht;have:=K3 h.OK h.ja t;unfold Xk;omega
theorem SG{l:List Pt}{t r:Int}(h:∀i,i<l.length→okS l i)(hl:l.length≤16)(hr:0≤r)(QD:r≤2147483648){B:Int×Int→Option ((Int×Int)⊕Int)}
  (hB:∀out i,B (out,i)=br (bh i (az l)) (aR (bj l i) fun x0=>br (fT x0.t t) (some (.inl ((aU .i64 out x0.a),(aU .i64 i 1)))) (some (.inl (out,(aU .i64 i 1))))) (some (.inr out))):
  aL B (r,0)=some (r+mH l t):=by
 have e:aL B ((fun i:Nat=>(r+mH (l.take i) t,(i:Int))) 0)=some (r+mH l t):=by
  refine il l.length (fun i:Nat=>(r+mH (l.take i) t,(i:Int))) (by omega) (fun i hi=>?_) ?_
  ·have e1:l[i]?=some l[i]:=List.getElem?_eq_getElem hi;have hb:=Jb h t i (by omega)
   have hp:=Qc8 h e1;show B (_,_)=some (.inl (_,_));rw[hB,bD (by simp [az];exact hi),bC e1,ak,K4 e1,show aU .i64 (i:Int) 1=((i+1:Nat):Int) by rw[fp (by omega) (by omega)];omega]
   by_cases hc:l[i].t≤t
   ·rw[bD (by simpa using hc),if_pos hc,fp (by omega) (by omega),Int.add_assoc]
   ·rw[bq (by simp;omega),if_neg hc,Int.add_zero]
  ·show B (_,_)=_;rw[hB,bq (by simp [az]),List.take_length]
 simpa [mH]using e
theorem Xl{np:Nat}{a:aH}(h:OQ np a){t:Int}(ht:Ou t):qW a t=some (Xk a t):=by
 have h1:=Oa h.jw.Ru h.jw.ne t;have h2:=Oc h.jw.Ru ht.1;unfold Ou at ht;unfold qW;rw[HN h.jw ht,ak,SG h.OK h.ja (by omega) (by omega) (fun out i=>rfl),ak]
 rfl
theorem NX{np:Nat}{a:aH}(h:OQ np a){t:Int}(ht:Ou t):vh a t=some (Xk a t):=by
 have h1:=Oa h.jw.Ru h.jw.ne t;have h2:=Oc h.jw.Ru ht.1;unfold Ou at ht;unfold vh;rw[IU h.jw ht,ak,SG h.OK h.ja (by omega) (by omega) (fun out i=>rfl),ak]
 rfl
theorem RQ{α E:Type}{l:List α}(p:α→Bool)(Y:α→E)(N:E)(hl:l.length≤1048576){B:Int→Option (Int⊕E)}
  (hB:∀i,B i=br (bh i (az l)) (aR (bj l i) fun x=>br (p x) (some (.inr (Y x))) (some (.inl (aU .i64 i 1)))) (some (.inr N))):
  aL B 0=some (match l.find? p with|some x=>Y x|none=>N):=by
 apply post.eq;refine eJ (fun i=>∃k:Nat,i=(k:Int)∧k≤l.length∧(l.drop k).find? p=l.find? p) (fun i=>l.length-i.toNat) ⟨0,rfl,Nat.zero_le _,rfl⟩ (by simp;omega) ?_
 rintro _ ⟨k,rfl,hk,hf⟩;rw[hB];refine a_ (fun hb=>?_) (fun hb=>b5 ?_)
 ·simp only[js,az]at hb;have rS:k<l.length:=by omega
  have e1:l[k]?=some l[k]:=List.getElem?_eq_getElem rS;rw[List.drop_eq_getElem_cons rS,List.find?_cons]at hf;rw[bC e1,ak,inc rS hl];refine a_ (fun hc=>b5 ?_) (fun hc=>bZ ⟨⟨k+1,by simp,by omega,?_⟩,by simp;omega⟩)
  ·rw[hc]at hf;simp only at hf;rw[←hf]
  ·rw[hc]at hf;simpa using hf
 ·simp only[jY,az]at hb;rw[List.drop_eq_nil_of_le (by omega)]at hf
  rw[←hf];rfl
def Kj(aT a8 fN:Int)(a:aH):Bool:=decide (a.a8=a8∧a.fN=fN∧a.aT=aT)
def Cl(n:aD)(aT a8 fN:Int):aH×Bool:=match n.cH.find? (Kj aT a8 fN)with
 |some a=>(a,true)
 |none=>(aH.mk 0 0 0 0 [] [],false)
theorem find_eq{n:aD}(h:n.cH.length≤1048576)(aT a8 fN:Int):wi n aT a8 fN=some (Cl n aT a8 fN):=by
 unfold wi Cl;have:=RQ (Kj aT a8 fN) (fun a=>(Sum.inr (a,true):Unit⊕(aH×Bool))) (.inl ()) h (B:=fun s=>qV n aT a8 fN s) (fun i=>by
  unfold qV;congr 2
  funext x
  unfold xJ;rw[ak];congr 1;unfold Kj;rw[Bool.eq_iff_iff];simp [and_assoc])
 rw[ct this];cases n.cH.find? (Kj aT a8 fN) <;> rfl
theorem Rk{n:aD}(h:n.cH.length≤1048576)(aT a8 fN:Int):yA n aT a8 fN=some (Cl n aT a8 fN):=by
 unfold yA Cl;have:=RQ (Kj aT a8 fN) (fun a=>(Sum.inr (a,true):Unit⊕(aH×Bool))) (.inl ()) h (B:=fun s=>ub n aT a8 fN s) (fun i=>by
  unfold ub;congr 2
  funext x
  congr 1;unfold Kj;rw[Bool.eq_iff_iff];simp [and_assoc])
 rw[ct this];cases n.cH.find? (Kj aT a8 fN) <;> rfl
theorem LZ{n:aD}{aT a8 fN:Int}(h:(Cl n aT a8 fN).2=true):(Cl n aT a8 fN).1∈n.cH∧Kj aT a8 fN (Cl n aT a8 fN).1=true:=by
 unfold Cl at h ⊢;cases hf:n.cH.find? (Kj aT a8 fN)with
 |none=>rw[hf]at h;cases h
 |some a=>exact⟨List.mem_of_find?_eq_some hf,List.find?_some hf⟩
def nO(n:aD)(i:Int):Bool:=decide (0≤i∧i<n.aV.length)
theorem V3(n:aD)(i:Int):rk n i=some (nO n i):=by
 unfold rk nO az;congr 1;rw[Bool.eq_iff_iff];simp
theorem F6(n:aD)(i:Int):sM n i=some (nO n i):=by
 unfold sM nO az;congr 1;rw[Bool.eq_iff_iff];simp
def goN(n:aD)(aT a8 fN t:Int):Int×Int×Int:=
 if nO n a8=true∧nO n fN=true then
  if a8=fN then(t,0,0)else
  if(Cl n aT a8 fN).2=true then(Xk (Cl n aT a8 fN).1 t,(Cl n aT a8 fN).1.ed,0)else(0,0,12)
 else(0,0,11)
theorem go_eq{n:aD}(h:OV n)(aT a8 fN:Int){t:Int}(ht:Ou t):ui n aT a8 fN t=some (goN n aT a8 fN t):=by
 unfold ui goN;rw[V3,ak,V3,ak,find_eq (by have:=h.cH;omega),ak]
 simp only[JI,kJ];by_cases h1:nO n a8=true
 ·by_cases h2:nO n fN=true
  ·rw[if_pos h1,if_pos h2,if_pos (And.intro h1 h2)];by_cases h3:a8=fN
   ·rw[if_pos h3,if_pos h3]
   ·rw[if_neg h3,if_neg h3];by_cases h4:(Cl n aT a8 fN).2=true
    ·rw[if_pos h4,if_pos h4,Xl (h.all _ (LZ h4).1) ht,ak]
    ·rw[if_neg h4,if_neg h4]
  ·rw[if_pos h1,if_neg h2,if_neg (fun h:nO n a8=true∧nO n fN=true=>h2 h.2)]
 ·rw[if_neg h1,if_neg (fun h:nO n a8=true∧nO n fN=true=>h1 h.1)]
theorem V9{n:aD}(h:OV n)(aT a8 fN:Int){t:Int}(ht:Ou t):xH n aT a8 fN t=some (goN n aT a8 fN t):=by
 unfold xH goN;rw[F6,ak,F6,ak,Rk (by have:=h.cH;omega),ak]
 simp only[JI,kJ];by_cases h1:nO n a8=true
 ·by_cases h2:nO n fN=true
  ·rw[if_pos h1,if_pos h2,if_pos (And.intro h1 h2)];by_cases h3:a8=fN
   ·rw[if_pos h3,if_pos h3]
   ·rw[if_neg h3,if_neg h3];by_cases h4:(Cl n aT a8 fN).2=true
    ·rw[if_pos h4,if_pos h4,NX (h.all _ (LZ h4).1) ht,ak]
    ·rw[if_neg h4,if_neg h4]
  ·rw[if_pos h1,if_neg h2,if_neg (fun h:nO n a8=true∧nO n fN=true=>h2 h.2)]
 ·rw[if_neg h1,if_neg (fun h:nO n a8=true∧nO n fN=true=>h1 h.1)]
def SZ(f:List Int→Option (List Int))(c:Nat)(P:Prop):Prop:=∀l:List Int,l.length+c≤100→post (f l) (Ext l c P)
section
variable {f : List Int → Option (List Int)} {c : Nat} {P Q : Prop} {l : List Int} {e : Int}
theorem SZ.bad(h:SZ f c P)(hl:l.length+(c+1)≤100):post (ef (eO (l++[e]).length 8) (f (l++[e]))) (Ext l (c+1) Q):=
 bW (dt (by simp;omega)) ((h (l++[e]) (by simp;omega)).mono fun x hx=>(Ext.one (P:=False) (Nat.le_refl 1) trivial).trans hx (by omega) fun h _=>h.elim)
theorem SZ.Ez(h:SZ f c P)(hl:l.length+(c+1)≤100)(hp:P→Q):post (f l) (Ext l (c+1) Q):=(h l (by omega)).mono fun x hx=>hx.mono (by omega) hp
theorem GW(hl:l.length+1≤100):post (ef (eO (l++[e]).length 8) (some (l++[e]))) (Ext l 1 Q):=bW (dt (by simp;omega)) (aP.2 (.one (Nat.le_refl 1) trivial))
theorem U_(hq:Q):post (some l) (Ext l 1 Q):=aP.2 (.nil hq)
end
section
variable {α : Type} {n lo hi : Int} {f : Bool → Option α} {Q : α → Prop}
theorem nc(h:post (f (decide (lo≤n∧n≤hi))) Q):post (aR (b4 n lo hi) f) Q:=by
 have:b4 n lo hi=some (decide (lo≤n∧n≤hi)):=by
  unfold b4;congr 1;rw[Bool.eq_iff_iff,Ih,nk,yS,decide_eq_true_iff]
 rw[this];exact h
theorem Fe(h:post (f (decide (lo≤n∧n≤hi))) Q):post (aR (eu n lo hi) f) Q:=nc h
end
theorem zp{E:Type}{B:Int→Option (Int⊕E)}(n:Nat)(R:E→Prop)(P:Nat→Prop)(hn:n<18446744073709551615)
  (step:∀i,i<n→post (B (i:Int)) fun x=>(x=.inl ((i:Int)+1)∧P i)∨∃e,x=.inr e∧R e) (fin:post (B (n:Int)) fun x=>∃e,x=.inr e∧((∀i,i<n→P i)→R e)):post (aL B 0) R:=by
 refine eJ (fun i=>∃k:Nat,i=(k:Int)∧k≤n∧∀j,j<k→P j) (fun i=>n-i.toNat) ⟨0,rfl,Nat.zero_le _,by simp⟩ (by simp;omega) ?_
 rintro _ ⟨k,rfl,hk,hP⟩;by_cases h:k<n
 ·refine(step k h).mono ?_
  rintro x (⟨rfl,hp⟩|⟨e,rfl,he⟩)
  ·refine⟨fun s' hs=>?_,fun _ h=>by(cases h)⟩
   cases hs;refine⟨⟨k+1,by simp,by omega,fun j hj=>?_⟩,by simp;omega⟩
   rcases Nat.lt_or_ge j k with h|h
   ·exact hP j h
   ·obtain rfl:j=k:=by omega
    exact hp
  ·exact⟨fun _ h=>(by cases h),fun e' he'=>by cases he';exact he⟩
 ·obtain rfl:k=n:=by omega
  refine fin.mono ?_
  rintro x ⟨e,rfl,he⟩;exact⟨fun _ h=>(by cases h),fun e' he'=>by cases he';exact he hP⟩
structure YS (np cO:Nat) (t:al):Prop where
 rH:0≤t.rH∧t.rH≤10
 a8:0≤t.a8∧t.a8<np
 fN:0≤t.fN∧t.fN<np
 Qjc:1≤cO∧cO≤3
 cap:t.cap.length=cO
 gP:∀i,i<t.cap.length→∀x,t.cap[i]?=some x→0≤x∧x≤1000
 cG:0≤t.cG∧t.cG≤1073741823
 opn:0≤t.bJ∧t.bJ≤t.b9
 b9:t.b9≤4096
 iJ:1≤t.iJ∧t.iJ≤4096
 rest:0≤t.bY∧t.bY≤4096
 aT:0≤t.aT∧t.aT≤7
 rK:0≤t.rK∧t.rK≤100000
 iY:0≤t.iY∧t.iY≤100
 iZ:0≤t.iZ∧t.iZ≤100
section
variable {x0 : al} {n : aD} {l0 : List al}
abbrev P8(x0:al):Prop:=(0≤x0.aT∧x0.aT≤7)∧(0≤x0.rK∧x0.rK≤100000)∧(0≤x0.iY∧x0.iY≤100)∧(0≤x0.iZ∧x0.iZ≤100)
theorem ty8:SZ (jI x0) 1 (P8 x0):=fun l hl=>by
 unfold jI;refine nc (a_ (fun h1=>nc (a_ (fun h2=>nc (a_ (fun h3=>nc (a_ (fun h4=>U_ ?_) (fun _=>GW hl))) (fun _=>GW hl))) (fun _=>GW hl))) (fun _=>GW hl))
 exact⟨of_decide_eq_true h1,of_decide_eq_true h2,of_decide_eq_true h3,of_decide_eq_true h4⟩
abbrev P7(x0:al):Prop:=(1≤x0.iJ∧x0.iJ≤4096)∧(0≤x0.bY∧x0.bY≤4096)∧P8 x0
theorem ty7:SZ (jH x0) 2 (P7 x0):=fun l hl=>by
 unfold jH;exact nc (a_ (fun h1=>nc (a_ (fun h2=>ty8.Ez hl fun h=>⟨of_decide_eq_true h1,of_decide_eq_true h2,h⟩) (fun _=>ty8.bad hl))) (fun _=>ty8.bad hl))
abbrev P6(x0:al):Prop:=(0≤x0.bJ∧x0.bJ≤x0.b9)∧x0.b9≤4096∧P7 x0
theorem ty6:SZ (jG x0) 3 (P6 x0):=fun l hl=>by
 unfold jG;refine nc (a_ (fun _=>ty7.bad hl) (fun h1=>ty7.Ez hl fun h=>?_))
 simp only[PW,ntF,pL]at h1;exact⟨of_decide_eq_true h1.1,h1.2,h⟩
abbrev P5(x0:al):Prop:=(0≤x0.cG∧x0.cG≤1073741823)∧P6 x0
theorem ty5:SZ (jF x0) 4 (P5 x0):=fun l hl=>by
 unfold jF;exact nc (a_ (fun h1=>ty6.Ez hl fun h=>⟨of_decide_eq_true h1,h⟩) (fun _=>ty6.bad hl))
def cg(l:List al):Nat:=match l with
 | []=>0
 |t ::_=>t.cap.length
theorem Y1:lA l0=some (cg l0:Int):=by
 unfold lA cg;cases l0 with
 |nil=>rfl
 |cons t r =>
  rw[bq (by simp [az];omega),show(0:Int)=((0:Nat):Int)from rfl,bC (a:=t) rfl];rfl
abbrev P4(cO:Nat)(x0:al):Prop:=(1≤cO∧cO≤3)∧x0.cap.length=cO∧(∀i,i<x0.cap.length→∀x,x0.cap[i]?=some x→0≤x∧x≤1000)∧P5 x0
theorem QbV{c:List Int}{cO:Nat}(hc:c.length≤1048576):post (jA c cO) fun r=>r=true→(1≤cO∧cO≤3)∧c.length=cO∧∀i,i<c.length→∀x,c[i]?=some x→0≤x∧x≤1000:=by
 unfold jA;refine nc (a_ (fun _=>aP.2 fun h=>by cases h) (fun h1=>?_))
 simp only[PW,ntF,yX,az,decide_eq_true_iff]at h1;have h2:=of_decide_eq_true h1.1;refine ba (R:=fun e:Unit⊕Bool=>(∃u,e=.inl u∧∀i,i<c.length→∀x,c[i]?=some x→0≤x∧x≤1000)∨e=.inr false) ?_ fun e he=>?_
 ·refine zp (B:=fun s=>eN c s) c.length _ (fun i=>∀x,c[i]?=some x→0≤x∧x≤1000) (by omega) (fun i hi=>?_) ?_
  ·show post (eN c (i:Int)) _;unfold eN;have e1:c[i]?=some c[i]:=List.getElem?_eq_getElem hi;rw[bD (by simp [az];omega),bC e1,ak,inc hi hc]
   exact nc (a_ (fun h=>aP.2 (.inl ⟨rfl,fun x hx=>by rw[e1]at hx;cases hx;exact of_decide_eq_true h⟩)) (fun _=>aP.2 (.inr ⟨_,rfl,.inr rfl⟩)))
  ·show post (eN c (c.length:Int)) _;unfold eN;rw[bq (by simp [az])]
   exact aP.2 ⟨_,rfl,fun h=>.inl ⟨_,rfl,h⟩⟩
 ·rcases he with⟨u,rfl,h⟩|rfl
  ·have hd:(1≤cO∧cO≤3)∧c.length=cO:=by omega
   rw[dw];exact aP.2 fun _=>⟨hd.1,hd.2,h⟩
  ·rw[nQ];exact aP.2 fun h=>by cases h
theorem ty4(hc:x0.cap.length≤1048576):SZ (jE l0 x0) 5 (P4 (cg l0) x0):=fun l hl=>by
 unfold jE;rw[Y1,ak];exact ba (QbV hc) fun r hr=>a_ (fun h=>ty5.Ez hl fun h'=>⟨(hr h).1,(hr h).2.1,(hr h).2.2,h'⟩) (fun _=>ty5.bad hl)
abbrev P3(np cO:Nat)(x0:al):Prop:=(0≤x0.a8∧x0.a8<np)∧(0≤x0.fN∧x0.fN<np)∧P4 cO x0
theorem ty3(hn:n.aV.length≤1048576)(hc:x0.cap.length≤1048576):SZ (jD n l0 x0) 6 (P3 n.aV.length (cg l0) x0):=fun l hl=>by
 unfold jD;have hs:dd .i64 (az n.aV) 1=(n.aV.length:Int)-1:=by unfold az;exact wT (by omega) (by omega)
 rw[hs];refine nc (a_ (fun h1=>nc (a_ (fun h2=>(ty4 hc).Ez hl fun h=>⟨?_,?_,h⟩) (fun _=>(ty4 hc).bad hl))) (fun _=>(ty4 hc).bad hl))
 ·have:=of_decide_eq_true h1;omega
 ·have:=of_decide_eq_true h2;omega
theorem ty2(hn:n.aV.length≤1048576)(hc:x0.cap.length≤1048576):SZ (jC n l0 x0) 7 ((0≤x0.rH∧x0.rH≤10)∧P3 n.aV.length (cg l0) x0):=fun l hl=>by
 unfold jC;exact nc (a_ (fun h1=>(ty3 hn hc).Ez hl fun h=>⟨of_decide_eq_true h1,h⟩) (fun _=>(ty3 hn hc).bad hl))
theorem XZ{i:Nat}{s:ByteArray}(hi:i≤l0.length)(hl:l0.length≤1048576):post (pP l0 (i:Int) s) fun _=>True:=by
 unfold pP;refine ba (R:=fun _=>True) ?_ fun e _=>by cases e <;> exact aP.2 trivial
 refine zp (B:=fun x=>fP l0 (i:Int) s x) i _ (fun _=>True) (by omega) (fun k hk=>?_) ?_
 ·show post (fP l0 (i:Int) s (k:Int)) _;unfold fP;have e1:l0[k]?=some (l0[k]'(by omega)):=List.getElem?_eq_getElem _
  rw[bD (by simp;omega),bC e1,ak,inc (n:=i) hk (by omega)]
  exact a_ (fun _=>aP.2 (.inr ⟨_,rfl,trivial⟩)) (fun _=>aP.2 (.inl ⟨rfl,trivial⟩))
 ·show post (fP l0 (i:Int) s (i:Int)) _;unfold fP;rw[bq (by simp)]
  exact aP.2 ⟨_,rfl,fun _=>trivial⟩
structure QgM (t:al):Prop where
 name:t.name.size≤1048576
 cap:t.cap.length≤1048576
theorem T9(hn:n.aV.length≤1048576)(hl:l0.length≤1048576){i:Nat}(hx:l0[i]?=some x0)(hI:QgM x0):post (pQ n l0 (i:Int)) (Ext [] 9 (YS n.aV.length (cg l0) x0)):=by
 unfold pQ;rw[bC hx,ak];have hi:=(List.getElem?_eq_some_iff.1 hx).1;have h1:SZ (jB n l0 (i:Int) x0) 8 ((0≤x0.rH∧x0.rH≤10)∧P3 n.aV.length (cg l0) x0):=fun l EB=>by
  unfold jB;exact ba (XZ (by omega) hl) fun r _=>a_ (fun _=>(ty2 hn hI.cap).bad EB) (fun _=>(ty2 hn hI.cap).Ez EB id)
 refine ba (Mo _ hI.name) fun r _=>a_ (fun _=>h1.Ez (by simp) fun h=>?_) (fun _=>h1.bad (l:=[]) (by simp))
 obtain⟨a,⟨b,c,d,e,f,g,⟨h,i,j,k,l,m,o,p⟩⟩⟩:=h;exact⟨a,b,c,d,e,f,g,h,i,j,k,l,m,o,p⟩
theorem Pc{r:List Int}{s:ByteArray}{i:Nat}(hi:i<1048576)(hr:r.length≤100)(out:List aa)(ho:out.length≤209715200){B:List aa×Int→Option ((List aa×Int)⊕(List aa))}
  (hB:∀l3 k,B (l3,k)=br (bh k (az r)) (aR (bj r k) fun x0=>aR (eE (i:Int)) fun r2=>ef (eO (l3++[(aa.mk x0 r2)]).length 24) (some (.inl ((l3++[(aa.mk x0 r2)]),(aU .i64 k 1))))) (some (.inr l3))):
  post (aL B (out,0)) (Ext out r.length (r=[])):=by
 refine(si r.length 1 (fun _=>False) out (by omega) (fun k o hk ho'=>?_) (fun o=>?_)).mono fun x hx=>hx.mono (by omega) fun h=>?_
 ·have e1:r[k]?=some r[k]:=List.getElem?_eq_getElem hk;rw[hB,bD (by simp [az];exact hk),bC e1,ak,inc hk (by omega)]
  exact ba (uP (i:Int) (KA (by omega))) fun s hs=>bW (dt (by simp;omega)) (D1 rfl (by omega) (sm_at (by omega)))
 ·rw[hB,bq (by simp [az])]
 ·cases r with
  |nil=>rfl
  |cons y ys=>exact(h 0 (by simp)).elim
theorem Ext.X3{α:Type} [Sm α] {r:List α}{c:Nat}{P:Prop}(h:Ext [] c P r):r.length≤c:=by have:=h.len;simpa using this
theorem S6(hn:n.aV.length≤1048576)(hl:l0.length≤1048576)(hI:∀t∈l0,QgM t):post (pO n l0) (Ext [] (1+9*l0.length) ((1≤l0.length∧l0.length≤6)∧∀t∈l0,YS n.aV.length (cg l0) t)):=by
 have main:∀l1:List aa,l1.length≤1→post (mc n l0 l1) (Ext l1 (9*l0.length) (∀i,i<l0.length→∀t,l0[i]?=some t→YS n.aV.length (cg l0) t)):=by
  intro l1 h1;refine uE ?_
  refine(si l0.length 9 _ l1 (by omega) (fun i out hi ho=>?_) (fun out=>?_)).mono fun r h=>aP.2 h
  ·show post (gR n l0 out (i:Int)) _;unfold gR;have e1:l0[i]?=some l0[i]:=List.getElem?_eq_getElem hi;rw[bD (by simp [az];exact hi),inc hi hl]
   refine ba (T9 hn hl e1 (hI _ (List.getElem_mem hi))) fun r1 HZ=>?_
   have:=HZ.X3;refine ba (Pc (i:=i) (s:=ByteArray.empty) (by omega) (by omega) out (by omega) (fun _ _=>rfl)) fun l4 h4=>aP.2 ⟨_,rfl,h4.mono this fun h=>?_⟩
   intro t ht;rw[e1]at ht;cases ht;exact HZ.of_nil h
  ·show gR n l0 out (l0.length:Int)=_;unfold gR;rw[bq (by simp [az])]
 unfold pO;refine nc (a_ (fun h=>(main [] (by simp)).mono fun r hr=>hr.mono (by omega) fun h'=>⟨?_,fun t ht=>?_⟩) (fun h=>bW (dt (by simp)) ((main _ (by simp)).mono fun r hr=>(Ext.one (P:=False) (Nat.le_refl 1) (sm_at (s:=ByteArray.empty) (by simp [ByteArray.size_empty]))).trans hr (by omega) fun h _=>h.elim)))
 ·have:=of_decide_eq_true h;simp only[az]at this;omega
 ·obtain⟨i,hi⟩:=List.getElem?_of_mem ht;exact h' i (List.getElem?_eq_some_iff.1 hi).1 t hi
end
def OX(np:Nat)(s:a6):Prop:=(s.place=-1∧s.bJ=0∧s.b9=0∧s.dn=0)∨(0≤s.place∧s.place<np∧0≤s.bJ∧s.bJ≤s.b9∧s.b9≤4096∧0≤s.dn∧s.dn≤4096)
structure OW (np cO types:Nat) (o:ag):Prop where
 load:o.load.length=cO
 Qgr:∀i,i<o.load.length→∀x,o.load[i]?=some x→0≤x∧x≤1000
 pick:OX np o.pick
 drop:OX np o.drop
 one:¬(o.pick.place=-1∧o.drop.place=-1)
 cG:0≤o.cG∧o.cG≤1073741823
 eH:-1≤o.eH∧o.eH≤1000000
 split:1≤o.split∧o.split≤4
 whole:1<o.split→o.pick.place=-1∨o.drop.place=-1
 last:-1≤o.b8∧o.b8<types
 now:-1≤o.now∧o.now<types
section
variable {x0 : ag} {types : Nat} {np : Nat} {cO : Nat}
abbrev Q5(types:Nat)(x0:ag):Prop:=(-1≤x0.eH∧x0.eH≤1000000)∧(1≤x0.split∧x0.split≤4)∧(1<x0.split→x0.pick.place=-1∨x0.drop.place=-1)∧(-1≤x0.b8∧x0.b8<types)∧(-1≤x0.now∧x0.now<types)
theorem or5:SZ (jM types x0) 1 (Q5 types x0):=fun l hl=>by
 unfold jM;refine Fe (a_ (fun h1=>Fe (a_ (fun _=>GW hl) (fun h2=>U_ ?_))) (fun _=>GW hl))
 simp only[PW,Qea,ntF,pL,yX,jY,Cn]at h2;have h3:=of_decide_eq_true h1;have h4:=of_decide_eq_true h2.1.1.1.1.1;obtain⟨⟨⟨⟨⟨_,h5⟩,h6⟩,h7⟩,h8⟩,h9⟩:=h2;exact⟨h3,h4,fun h=>by rcases h5 with h5|h5;omega;exact h5,⟨h6,h7⟩,⟨h8,h9⟩⟩
abbrev Q6(types:Nat)(x0:ag):Prop:=(0≤x0.cG∧x0.cG≤1073741823)∧Q5 types x0
theorem or6:SZ (jN types x0) 2 (Q6 types x0):=fun l hl=>by
 unfold jN;exact Fe (a_ (fun h1=>or5.Ez hl fun h=>⟨of_decide_eq_true h1,h⟩) (fun _=>or5.bad hl))
def QbI(s:a6):Prop:=(s.place=-1∧s.bJ=0∧s.b9=0∧s.dn=0)∨(0≤s.place∧0≤s.bJ∧s.bJ≤s.b9∧s.b9≤4096∧0≤s.dn∧s.dn≤4096)
theorem WJ(s:a6):post (iM s) fun r=>r=0→QbI s:=by
 unfold iM;refine a_ (fun h=>aP.2 fun _=>.inl ?_) (fun _=>a_ (fun _=>aP.2 fun h=>absurd h (by decide)) (fun h=>aP.2 fun _=>.inr ?_))
 ·simp only[Ih,kJ]at h;exact⟨h.1.1.1,h.1.1.2,h.1.2,h.2⟩
 ·simp only[PW,jY,pL]at h;omega
abbrev Q4(types:Nat)(x0:ag):Prop:=QbI x0.pick∧QbI x0.drop∧Q6 types x0
theorem or4:SZ (jL types x0) 3 (Q4 types x0):=fun l hl=>by
 unfold jL;refine ba (WJ _) fun r4 h4=>a_ (fun _=>or6.bad hl) (fun h=>ba (WJ _) fun r8 h8=>a_ (fun _=>or6.bad hl) (fun h'=>or6.Ez hl fun h6=>⟨h4 (by simpa using h),h8 (by simpa using h'),h6⟩))
abbrev Q3(types:Nat)(x0:ag):Prop:=¬(x0.pick.place=-1∧x0.drop.place=-1)∧Q4 types x0
theorem or3:SZ (jK types x0) 4 (Q3 types x0):=fun l hl=>by
 unfold jK;refine a_ (fun _=>or4.bad hl) (fun h=>or4.Ez hl fun h'=>⟨?_,h'⟩)
 simp only[Qea,zC]at h;omega
abbrev Q2(np types:Nat)(x0:ag):Prop:=(-1≤x0.pick.place∧x0.pick.place<np)∧(-1≤x0.drop.place∧x0.drop.place<np)∧Q3 types x0
theorem or2(hn:np≤1048576):SZ (fQ np types x0) 5 (Q2 np types x0):=fun l hl=>by
 unfold fQ;have hs:dd .i64 (np:Int) 1=(np:Int)-1:=wT (by omega) (by omega)
 rw[hs];refine Fe (a_ (fun h1=>Fe (a_ (fun h2=>or3.Ez hl fun h=>⟨?_,?_,h⟩) (fun _=>or3.bad hl))) (fun _=>or3.bad hl))
 ·have:=of_decide_eq_true h1;omega
 ·have:=of_decide_eq_true h2;omega
theorem T8{c:List Int}(hc:c.length≤1048576):post (mT c cO) fun r=>r=true→c.length=cO∧∀i,i<c.length→∀x,c[i]?=some x→0≤x∧x≤1000:=by
 unfold mT;refine a_ (fun _=>aP.2 fun h=>by cases h) (fun h1=>?_)
 simp only[yX,az]at h1;have hd:c.length=cO:=by omega
 refine ba (R:=fun e:Unit⊕Bool=>(∃u,e=.inl u∧∀i,i<c.length→∀x,c[i]?=some x→0≤x∧x≤1000)∨e=.inr false) ?_ fun e he=>?_
 ·refine zp (B:=fun s=>fO c s) c.length _ (fun i=>∀x,c[i]?=some x→0≤x∧x≤1000) (by omega) (fun i hi=>?_) ?_
  ·show post (fO c (i:Int)) _;unfold fO;have e1:c[i]?=some c[i]:=List.getElem?_eq_getElem hi;rw[bD (by simp [az];omega),bC e1,ak,inc hi hc]
   refine a_ (fun _=>aP.2 (.inr ⟨_,rfl,.inr rfl⟩)) (fun h2=>a_ (fun _=>aP.2 (.inr ⟨_,rfl,.inr rfl⟩)) (fun h3=>aP.2 (.inl ⟨rfl,fun x hx=>?_⟩)))
   rw[e1]at hx;cases hx;simp only[jY,pL]at h2 h3;exact⟨h2,h3⟩
  ·show post (fO c (c.length:Int)) _;unfold fO;rw[bq (by simp [az])]
   exact aP.2 ⟨_,rfl,fun h=>.inl ⟨_,rfl,h⟩⟩
 ·rcases he with⟨u,rfl,h⟩|rfl
  ·rw[dw];exact aP.2 fun _=>⟨hd,h⟩
  ·rw[nQ];exact aP.2 fun h=>by cases h
structure Z5 (o:ag):Prop where
 name:o.name.size≤1048576
 load:o.load.length≤1048576
theorem T_{l:List ag}(hn:np≤1048576)(hl:l.length≤1048576){i:Nat}(hx:l[i]?=some x0)(hI:Z5 x0):post (pT np cO types l (i:Int)) (Ext [] 9 (OW np cO types x0)):=by
 unfold pT;rw[bC hx,ak];have hi:=(List.getElem?_eq_some_iff.1 hx).1;have hb:SZ (fun l2=>aR (mT x0.load cO) fun r1=>br r1 (fQ np types x0 l2) (ef (eO (l2++[17]).length 8) (fQ np types x0 (l2++[17])))) 6 ((x0.load.length=cO∧∀i,i<x0.load.length→∀x,x0.load[i]?=some x→0≤x∧x≤1000)∧Q2 np types x0):=fun l EB =>
  ba (T8 hI.load) fun r hr=>a_ (fun h=>(or2 hn).Ez EB fun h'=>⟨hr h,h'⟩) (fun _=>(or2 hn).bad EB)
 have h1:SZ (jJ np cO types l (i:Int) x0) 7 ((x0.load.length=cO∧∀i,i<x0.load.length→∀x,x0.load[i]?=some x→0≤x∧x≤1000)∧Q2 np types x0):=fun l1 EB=>by
  unfold jJ;refine ba (R:=Ext l1 1 True) ?_ fun l2 h2=>?_
  ·refine zp (B:=fun s=>fR np cO types l (i:Int) x0 l1 s) i _ (fun _=>True) (by omega) (fun k hk=>?_) ?_
   ·show post (fR np cO types l (i:Int) x0 l1 (k:Int)) _;unfold fR;have e1:l[k]?=some (l[k]'(by omega)):=List.getElem?_eq_getElem _
    rw[bD (by simp;omega),bC e1,ak,inc (n:=i) hk (by omega)]
    exact a_ (fun _=>bW (dt (by simp;omega)) (aP.2 (.inr ⟨_,rfl,.one (Nat.le_refl 1) trivial⟩))) (fun _=>aP.2 (.inl ⟨rfl,trivial⟩))
   ·show post (fR np cO types l (i:Int) x0 l1 (i:Int)) _;unfold fR;rw[bq (by simp)]
    exact aP.2 ⟨_,rfl,fun _=>.nil trivial⟩
  ·have:=h2.len;exact(hb l2 (by omega)).mono fun r hr=>h2.trans hr (by omega) fun _ h=>h
 refine ba (Mo _ hI.name) fun r _=>a_ (fun _=>(h1.Ez (l:=[]) (by simp) fun h=>?_:post _ (Ext [] 8 (OW np cO types x0))).mono fun r hr=>hr.mono (by omega) id) (fun _=>(h1.bad (l:=[]) (by simp):post _ (Ext [] 8 (OW np cO types x0))).mono fun r hr=>hr.mono (by omega) id)
 obtain⟨⟨a,b⟩,⟨c0,c⟩,⟨d0,d⟩,e,f,g,h,⟨i,j,k,m,o⟩⟩:=h;refine⟨a,b,?_,?_,e,h,i,j,k,m,o⟩
 ·rcases f with f|f
  ·exact .inl f
  ·exact .inr ⟨f.1,c,f.2⟩
 ·rcases g with g|g
  ·exact .inl g
  ·exact .inr ⟨g.1,d,g.2⟩
theorem S7{n:aD}{l:List ag}(hn:n.aV.length≤1048576)(hl:l.length≤1048576)(hI:∀t∈l,Z5 t):post (pS n cO types l) (Ext [] (1+9*l.length) (l.length≤10∧∀t∈l,OW n.aV.length cO types t)):=by
 have main:∀l1:List aa,l1.length≤1→post (me n cO types l l1) (Ext l1 (9*l.length) (∀i,i<l.length→∀t,l[i]?=some t→OW n.aV.length cO types t)):=by
  intro l1 h1;refine uE ?_
  refine(si l.length 9 _ l1 (by omega) (fun i out hi ho=>?_) (fun out=>?_)).mono fun r h=>aP.2 h
  ·show post (gS n cO types l out (i:Int)) _;unfold gS;have e1:l[i]?=some l[i]:=List.getElem?_eq_getElem hi;rw[bD (by simp [az];exact hi),inc hi hl]
   refine ba (T_ hn hl e1 (hI _ (List.getElem_mem hi))) fun r1 HZ=>?_
   have:=HZ.X3;refine ba (Pc (i:=i) (s:=ByteArray.empty) (by omega) (by omega) out (by omega) (fun _ _=>rfl)) fun l4 h4=>aP.2 ⟨_,rfl,h4.mono this fun h=>?_⟩
   intro t ht;rw[e1]at ht;cases ht;exact HZ.of_nil h
  ·show gS n cO types l out (l.length:Int)=_;unfold gS;rw[bq (by simp [az])]
 unfold pS;refine a_ (fun h=>bW (dt (by simp)) ((main _ (by simp)).mono fun r hr=>(Ext.one (P:=False) (Nat.le_refl 1) (sm_at (s:=ByteArray.empty) (by simp [ByteArray.size_empty]))).trans hr (by omega) fun h _=>h.elim)) (fun h=>(main [] (by simp)).mono fun r hr=>hr.mono (by omega) fun h'=>⟨?_,fun t ht=>?_⟩)
 ·simp only[pL,az]at h;omega
 ·obtain⟨i,hi⟩:=List.getElem?_of_mem ht;exact h' i (List.getElem?_eq_some_iff.1 hi).1 t hi
end
def LA(ah:Nat)(p:aA):Prop:=0≤p.x0∧p.x0<ah∧0≤p.x1∧p.x1<ah∧p.x0≠p.x1
theorem Pd{i:Nat}(hi:i<1048576):post (kC (i:Int)) fun s=>s.size≤21:=by
 unfold kC;refine ba (R:=fun e=>e.2.size≤20) ?_ fun e he=>bW (by rw[uq];simp;omega) (aP.2 (by rw[uN,uq];simp;omega))
 refine eJ (fun s=>∃m k:Nat,s.1=(m:Int)∧m<1048576∧m<10 ^ k∧s.2.size+k≤20) (fun s=>s.1.toNat) ⟨i,7,rfl,hi,by omega,by simp [ByteArray.size_empty]⟩ (by simp;omega) ?_
 rintro⟨_,s⟩ ⟨m,k,rfl,h0,h1,h2⟩;simp only at h2;show post (kf (m:Int) s) _;unfold kf;refine a_ (fun hb=>bW (by rw[uq];simp;omega) (bZ ?_)) (fun _=>b5 (show s.size≤20 by omega))
 simp only[nk]at hb;have hq:so .i64 (m:Int) 10=((m / 10:Nat):Int):=by rw[QgF (by omega),Int.tdiv_eq_ediv_of_nonneg (by omega)];omega
 obtain⟨k,rfl⟩:∃j,k=j+1:=⟨k-1,by
  rcases Nat.eq_zero_or_pos k with rfl|h
  ·simp at h1;omega
  ·omega⟩
 rw[hq];refine⟨⟨m / 10,k,rfl,by omega,by rw[Nat.pow_succ]at h1;omega,?_⟩,by simp;omega⟩
 rw[uN,uq];simp;omega
theorem Nd{ah:Nat}{l:List aA}{word:ByteArray}{cU:Bool}(hl:l.length≤1048576)(hw:word.size≤20):post (oL ah l word cU) (Ext [] (1+l.length) (l.length≤16∧∀p∈l,LA ah p)):=by
 have main:∀l1:List aa,l1.length≤1→post (kV ah l word cU l1) (Ext l1 l.length (∀i,i<l.length→∀p,l[i]?=some p→LA ah p)):=by
  intro l1 h1;refine uE ?_
  refine(si l.length 1 _ l1 (by omega) (fun i out hi ho=>?_) (fun out=>?_)).mono fun r h=>aP.2 (h.mono (by omega) id)
  ·show post (gl ah l word cU out (i:Int)) _;unfold gl;have e1:l[i]?=some l[i]:=List.getElem?_eq_getElem hi;rw[bD (by simp [az];exact hi),inc hi hl,bC e1,ak]
   have Ty:eQ.size=1:=rfl;refine bW (by omega) (ba (Pd (by omega)) fun r hr=>bW (by rw[uN];omega) ?_)
   have hsm:∀{e:Int},Sm.sm (aa.mk e (dC (dC word eQ) r)):=sm_at (by rw[uN,uN];omega)
   generalize l[i]=p at e1;refine a_ (fun _=>bW (dt (by simp;omega)) (D1 rfl (Nat.le_refl 1) hsm)) (fun h=>?_)
   refine ba (R:=fun _=>True) ?_ fun tw _=>a_ (fun _=>bW (dt (by simp;omega)) (D1 rfl (Nat.le_refl 1) hsm)) (fun _=>OG rfl ?_)
   ·refine eJ (fun s=>∃k:Nat,s.2=(k:Int)∧k≤i) (fun s=>i-s.2.toNat) ⟨0,rfl,Nat.zero_le _⟩ (by simp;omega) ?_
    rintro⟨b,_⟩ ⟨k,rfl,hk⟩;show post (kW ah l word cU out (i:Int) p r b (k:Int)) _;unfold kW;refine a_ (fun hb=>?_) (fun _=>b5 trivial)
    simp only[js]at hb;have rS:k<i:=by omega
    rw[inc (n:=i) rS (by omega)]
    have leaf:∀b:Bool,post (some (Sum.inl (b,(k:Int)+1):(Bool×Int)⊕Bool)) fun x=>(∀s',x=.inl s'→(∃k:Nat,s'.2=(k:Int)∧k≤i)∧i-s'.2.toNat<i-((b,(k:Int)):Bool×Int).2.toNat)∧∀e,x=.inr e→True:=
     fun b=>bZ ⟨⟨k+1,by simp,by omega⟩,by simp;omega⟩
    refine a_ (fun _=>leaf _) (fun _=>?_)
    have e2:l[k]?=some (l[k]'(by omega)):=List.getElem?_eq_getElem _
    rw[bC e2,ak];exact a_ (fun _=>a_ (fun _=>leaf _) (fun _=>a_ (fun _=>a_ (fun _=>leaf _) (fun _=>leaf _)) (fun _=>leaf _))) (fun _=>a_ (fun _=>a_ (fun _=>leaf _) (fun _=>leaf _)) (fun _=>leaf _))
   ·intro q hq;rw[e1]at hq;cases hq;simp only[PW,jY,Cn,zC]at h;exact⟨h.1.1.1.1,h.1.1.1.2,h.1.1.2,h.1.2,h.2⟩
  ·show gl ah l word cU out (l.length:Int)=_;unfold gl;rw[bq (by simp [az])]
 unfold oL;refine a_ (fun h=>bW (dt (by simp)) ((main _ (by simp)).mono fun r hr=>(Ext.one (P:=False) (Nat.le_refl 1) (sm_at (by omega))).trans hr (by omega) fun h _=>h.elim)) (fun h=>(main [] (by simp)).mono fun r hr=>hr.mono (by omega) fun h'=>⟨?_,fun t ht=>?_⟩)
 ·simp only[pL,az]at h;omega
 ·obtain⟨i,hi⟩:=List.getElem?_of_mem ht;exact h' i (List.getElem?_eq_some_iff.1 hi).1 t hi
theorem D9{word:ByteArray}{r:List aa}(hw:word.size≤20)(hr:r.length≤5000000000000)(hs:∀f∈r,Sm.sm f):post (mV word r) fun x=>x.length=r.length:=by
 refine uE ?_
 refine eJ (fun s=>∃k:Nat,s.2=(k:Int)∧k≤r.length∧s.1.length=k) (fun s=>r.length-s.2.toNat) ⟨0,rfl,Nat.zero_le _,rfl⟩ (by simp;omega) ?_
 rintro⟨out,_⟩ ⟨k,rfl,hk,hl⟩;show post (mh word r out (k:Int)) _;unfold mh mg;refine a_ (fun hb=>?_) (fun hb=>b5 (aP.2 ?_))
 ·simp only[js,az]at hb;simp only at hl;have rS:k<r.length:=by omega
  have e1:r[k]?=some r[k]:=List.getElem?_eq_getElem rS;have hsk:(r[k]).eK.size≤64:=hs _ (List.getElem_mem rS);have AE:aU .i64 (k:Int) 1=(k:Int)+1:=fp (by omega) (by omega)
  have Ty:eQ.size=1:=rfl;rw[bC e1,ak,ak,AE];have leaf:∀f:aa,post (ef (eO (out++[f]).length 24) (some (Sum.inl (out++[f],(k:Int)+1):(List aa×Int)⊕(List aa)))) fun x=>(∀s',x=.inl s'→(∃k:Nat,s'.2=(k:Int)∧k≤r.length∧s'.1.length=k)∧r.length-s'.2.toNat<r.length-((out,(k:Int)):List aa×Int).2.toNat)∧∀e,x=.inr e→post (some e) fun x=>x.length=r.length:=
   fun f=>bW (dt (by simp;omega)) (bZ ⟨⟨k+1,by simp,by omega,by simp;omega⟩,by simp;omega⟩)
  exact a_ (fun _=>leaf _) (fun _=>bW (by omega) (bW (by rw[uN];omega) (leaf _)))
 ·simp only[jY,az]at hb;simp only at hl;omega
structure Rz (x:ab):Prop where
 bG:QbD x.bG
 types:x.types.length≤1048576
 ah:x.ah.length≤1048576
 bV:x.bV.length≤1048576
 before:x.before.length≤1048576
 QkE:∀t∈x.types,QgM t
 Qkt:∀t∈x.ah,Z5 t
structure da (x:ab):Prop where
 bG:OV x.bG
 Qdw:1≤x.types.length
 types:x.types.length≤6
 typ:∀t∈x.types,YS x.bG.aV.length (cg x.types) t
 ah:x.ah.length≤10
 ord:∀o∈x.ah,OW x.bG.aV.length (cg x.types) x.types.length o
 bV:x.bV.length≤16
 Xj:∀p∈x.bV,LA x.ah.length p
 before:x.before.length≤16
 JF:∀p∈x.before,LA x.ah.length p
theorem S8{x:ab}(hI:Rz x):post (pV x) fun r=>r=[]→da x:=by
 have h1:=hI.types;have h2:=hI.ah;have h3:=hI.bV;have h4:=hI.before;have h5:=hI.bG.cH;unfold pV;refine ba (ME (n:=x.bG) hI.bG) fun r hr=>?_
 have l1:=hr.X3;refine ba (D9 (show 3≤20 by omega) (by omega) hr.sms:post (oN Qe r) _) fun r1 HZ=>?_
 refine ba (S6 (n:=x.bG) hI.bG.aV h1 hI.QkE) fun r2 Vy=>?_
 have l2:=Vy.X3;refine ba (D9 (show 5≤20 by omega) (by omega) Vy.sms) fun r3 hr3=>bW (dt (by simp;omega)) ?_
 rw[Y1,ak];refine ba (S7 (n:=x.bG) (types:=x.types.length) hI.bG.aV h2 hI.Qkt) fun r5 hr5=>?_
 have l5:=hr5.X3;refine ba (D9 (show 6≤20 by omega) (by omega) hr5.sms) fun r6 hr6=>bW (dt (by simp;omega)) ?_
 have hC:post (pU (az x.ah) x.bV x.before) fun r=>r.length≤2+x.bV.length+x.before.length∧(∀f∈r,Sm.sm f)∧(r=[]→(x.bV.length≤16∧∀p∈x.bV,LA x.ah.length p)∧(x.before.length≤16∧∀p∈x.before,LA x.ah.length p)):=by
  unfold pU;refine ba (Nd (ah:=x.ah.length) (word:=KY) (cU:=true) h3 (show 5≤20 by omega)) fun a ha=>ba (Nd (ah:=x.ah.length) (word:=Ia) (cU:=false) h4 (show 6≤20 by omega)) fun b hb=>?_
  have la:=ha.X3;have lb:=hb.X3;refine bW (dt (by simp;omega)) (aP.2 ⟨by simp;omega,fun f hf=>?_,fun h=>?_⟩)
  ·rcases List.mem_append.1 hf with h|h
   ·exact ha.sms f h
   ·exact hb.sms f h
  ·rw[List.append_eq_nil_iff]at h;exact⟨ha.of_nil h.1,hb.of_nil h.2⟩
 refine ba hC fun r7 ⟨l7,s7,c7⟩=>ba (D9 (show 5≤20 by omega) (by omega) s7) fun r8 hr8=>bW (dt (by simp;omega)) (aP.2 fun h=>?_)
 simp only[List.append_eq_nil_iff]at h;obtain⟨⟨⟨e1,e3⟩,e6⟩,e8⟩:=h;have nil:∀{a b:List aa},a.length=b.length→a=[]→b=[]:=fun h h'=>List.length_eq_zero_iff.1 (by rw[←h,h'];rfl)
 obtain⟨⟨t1,t2⟩,t3⟩:=Vy.of_nil (nil hr3 e3);obtain⟨o1,o2⟩:=hr5.of_nil (nil hr6 e6);obtain⟨⟨a1,a2⟩,⟨b1,b2⟩⟩:=c7 (nil hr8 e8);exact⟨hr.of_nil (nil HZ e1),t1,t2,t3,o1,o2,a1,a2,b1,b2⟩
def Lu:a6:=a6.mk 0 0 0 0
def QdF:al:=al.mk ByteArray.empty 0 0 0 [] 0 0 0 0 0 0 0 0 0
def QdE:bp:=bp.mk (ab.mk (aD.mk [] []) [] [] [] []) QdF (ay.mk 0 0 [] []) []
def rG:aX:=aX.mk false 0 [] 0 0
def Us:an:=an.mk 0 0 rG
def atS(v:ae)(o:ag):a6:=if v.drop=true then o.drop else o.pick
theorem QbR{v:ae}{o:ag}(h:v.drop=true):atS v o=o.drop:=if_pos h
theorem QbQ{v:ae}{o:ag}(h:v.drop=false):atS v o=o.pick:=if_neg (by rw[h];decide)
def rQ(x:ab)(v:ae):Option a6:=
 match(if 0≤v.aJ then x.ah[v.aJ.toNat]? else none)with
 |none=>none
 |some o=>if 0≤(atS v o).place then some (atS v o)else none
def T4(x:ab)(r:ay):Bool:=decide (0≤r.aY∧r.aY<x.types.length∧0≤r.aK∧r.aK≤4096∧r.aq.length≤20)
def s_(x:ab)(r:ay):Bool:=T4 x r&&r.aq.all fun v=>(rQ x v).isSome
def a7(x:ab)(r:ay):List a6:=r.aq.map fun v=>(rQ x v).getD Lu
def bI(x:ab)(r:ay):al:=x.types.getD r.aY.toNat QdF
structure rr (r:ay):Prop where
 aY:x9 r.aY
 aK:x9 r.aK
 aQ:r.aQ.length≤1048576
 aq:r.aq.length≤1048576
section
variable {x : ab} {r : ay}
theorem QgD:(((((bh r.aY 0)||(cD r.aY (az x.types)))||(bh r.aK 0))||(dp r.aK 4096))||(dp (az r.aq) 20))=!T4 x r:=by
 unfold T4 az;rw[Bool.eq_iff_iff];simp only[orT,ntT,js,nk,w4,decide_eq_false_iff_not];omega
theorem Wx(hx:da x){v:ae}{s:a6}(h:rQ x v=some s):0≤s.place∧s.place<x.bG.aV.length∧0≤s.bJ∧s.bJ≤s.b9∧s.b9≤4096∧0≤s.dn∧s.dn≤4096:=by
 unfold rQ at h;split at h
 ·cases h
 ·rename_i o ho;split at ho
  ·have hm:=List.mem_of_getElem? ho;have hO:=hx.ord o hm;split at h
   ·rename_i h0;cases h;cases hd:v.drop with
    |true =>
     rw[QbR hd]at h0 ⊢;rcases hO.drop with h1|h1
     ·omega
     ·exact h1
    |false =>
     rw[QbQ hd]at h0 ⊢;rcases hO.pick with h1|h1
     ·omega
     ·exact h1
   ·cases h
  ·cases ho
theorem H7(v:ae):xA x.ah v=some (match rQ x v with
  |some s=>(s,0)
  |none=>(Lu,if 0≤v.aJ∧v.aJ<x.ah.length then 19 else 2)):=by
 unfold xA uD tF rQ;rw[ak];by_cases h:0≤v.aJ∧v.aJ<x.ah.length
 ·rw[bD (by simp only[Ih,nk,js,az];exact h),A5 h.1 h.2,ak,if_pos h.1,List.getElem?_eq_getElem (by omega),if_pos h]
  generalize x.ah[v.aJ.toNat]'(by omega)=o
  cases hd:v.drop with
  |true =>
   rw[fW];simp only[QbR hd,JI,js];by_cases hp:o.drop.place<0
   ·rw[if_pos hp,if_neg (by omega)];rfl
   ·rw[if_neg hp,if_pos (by omega)]
  |false =>
   rw[jg];simp only[QbQ hd,JI,js];by_cases hp:o.pick.place<0
   ·rw[if_pos hp,if_neg (by omega)];rfl
   ·rw[if_neg hp,if_pos (by omega)]
 ·rw[bq (by simp only[Qea,Cn,jY,az];omega),if_neg h]
  by_cases h0:0≤v.aJ
  ·rw[if_pos h0,List.getElem?_eq_none (by omega)];rfl
  ·rw[if_neg h0];rfl
theorem Nx(v:ae):lC x v=some (match rQ x v with
  |some s=>(s,true)
  |none=>((if 0≤v.aJ then match x.ah[v.aJ.toNat]? with|some o=>atS v o|none=>Lu else Lu),false)):=by
 unfold lC rQ;by_cases h:0≤v.aJ∧v.aJ<x.ah.length
 ·rw[bq (by simp only[PW,jY,Cn,az];exact h),A5 h.1 h.2,ak,if_pos h.1,if_pos h.1,List.getElem?_eq_getElem (by omega)]
  generalize x.ah[v.aJ.toNat]'(by omega)=o
  cases hd:v.drop with
  |true =>
   rw[fW];simp only[QbR hd];by_cases hp:0≤o.drop.place
   ·rw[if_pos hp,show cD o.drop.place 0=true by simpa using hp]
   ·rw[if_neg hp,show cD o.drop.place 0=false by simpa using hp]
  |false =>
   rw[jg];simp only[QbQ hd];by_cases hp:0≤o.pick.place
   ·rw[if_pos hp,show cD o.pick.place 0=true by simpa using hp]
   ·rw[if_neg hp,show cD o.pick.place 0=false by simpa using hp]
 ·rw[bD (by simp only[orT,js,nk,az];omega)]
  by_cases h0:0≤v.aJ
  ·rw[if_pos h0,if_pos h0,List.getElem?_eq_none (by omega)];rfl
  ·rw[if_neg h0,if_neg h0];rfl
theorem UL{α:Type}{p:α→Bool}{l:List α}{k:Nat}{a:α}(ha:l[k]?=some a)(hp:p a=false):l.all p=false:=by
 rw[List.all_eq_false];exact⟨a,List.mem_of_getElem? ha,by simp [hp]⟩
theorem ZI:jT x r=some (s_ x r):=by
 unfold jT;rw[QgD];unfold s_;by_cases h:T4 x r=true
 ·have h5:r.aq.length≤20:=(of_decide_eq_true h).2.2.2.2;rw[h,Bool.not_true,jg,Bool.true_and];apply post.eq;refine ba (R:=fun e:Unit⊕Bool=>(∃u,e=.inl u∧(r.aq.all fun v=>(rQ x v).isSome)=true)∨(e=.inr false∧(r.aq.all fun v=>(rQ x v).isSome)=false)) ?_ ?_
  ·refine zp (B:=fun s=>gL x r s) r.aq.length _ (fun i=>∀v,r.aq[i]?=some v→(rQ x v).isSome=true) (by omega) (fun i hi=>?_) ?_
   ·show post (gL x r (i:Int)) _;unfold gL;have e1:r.aq[i]?=some r.aq[i]:=List.getElem?_eq_getElem hi;rw[bD (by simp [az];omega),bC e1,ak,inc hi (by omega)]
    show post (aR (lC x r.aq[i]) _) _;rw[Nx,ak];cases hs:rQ x r.aq[i]with
    |some s=>exact aP.2 (.inl ⟨rfl,fun v hv=>by rw[e1]at hv;cases hv;rw[hs];rfl⟩)
    |none=>exact aP.2 (.inr ⟨_,rfl,.inr ⟨rfl,UL e1 (by rw[hs];rfl)⟩⟩)
   ·show post (gL x r (r.aq.length:Int)) _;unfold gL;rw[bq (by simp [az])]
    refine aP.2 ⟨_,rfl,fun h=>.inl ⟨_,rfl,?_⟩⟩
    rw[List.all_eq_true];intro v hv;obtain⟨i,hi⟩:=List.getElem?_of_mem hv;exact h i (List.getElem?_eq_some_iff.1 hi).1 v hi
  ·rintro e (⟨u,rfl,h⟩|⟨rfl,h⟩)
   ·rw[dw,h];exact aP.2 rfl
   ·rw[nQ,h];exact aP.2 rfl
 ·have h':T4 x r=false:=by simpa using h
  rw[h',Bool.not_false,fW,Bool.false_and]
theorem Un(h:T4 x r=true):bj x.types r.aY=some (bI x r)∧bI x r∈x.types:=by
 have h5:=of_decide_eq_true h;unfold bI;rw[List.getD_eq_getElem?_getD,List.getElem?_eq_getElem (by omega),A5 h5.1 h5.2.1]
 exact⟨rfl,List.getElem_mem _⟩
theorem Qfg:xh x r=some (if s_ x r=true then(bp.mk x (bI x r) r (a7 x r),true)else(QdE,false)):=by
 unfold xh;rw[QgD];unfold s_;by_cases h:T4 x r=true
 ·have h5:r.aq.length≤20:=(of_decide_eq_true h).2.2.2.2;rw[h,Bool.not_true,jg,Bool.true_and,(Un h).1,ak];apply post.eq;refine ba (R:=fun e:List a6⊕(bp×Bool)=>(e=.inl (a7 x r)∧(r.aq.all fun v=>(rQ x v).isSome)=true)∨(e=.inr (QdE,false)∧(r.aq.all fun v=>(rQ x v).isSome)=false)) ?_ ?_
  ·refine eJ (fun s=>∃k:Nat,k≤r.aq.length∧s=((r.aq.take k).map (fun v=>(rQ x v).getD Lu),(k:Int))∧∀i v,i<k→r.aq[i]?=some v→(rQ x v).isSome=true) (fun s=>r.aq.length-s.2.toNat) ⟨0,Nat.zero_le _,rfl,fun i v hi=>by omega⟩ (by simp;omega) ?_
   rintro _ ⟨k,hk,rfl,hS⟩;show post (tA x r (bI x r) _ (k:Int)) _;unfold tA;refine a_ (fun hb=>?_) (fun hb=>b5 (.inl ⟨?_,?_⟩))
   ·simp only[js,az]at hb;have rS:k<r.aq.length:=by omega
    have e1:r.aq[k]?=some r.aq[k]:=List.getElem?_eq_getElem rS;rw[bC e1,ak,H7,ak,inc rS (by omega)]
    cases hs:rQ x r.aq[k]with
    |none =>
     simp only;rw[bD (by simp only[orT,xb];left;split <;> omega)]
     exact b5 (.inr ⟨rfl,UL e1 (by rw[hs];rfl)⟩)
    |some s =>
     simp only;have hp:0≤s.place:=by
      unfold rQ at hs;split at hs
      ·cases hs
      ·split at hs
       ·rename_i h0;cases hs;exact h0
       ·cases hs
     rw[bq (by simp only[PW,yX,jY];exact⟨trivial,hp⟩)]
     refine bW (dt (by simp;omega)) (bZ ⟨⟨k+1,by omega,?_,fun i v hi hv=>?_⟩,by simp;omega⟩)
     ·rw[List.take_add_one,e1,List.map_append];simp [hs]
     ·rcases Nat.lt_or_ge i k with h|h
      ·exact hS i v h hv
      ·obtain rfl:i=k:=by omega
       rw[e1]at hv;cases hv;rw[hs];rfl
   ·simp only[jY,az]at hb;rw[List.take_of_length_le (by omega)];rfl
   ·simp only[jY,az]at hb;rw[List.all_eq_true];intro v hv;obtain⟨i,hi⟩:=List.getElem?_of_mem hv;exact hS i v (by have:=(List.getElem?_eq_some_iff.1 hi).1;omega) hi
  ·rintro e (⟨rfl,h⟩|⟨rfl,h⟩)
   ·rw[dw,h];exact aP.2 rfl
   ·rw[nQ,h];exact aP.2 rfl
 ·have h':T4 x r=false:=by simpa using h
  rw[h',Bool.not_false,fW,Bool.false_and];rfl
theorem Ab(h:s_ x r=true):T4 x r=true:=by unfold s_ at h;exact(Ih.1 h).1
theorem uI:(a7 x r).length=r.aq.length:=by simp [a7]
theorem Wy(h:s_ x r=true){i:Nat}{s:a6}(hs:(a7 x r)[i]?=some s):∃v,r.aq[i]?=some v∧rQ x v=some s:=by
 unfold a7 at hs;rw[List.getElem?_map]at hs;cases hv:r.aq[i]? with
 |none=>rw[hv]at hs;cases hs
 |some v =>
  rw[hv]at hs;have h2:=List.all_eq_true.1 (Ih.1 h).2 v (List.mem_of_getElem? hv);obtain⟨s',fc⟩:=Option.isSome_iff_exists.1 h2;refine⟨v,rfl,?_⟩;simp only[Option.map_some,fc,Option.getD_some]at hs;rw[←hs];exact fc
end
theorem Iu{n:aD}(h:OV n){aT a b t:Int}(ht:Ou t)(h0:(goN n aT a b t).2.2=0):t≤(goN n aT a b t).1∧(goN n aT a b t).1≤t+73728∧0≤(goN n aT a b t).2.1∧(goN n aT a b t).2.1≤10000:=by
 unfold goN at h0 ⊢;split at h0
 ·rename_i h1;rw[if_pos h1];split at h0
  ·rename_i h2;rw[if_pos h2];exact⟨Int.le_refl _,by simp only;omega,by simp,by simp⟩
  ·rename_i h2;rw[if_neg h2];split at h0
   ·rename_i h3;rw[if_pos h3];have ha:=h.all _ (LZ h3).1;exact⟨Qed ha t,Qee ha ht.1,ha.Ml,ha.Mm⟩
   ·simp at h0
 ·simp at h0
structure SOK (s:a6):Prop where
 VX:0≤s.bJ
 Sq:s.bJ≤s.b9
 b9:s.b9≤4096
 Wi:0≤s.dn
 Wj:s.dn≤4096
def Xv(t:al):a6:=a6.mk t.fN 0 t.b9 0
section
variable (n : aD) (t : al) (aG : List a6)
def jX:Nat→Int
 |0=>t.a8
 |k+1=>(aG.getD k Lu).place
def du(k:Nat):a6:=aG.getD k (Xv t)
def patch(ts:List bg)(i:Nat)(dep:Int)(rest:Bool):List bg:=match ts[i]? with
 |some m=>ts.set i (bg.mk m.gC m.rU dep rest)
 |none=>ts
def ka(l:an)(rest:Bool):Int:=l.ready+(if rest=true then t.bY else 0)
def sv(l:an)(rest:Bool):Int:=if rest=true then 0 else l.ff
def uk(l:an)(k:Nat)(dep:Int)(rest:Bool):List bg:=if k=0 then l.c9.jv else patch l.c9.jv (k-1) dep rest
def shS(l:an)(k:Nat)(rest:Bool)(dep:Int)(g:Int×Int×Int):aX:=
 aX.mk (if k=0 then rest else l.c9.bY) (if k=0 then dep else l.c9.cF)
  (if k<aG.length then uk l k dep rest++[bg.mk g.1 (max g.1 (du t aG k).bJ) 0 false]else uk l k dep rest)
  (if k<aG.length then l.c9.oY else g.1) (l.c9.ed+g.2.1)
def VU(l:an)(k:Nat)(rest:Bool)(dep sn:Int):an×Int:=
 if(goN n t.aT (jX t aG k) (du t aG k).place dep).2.2≠0 then(Us,12)
 else if(du t aG k).b9<(goN n t.aT (jX t aG k) (du t aG k).place dep).1 then(Us,if k<aG.length then 14 else 15)
 else if t.iJ<sn+(goN n t.aT (jX t aG k) (du t aG k).place dep).1-dep then(Us,16)
 else(an.mk (max (goN n t.aT (jX t aG k) (du t aG k).place dep).1 (du t aG k).bJ+(du t aG k).dn) (sn+(goN n t.aT (jX t aG k) (du t aG k).place dep).1-dep)
  (shS t aG l k rest dep (goN n t.aT (jX t aG k) (du t aG k).place dep)),0)
def AS(l:an)(k:Nat)(rest:Bool):an×Int:=VU n t aG l k rest (ka t l rest) (sv l rest)
end
structure Hc (k:Nat) (l:an):Prop where
 Yl:0≤l.ready
 Ym:l.ready≤8192
 Ug:0≤l.ff
 YB:l.ff≤4096
 Ml:0≤l.c9.ed
 Mm:l.c9.ed≤10000*k
 jv:l.c9.jv.length=k
structure qw (n:aD) (t:al) (aG:List a6):Prop where
 bG:OV n
 opn:0≤t.bJ∧t.bJ≤t.b9
 b9:t.b9≤4096
 iJ:1≤t.iJ∧t.iJ≤4096
 rest:0≤t.bY∧t.bY≤4096
 few:aG.length≤20
 aG:∀s∈aG,SOK s
theorem YJ{x:ab}{r:ay}(hx:da x)(h:s_ x r=true):qw x.bG (bI x r) (a7 x r):=by
 have hT:=hx.typ _ (Un (Ab h)).2;refine⟨hx.bG,hT.opn,hT.b9,hT.iJ,hT.rest,by rw[uI];exact(of_decide_eq_true (Ab h)).2.2.2.2,fun s hs=>?_⟩
 obtain⟨i,hi⟩:=List.getElem?_of_mem hs;obtain⟨v,_,hv⟩:=Wy h hi;have:=Wx hx hv;exact⟨this.2.2.1,this.2.2.2.1,this.2.2.2.2.1,this.2.2.2.2.2.1,this.2.2.2.2.2.2⟩
section
variable {n : aD} {t : al} {aG : List a6} {l : an} {k : Nat} {rest : Bool} {dep sn : Int}
theorem qw.du(h:qw n t aG)(k:Nat):SOK (du t aG k):=by
 unfold Go.Proofs.YtkcilfpbgjjjbaaGreatDoor.du;rw[List.getD_eq_getElem?_getD];cases hs:aG[k]? with
 |some s=>exact h.aG s (List.mem_of_getElem? hs)
 |none=>exact⟨Int.le_refl _,by have:=h.opn;show 0≤t.b9;omega,h.b9,Int.le_refl _,by show(0:Int)≤4096;omega⟩
theorem Lo(h:k<aG.length):aG[k]?=some (du t aG k):=by
 unfold du;rw[List.getD_eq_getElem?_getD,List.getElem?_eq_getElem h];rfl
theorem C3(h:¬k<aG.length):du t aG k=Xv t:=by
 unfold du;rw[List.getD_eq_getElem?_getD,List.getElem?_eq_none (by omega)];rfl
theorem QaZ{ts:List bg}{i:Nat}:(patch ts i dep rest).length=ts.length:=by unfold patch;split <;> simp
theorem An:(uk l k dep rest).length=l.c9.jv.length:=by unfold uk;split;rfl;exact QaZ
theorem QbZ{ts:List bg}(h:ts.length≤1000):dY ts=some ts:=by
 unfold dY;rw[fg (dt (by omega))]
 cases ts with
 |nil=>exact UN
 |cons a r=>rfl
theorem QfK{p:bp}(hp:p.t.iJ≤4096){H9:Bool}{QS:Int}{g:Int×Int×Int}{ts:List bg}{ready fin:Int}(hd:0≤dep∧dep≤20000)(hs:0≤sn∧sn≤4096)(hg:dep≤g.1∧g.1≤dep+73728∧0≤g.2.1∧g.2.1≤10000)
  (hm:0≤l.c9.ed∧l.c9.ed≤1000000):kr p l dep sn H9 QS g ts ready fin=some (if p.t.iJ<sn+g.1-dep then(Us,16)else(an.mk ready (sn+g.1-dep) (aX.mk H9 QS ts fin (l.c9.ed+g.2.1)),0)):=by
 unfold kr;simp(disch:=omega) only[fp,wT,JI,w4];split <;> rfl
theorem QfJ{p:bp}(h:qw p.x.bG p.t p.aG)(hl:Hc k l)(hk:k≤p.aG.length)(hd:0≤dep∧dep≤20000)(hs:0≤sn∧sn≤4096):ko p l k rest dep sn=some (VU p.x.bG p.t p.aG l k rest dep sn):=by
 have Ql2:=h.few;have hlen:=hl.jv;have hm0:=hl.Ml;have hm1:=hl.Mm;have pq:Ou dep:=⟨hd.1,by omega⟩
 have hSO:=h.du k
 -- J3,QdD is written Qqb Qu c9
 have h3:∀(H9:Bool) (QS:Int) (ts:List bg),ts.length=k→
   iF p l k dep sn ts H9 QS (du p.t p.aG k).place=some
    (if(goN p.x.bG p.t.aT (jX p.t p.aG k) (du p.t p.aG k).place dep).2.2≠0 then(Us,12)
    else if(du p.t p.aG k).b9<(goN p.x.bG p.t.aT (jX p.t p.aG k) (du p.t p.aG k).place dep).1 then(Us,if k<p.aG.length then 14 else 15)
    else if p.t.iJ<sn+(goN p.x.bG p.t.aT (jX p.t p.aG k) (du p.t p.aG k).place dep).1-dep then(Us,16)
    else(an.mk (max (goN p.x.bG p.t.aT (jX p.t p.aG k) (du p.t p.aG k).place dep).1 (du p.t p.aG k).bJ+(du p.t p.aG k).dn) (sn+(goN p.x.bG p.t.aT (jX p.t p.aG k) (du p.t p.aG k).place dep).1-dep)
     (aX.mk H9 QS (if k<p.aG.length then ts++[bg.mk (goN p.x.bG p.t.aT (jX p.t p.aG k) (du p.t p.aG k).place dep).1 (max (goN p.x.bG p.t.aT (jX p.t p.aG k) (du p.t p.aG k).place dep).1 (du p.t p.aG k).bJ) 0 false] else ts)
      (if k<p.aG.length then l.c9.oY else(goN p.x.bG p.t.aT (jX p.t p.aG k) (du p.t p.aG k).place dep).1) (l.c9.ed+(goN p.x.bG p.t.aT (jX p.t p.aG k) (du p.t p.aG k).place dep).2.1)),0)):=by
  intro H9 QS ts hts;unfold iF;have XS:mS p (k:Int)=some (jX p.t p.aG k):=by
   unfold mS jX;cases k with
   |zero=>rfl
   |succ j =>
    have e1:p.aG[j]?=some (p.aG[j]'(by omega)):=List.getElem?_eq_getElem _
    rw[bq (by simp;omega),show dd .i64 ((j+1:Nat):Int) 1=(j:Int) by rw[wT (by omega) (by omega)];omega,bC e1,ak]
    simp only[List.getD_eq_getElem?_getD,e1];rfl
  show aR (mS p (k:Int)) (fun r1=>aR (ui p.x.bG p.t.aT r1 (du p.t p.aG k).place dep) _)=_
  rw[XS,ak,go_eq h.bG _ _ _ pq,ak];generalize hg:goN p.x.bG p.t.aT (jX p.t p.aG k) (du p.t p.aG k).place dep=g;have hbd:g.2.2=0→dep≤g.1∧g.1≤dep+73728∧0≤g.2.1∧g.2.1≤10000:=fun h0=>by
   have:=Iu h.bG (aT:=p.t.aT) (a:=jX p.t p.aG k) (b:=(du p.t p.aG k).place) pq (by rw[hg];exact h0)
   rwa [hg]at this
  by_cases h0:g.2.2=0
  ·rw[bq (by simpa using h0),if_neg (by simpa using h0)]
   have hb:=hbd h0;by_cases hkl:k<p.aG.length
   ·have e1:=Lo (t:=p.t) hkl;rw[bq (by simp [az];omega),bC e1,ak]
    generalize du p.t p.aG k=s at *;simp only[if_pos hkl];unfold sW;rw[DN];by_cases hw:s.b9<g.1
    ·rw[bD (by have:=hSO.Sq;simp;omega),ak,bD (by decide),if_pos hw];rfl
    ·have:=hSO.Sq;have:=hSO.b9;have:=hSO.Wi;have:=hSO.Wj;have:=hSO.VX;rw[bq (by simp;omega),ak,bq (by simp [cr]),fg (dt (by simp;omega)),if_neg hw,QfK (by have:=h.iJ;omega) hd hs hb ⟨hm0,by omega⟩]
     rw[fp (by omega) (by omega)]
   ·have e1:=C3 (t:=p.t) hkl;rw[e1]at hSO hg ⊢;rw[bD (by simp [az];omega)]
    simp only[if_neg hkl];by_cases hw:p.t.b9<g.1
    ·rw[bD (by simpa using hw),if_pos (show(Xv p.t).b9<g.1 from hw)];rfl
    ·rw[bq (by simpa using hw),if_neg (show ¬(Xv p.t).b9<g.1 from hw),QfK (by have:=h.iJ;omega) hd hs hb ⟨hm0,by omega⟩]
     have e2:max g.1 (Xv p.t).bJ+(Xv p.t).dn=g.1:=by show max g.1 0+0=g.1;omega
     rw[e2]
  ·rw[bD (by simpa using h0),if_pos h0];rfl
 have h2:∀(H9:Bool) (QS:Int) (ts:List bg),ts.length=k→
   kp p l k dep sn ts H9 QS=iF p l k dep sn ts H9 QS (du p.t p.aG k).place:=by
  intro H9 QS ts hts;unfold kp;by_cases hkl:k<p.aG.length
  ·rw[bq (by simp [az];omega),bC (Lo (t:=p.t) hkl),ak]
  ·rw[bD (by simp [az];omega),C3 hkl];rfl
 unfold ko;rw[QbZ (by omega),ak]
 unfold VU shS;cases k with
 |zero =>
  rw[bD (by simp),h2 _ _ _ hlen,h3 _ _ _ hlen]
  rfl
 |succ j =>
  have e1:l.c9.jv[j]?=some (l.c9.jv[j]'(by omega)):=List.getElem?_eq_getElem _
  have Ty:dd .i64 ((j+1:Nat):Int) 1=(j:Int):=by rw[wT (by omega) (by omega)];omega
  rw[bq (by simp;omega),Ty,bC e1,ak,h2 _ _ _ (by simp [e_];exact hlen),h3 _ _ _ (by simp [e_];exact hlen)]
  have e2:e_ (e_ l.c9.jv (j:Int) (bg.mk (l.c9.jv[j]'(by omega)).gC (l.c9.jv[j]'(by omega)).rU (l.c9.jv[j]'(by omega)).cF rest)) (j:Int) (bg.mk (l.c9.jv[j]'(by omega)).gC (l.c9.jv[j]'(by omega)).rU dep rest)=uk l (j+1) dep rest:=by
   unfold uk patch e_;rw[if_neg (by omega),Nat.add_sub_cancel,e1,Int.toNat_natCast,List.set_set]
  rw[e2];rfl
theorem ZC{p:bp}(h:qw p.x.bG p.t p.aG)(hl:Hc k l)(hk:k≤p.aG.length):jW p l k rest=some (AS p.x.bG p.t p.aG l k rest):=by
 have h1:=hl.Yl;have h2:=hl.Ym;have h3:=h.rest;have h4:=hl.Ug;have h5:=hl.YB;unfold jW AS ka sv;cases rest with
 |true =>
  rw[fW,fp (by omega) (by omega),QfJ h hl hk ⟨by omega,by omega⟩ ⟨by omega,by omega⟩];rfl
 |false =>
  rw[jg,QfJ h hl hk ⟨by omega,by omega⟩ ⟨by omega,by omega⟩]
  simp
theorem IP(h:qw n t aG)(hl:Hc k l)(h0:(AS n t aG l k rest).2=0):
  (goN n t.aT (jX t aG k) (du t aG k).place (ka t l rest)).2.2=0∧(goN n t.aT (jX t aG k) (du t aG k).place (ka t l rest)).1≤(du t aG k).b9∧
  sv l rest+(goN n t.aT (jX t aG k) (du t aG k).place (ka t l rest)).1-ka t l rest≤t.iJ∧
  (AS n t aG l k rest).1=an.mk (max (goN n t.aT (jX t aG k) (du t aG k).place (ka t l rest)).1 (du t aG k).bJ+(du t aG k).dn) (sv l rest+(goN n t.aT (jX t aG k) (du t aG k).place (ka t l rest)).1-ka t l rest)
   (shS t aG l k rest (ka t l rest) (goN n t.aT (jX t aG k) (du t aG k).place (ka t l rest))):=by
 unfold AS VU at h0 ⊢;split at h0
 ·simp at h0
 ·rename_i h1;split at h0
  ·simp only at h0;split at h0 <;> simp at h0
  ·rename_i h2;split at h0
   ·simp at h0
   ·rename_i h3;rw[if_neg h1,if_neg h2,if_neg h3];exact⟨by simpa using h1,by omega,by omega,rfl⟩
theorem Tg(h:qw n t aG)(hl:Hc k l):Ou (ka t l rest):=by
 have h1:=hl.Yl;have h2:=hl.Ym;have h3:=h.rest;unfold ka Ou;split <;> omega
theorem TU(h:qw n t aG)(hl:Hc k l)(hk:k<aG.length)(h0:(AS n t aG l k rest).2=0):Hc (k+1) (AS n t aG l k rest).1:=by
 obtain⟨g0,g1,g2,g3⟩:=IP h hl h0;have pq:=Tg (rest:=rest) h hl;have hb:=Iu h.bG pq g0;have hS:=h.du k;have:=hS.VX;have:=hS.Sq;have:=hS.b9;have:=hS.Wi;have:=hS.Wj;have hd:=h.iJ;have hm0:=hl.Ml;have hm1:=hl.Mm;have hsn:0≤sv l rest:=by unfold sv;split;omega;exact hl.Ug
 unfold Ou at pq;rw[g3];refine⟨by simp only;omega,by simp only;omega,by simp only;omega,by simp only;omega,?_,?_,?_⟩
 ·show 0≤l.c9.ed+_;omega
 ·show l.c9.ed+_≤_;rw[Int.natCast_add,Int.mul_add];omega
 ·show(if k<aG.length then _ else _:List bg).length=_
  rw[if_pos hk,List.length_append,An,hl.jv];rfl
end
end Go.Proofs.YtkcilfpbgjjjbaaGreatDoor
