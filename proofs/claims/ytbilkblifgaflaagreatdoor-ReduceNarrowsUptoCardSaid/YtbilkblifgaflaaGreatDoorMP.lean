/- Part MP. -/
import Derived.Test.YtbilkblifgaflaaGreatDoorMT
import Derived.KernelRfl
set_option linter.unusedSimpArgs false
set_option linter.unusedVariables false
set_option linter.unusedSectionVars false
namespace Go.Proofs.YtbilkblifgaflaaGreatDoor
section
variable {α : Type}
theorem OL{B:List α × Int→Option ((List α × Int) ⊕(List α))}(n c:Nat)(P:Nat→Prop)(init:List α)(hn:n < 18446744073709551615)
    (step: ∀(i:Nat) (out:List α),i < n→out.length≤init.length + c * i→post (B (out,(i:Int))) fun x => ∃new,x = .inl (out ++ new,(i:Int) + 1)∧new.length≤c∧(new = []↔P i))
    (fin: ∀out,B (out,(n:Int)) = some (.inr out)):post (aF B (init,0)) fun r => r.length≤init.length + c * n∧(r = []↔init = []∧∀i,i < n→P i):= by
  refine gT (fun s => ∃i:Nat,s.2 =(i:Int)∧i≤n∧s.1.length≤init.length + c * i∧(s.1 = []↔init = []∧∀k,k < i→P k)) (fun s => n - s.2.toNat)
    ⟨0,rfl,Nat.zero_le _,by simp,by simp⟩ (by simp;omega) ?_
  rintro⟨out,j⟩ ⟨i,hj,hi,hl,he⟩;simp only at hj hl he;subst hj;by_cases h:i < n
  · refine(step i out h hl).mono ?_
    rintro x ⟨new,rfl,h1,h2⟩;refine⟨fun s' hs => ?_,fun _ h => by cases h⟩
    cases hs;refine⟨⟨i + 1,by simp,by omega,by simp [Nat.mul_add];omega, ?_⟩,by simp;omega⟩
    simp only[List.append_eq_nil_iff,he,h2];constructor
    · rintro⟨⟨h3,h4⟩,h5⟩
      exact ⟨h3, fun k hk => by rcases Nat.lt_or_ge k i with h | h; exact h4 k h; obtain rfl : k = i := by omega
                                exact h5⟩
    · rintro⟨h3,h4⟩;exact⟨⟨h3,fun k hk => h4 k (by omega)⟩,h4 i (by omega)⟩
  · obtain rfl:i = n:= by omega
    rw[fin];exact fG ⟨hl,he⟩
end
theorem ca{n b:Nat}(h:n*b≤140737488355328):d_ n b:=h
theorem Tb{a b:Bool}:(a||b)=true↔a=true∨b=true:=Bool.or_eq_true_iff ..
theorem Ja{a b:Bool}:(a||b)=false↔a=false∧b=false:=Bool.or_eq_false_iff
theorem EG{a b:Bool}:(a&&b)=true↔a=true∧b=true:=Bool.and_eq_true_iff
theorem Mc{a b:Bool}:(a&&b)=false↔a=false∨b=false:=Bool.and_eq_false_iff
theorem ntT{a:Bool}:(!a)=true↔a=false:=by cases a <;> simp
theorem ntF{a:Bool}:(!a)=false↔a=true:=by cases a <;> simp
theorem qP(l:List Int):(tF l).size=l.length:=by simp [tF,ByteArray.size]
theorem O8(a:Int):(a.tdiv 10).natAbs=a.natAbs / 10:=by rw[Int.natAbs_tdiv];rfl
theorem Xo{a:Int}(h:a.natAbs≤9223372036854775808):vX .i64 a 10=a.tdiv 10:=by
 have:=O8 a;exact Wa (by omega) (by omega)
def Ip(n:Int):Prop:=-9223372036854775808≤n∧n≤9223372036854775807
theorem Ll{n left d:Int}{s:ByteArray}{k:Nat}(hl:left.natAbs≤9223372036854775808)(h1:left.natAbs<10 ^ k)(h2:s.size+k≤20)(hk:1≤k):
  post (gS n s left d) fun x=>(∀s',x=.inl s'→(∃k:Nat,s'.2.1.natAbs≤9223372036854775808∧s'.2.1.natAbs<10 ^ k∧s'.1.size+k≤20∧(s'.2.2=true→1≤k∧s'.2.1≠0))∧s'.2.1.natAbs+(if s'.2.2 then 1 else 0)<left.natAbs+1)∧∀e,x=.inr e→e.size≤20:=by
 unfold gS;have hq:=Xo hl;have ha:=O8 left;refine b5 (by rw[qP];simp;omega) (ki ?_)
 simp only[hq];obtain⟨k,rfl⟩:∃j,k=j+1:=⟨k-1,by omega⟩
 have hs:(bH (tF [wz IntKind.u8 (aT IntKind.i64 48 d)]) s).size=1+s.size:=by unfold bH;rw[ByteArray.size_append,qP];rfl
 refine⟨⟨k,by omega,by rw[ha];rw[Nat.pow_succ]at h1;omega,by rw[hs];omega,fun h=>?_⟩,?_⟩
 ·simp only[Rt]at h;refine⟨?_,h⟩;rcases Nat.eq_zero_or_pos k with rfl|h'
  ·exfalso;apply h;have:(left.tdiv 10).natAbs=0:=by rw[ha];simp at h1;omega
   omega
  ·exact h'
 ·cases hb:bK (left.tdiv 10) 0 with
  |true =>
   simp only[Rt]at hb;simp only[if_true];have:(left.tdiv 10).natAbs≠0:=by omega
   omega
  |false=>simp only[Bool.false_eq_true,if_false];omega
theorem pd(n:Int)(hn:Ip n):post (bV n) fun s=>s.size≤21:=by
 unfold Ip at hn;refine bG (R:=fun s=>s.size≤20) ?_ fun s hs=>?_
 ·refine gT (fun s=>∃k:Nat,s.2.1.natAbs≤9223372036854775808∧s.2.1.natAbs<10 ^ k∧s.1.size+k≤20∧(s.2.2=true→1≤k∧(s.2.1=0→True))) (fun s=>s.2.1.natAbs+(if s.2.2 then 1 else 0)) ⟨19,by simp only;omega,by simp only;omega,by simp [ByteArray.size_empty],by simp⟩ (by simp only;split <;> omega) ?_
  rintro⟨s,left,again⟩ ⟨k,h0,h1,h2,h3⟩;simp only at h0 h1 h2 h3;cases again with
  |false=>exact fG (show s.size≤20 by omega)
  |true =>
   refine post.mono (Q:=fun x=>(∀s',x=.inl s'→(∃k:Nat,s'.2.1.natAbs≤9223372036854775808∧s'.2.1.natAbs<10 ^ k∧s'.1.size+k≤20∧(s'.2.2=true→1≤k∧s'.2.1≠0))∧s'.2.1.natAbs+(if s'.2.2 then 1 else 0)<left.natAbs+1)∧∀e,x=.inr e→e.size≤20) ?_ ?_
   ·show post (br true (br (aS (yG left 10) 0) _ _) _) _;rw[de];exact bh (fun _=>Ll h0 h1 h2 (h3 rfl).1) (fun _=>Ll h0 h1 h2 (h3 rfl).1)
   ·rintro x ⟨g1,g2⟩;refine⟨fun s' hs=>?_,g2⟩
    obtain⟨⟨k',q1,q2,q3,q4⟩,q5⟩:=g1 s' hs;exact⟨⟨k',q1,q2,q3,fun h=>⟨(q4 h).1,fun _=>trivial⟩⟩,q5⟩
 ·refine bh (fun _=>b5 ?_ (bj.2 ?_)) (fun _=>bj.2 (by omega))
  ·show 1+s.size≤_;omega
  ·unfold bH;rw[ByteArray.size_append];show 1+s.size≤_;omega
theorem Dr{k:Nat}(h:k<4294967296):Ip (k:Int):=by unfold Ip;omega
abbrev Pt:=au
def Qf(p:Pt):Prop:=0≤p.t∧p.t≤4096∧p.t≤p.a∧p.a≤p.t+4096
def Yo(l:List Pt)(i:Nat):Prop:=∀p,l[i]?=some p→Qf p∧(0<i→∀q,l[i-1]?=some q→q.t<p.t∧q.a≤p.a)
structure oP (l:List Pt):Prop where
 pos:1≤l.length
 xz:l.length≤16
 all:∀i,i<l.length→Yo l i
def Xn(p:Pt):Prop:=Ip p.t∧Ip p.a
theorem OQ{l:List Pt}{i:Nat}{x0:Pt}{out new:List aa}(hx:l[i]?=some x0)(hi:i<2000000)(hlen:l.length<2000000)(ho:out.length≤1+2*i)(hn:new.length≤1)(hw:new=[]↔Qf x0):
  post (fq l (i:Int) x0 (out++new)) fun x=>∃new,x=.inl (out++new,(i:Int)+1)∧new.length≤2∧(new=[]↔Yo l i):=by
 have nP:aT .i64 (i:Int) 1=(i:Int)+1:=kR (by omega) (by omega)
 unfold fq;have QbW:∀f:aa,d_ (out++new++[f]).length 24:=fun f=>ca (by simp;omega)
 have W_:(0<i→∀q,l[i-1]?=some q→q.t<x0.t∧q.a≤x0.a)→post (some (Sum.inl (out++new,aT .i64 (i:Int) 1):(List aa×Int)⊕List aa)) fun x=>∃new,x=.inl (out++new,(i:Int)+1)∧new.length≤2∧(new=[]↔Yo l i):=by
  intro hq;rw[nP];refine⟨_,rfl,new,rfl,by omega,?_⟩
  rw[hw];exact⟨fun h p hp=>by rw[hx]at hp;cases hp;exact⟨h,hq⟩,fun h=>(h x0 hx).1⟩
 have W9:∀r:ByteArray,(∃q,0<i∧l[i-1]?=some q∧¬(q.t<x0.t∧q.a≤x0.a))→post (dr (d_ (out++new++[aa.mk 13 r]).length 24) (some (Sum.inl (out++new++[aa.mk 13 r],aT .i64 (i:Int) 1):(List aa×Int)⊕List aa))) fun x=>∃new,x=.inl (out++new,(i:Int)+1)∧new.length≤2∧(new=[]↔Yo l i):=by
  rintro r ⟨q,h0,h1,h2⟩;refine b5 (QbW _) ?_
  rw[nP];refine⟨_,rfl,new++[_],by rw[List.append_assoc],by simp;omega,?_⟩
  constructor
  ·intro h;simp at h
  ·intro h;exact absurd ((h x0 hx).2 h0 q h1) h2
 refine bh (fun h=>?_) (fun h=>W_ fun h0=>by simp at h;omega)
 simp only[qS]at h;have h1:dA .i64 (i:Int) 1=((i-1:Nat):Int):=by rw[xC (by omega) (by omega)];omega
 have W6:l[i-1]?=some (l[i-1]'(by have:=(List.getElem?_eq_some_iff.1 hx).1;omega)):=List.getElem?_eq_getElem _
 rw[h1,ba W6,ax];have hd:=pd (i:Int) (Dr (by omega))
 refine bh (fun h2=>bG hd fun r _=>W9 r ⟨_,by omega,W6,fun hh=>?_⟩) (fun h2=>bh (fun h3=>bG hd fun r _=>W9 r ⟨_,by omega,W6,fun hh=>?_⟩) (fun h3=>W_ fun _ q hq=>?_))
 ·simp only[xK]at h2;omega
 ·simp only[ik]at h3;omega
 ·rw[W6]at hq;cases hq;simp only[Is]at h2;simp only[jn]at h3;omega
theorem Xh{x0:Pt}(hI:Xn x0):((((aS x0.t 0)||(bU x0.t 4096))||(aS x0.a x0.t))||(bU x0.a (aT .i64 x0.t 4096)))=false↔Qf x0:=by
 obtain⟨h1,h2⟩:=hI;unfold Ip at h1 h2;simp only[Ja,jn,kO];unfold Qf;constructor
 ·rintro⟨⟨⟨a,b⟩,c⟩,d⟩;rw[kR (by omega) (by omega)]at d
  omega
 ·rintro⟨a,b,c,d⟩;rw[kR (by omega) (by omega)]
  omega
theorem tR{l:List Pt}(hlen:l.length≤1048576)(hI:∀p∈l,Xn p):post (dO l) fun r=>r.length≤1+2*l.length∧(r=[]↔oP l):=by
 have main:∀init:List aa,init.length≤1→post (gF l init) fun r=>r.length≤init.length+2*l.length∧(r=[]↔init=[]∧∀i,i<l.length→Yo l i):=by
  intro init y3;refine bG ?_ fun a h=>bj.2 h
  refine OL l.length 2 (Yo l) init (by omega) (fun i out hi ho=>?_) (fun out=>?_)
  ·have hx:=XH hi;have xi:l[i]?=some l[i]:=List.getElem?_eq_getElem hi;show post (eN l out (i:Int)) _;unfold eN;rw[bu (by simp [aB];exact hi),hx,ax]
   have hp:=hI l[i] (List.getElem_mem hi);refine bh (fun h=>bG (pd (i:Int) (Dr (by omega))) fun r _=>b5 (ca (by simp;omega)) (OQ (new:=[_]) xi (by omega) (by omega) (by omega) (by simp) (Iff.intro (fun h=>by cases h) (fun h'=>?_)))) (fun h=>?_)
   ·rw[(Xh hp).2 h']at h;cases h
   ·have:=OQ (out:=out) (new:=[]) xi (by omega) (by omega) (by omega) (by simp) ⟨fun _=>(Xh hp).1 h,fun _=>rfl⟩
    rwa [List.append_nil]at this
  ·unfold eN;rw[bm (by simp [aB])]
 unfold dO;refine bh (fun h=>b5 (ca (by simp)) ((main _ (by simp)).mono ?_)) (fun h=>(main _ (by simp)).mono ?_)
 ·rintro r ⟨h1,h2⟩;refine⟨by simpa using h1,?_⟩
  rw[h2];simp only[Tb,ik,qS,aB]at h;exact⟨fun h=>by(cases h.1),fun h'=>by have:=h'.pos;have:=h'.xz;omega⟩
 ·rintro r ⟨h1,h2⟩;refine⟨by simp at h1 ⊢;omega,?_⟩
  rw[h2];simp only[Ja,jn,kO,aB]at h;exact⟨fun h'=>⟨by omega,by omega,h'.2⟩,fun h'=>⟨rfl,h'.all⟩⟩
def RF(p q:Pt)(t:Int):Int:=p.a+((t-p.t)*(q.a-p.a)+(q.t-p.t)-1) / (q.t-p.t)
def tD:List Pt→Int→Int
 | [],_=>0
 | [p],t=>t+p.a-p.t
 |p ::q ::r,t=>if t<q.t then(if t<p.t then t+p.a-p.t else RF p q t)else tD (q ::r) t
def No:List Pt→Prop
 | []=>True
 | [p]=>Qf p
 |p ::q ::r=>Qf p∧p.t<q.t∧p.a≤q.a∧No (q ::r)
theorem UP:∀{l:List Pt},(∀i,i<l.length→Yo l i)→No l
 | [],_=>trivial
 | [p],h=>(h 0 (by simp) p rfl).1
 |p ::q ::r,h=>by
  have h0:=h 0 (by simp) p rfl
  have h1:=(h 1 (by simp) q rfl).2 (by omega) p rfl
  refine⟨h0.1,h1.1,h1.2,UP fun i hi x hx=>?_⟩
  have h2:=h (i+1) (by simpa using hi) x hx
  refine⟨h2.1,fun h3 y hy=>h2.2 (by omega) y ?_⟩
  obtain⟨j,rfl⟩:∃j,i=j+1:=⟨i-1,by omega⟩
  exact hy
theorem oP.KJ{l:List Pt}(h:oP l):No l:=UP h.all
theorem No.MP:∀{l:List Pt},No l→∀{i:Nat} {p:Pt},l[i]?=some p→Qf p
 | [],_,_,_,h=>by simp at h
 | [p],h,0,x,hx=>by cases hx;exact h
 | [p],h,i+1,x,hx=>by simp at hx
 |p ::q ::r,h,0,x,hx=>by cases hx;exact h.1
 |p ::q ::r,h,i+1,x,hx=>No.MP (l:=q ::r) h.2.2.2 hx
theorem No.pair:∀{l:List Pt},No l→∀{i:Nat} {p q:Pt},l[i]?=some p→l[i+1]?=some q→p.t<q.t∧p.a≤q.a
 | [],_,_,_,_,h,_=>by simp at h
 | [p],h,i,x,y,_,hy=>by simp at hy
 |p ::q ::r,h,0,x,y,hx,hy=>by cases hx;cases hy;exact⟨h.2.1,h.2.2.1⟩
 |p ::q ::r,h,i+1,x,y,hx,hy=>No.pair (l:=q ::r) h.2.2.2 hx hy
theorem No.lt{l:List Pt}(h:No l){i:Nat}:∀{j:Nat},i<j→∀{p q:Pt},l[i]?=some p→l[j]?=some q→p.t<q.t
 |j+1,Zy,p,q,hp,hq=>by
  rcases Nat.lt_or_ge i j with h'|h'
  ·have hj:l[j]?=some (l[j]'(by have:=(List.getElem?_eq_some_iff.1 hq).1;omega)):=List.getElem?_eq_getElem _
   have:=h.lt h' hp hj;have:=(h.pair hj hq).1;omega
  ·obtain rfl:i=j:=by omega
   exact(h.pair hp hq).1
theorem Km{p q:Pt}(h:p.t<q.t):RF p q p.t=p.a:=by
 unfold RF;rw[Int.sub_self,Int.zero_mul,Int.ediv_eq_zero_of_lt (by omega) (by omega)];omega
theorem HZ{p q:Pt}(h:p.t<q.t):RF p q q.t=q.a:=by
 unfold RF;rw[show(q.t-p.t)*(q.a-p.a)+(q.t-p.t)-1=(q.t-p.t-1)+(q.t-p.t)*(q.a-p.a) by omega,Int.add_mul_ediv_left _ _ (by omega),Int.ediv_eq_zero_of_lt (by omega) (by omega)];omega
theorem He{p:Pt}{r:List Pt}(h:No (p ::r)):tD (p ::r) p.t=p.a:=by
 cases r with
 |nil=>simp only[tD];omega
 |cons q r=>simp only[tD];rw[if_pos h.2.1,if_neg (by omega),Km h.2.1]
theorem NK{p:Pt}{r:List Pt}(h:No (p ::r)){t:Int}(ht:t≤p.t):tD (p ::r) t=t+p.a-p.t:=by
 by_cases he:t=p.t
 ·subst he;rw[He h];omega
 ·cases r with
  |nil=>rfl
  |cons q r=>simp only[tD];have:=h.2.1;rw[if_pos (by omega),if_pos (by omega)]
theorem Dh:∀{l:List Pt},No l→∀{p:Pt},l[l.length-1]?=some p→∀{t:Int},p.t≤t→tD l t=t+p.a-p.t
 | [],_,_,hp,_,_=>by simp at hp
 | [x],_,p,hp,t,_=>by cases hp;rfl
 |x ::y ::r,h,p,hp,t,ht=>by
  have hp':(y ::r)[(y ::r).length-1]?=some p:=by simpa using hp
  have:y.t≤t:=by
   rcases Nat.eq_zero_or_pos r.length with h0|h0
   ·have:r=[]:=List.length_eq_zero_iff.1 h0;subst this;cases hp';exact ht
   ·have:=h.2.2.2.lt (i:=0) (j:=(y ::r).length-1) (by simp;omega) rfl hp'
    omega
  simp only[tD];rw[if_neg (by omega)]
  exact Dh h.2.2.2 hp' ht
theorem FK:∀{l:List Pt},No l→∀{j:Nat} {p q:Pt},l[j]?=some p→l[j+1]?=some q→∀{t:Int},p.t≤t→t≤q.t→tD l t=RF p q t
 | [],_,_,_,_,hp,_,_,_,_=>by simp at hp
 | [x],_,_,_,_,_,hq,_,_,_=>by simp at hq
 |x ::y ::r,h,0,p,q,hp,hq,t,h1,h2=>by
  cases hp;cases hq;simp only[tD];by_cases he:t<y.t
  ·rw[if_pos he,if_neg (by omega)]
  ·obtain rfl:t=y.t:=by omega
   rw[if_neg he,He h.2.2.2,HZ h.2.1]
 |x ::y ::r,h,j+1,p,q,hp,hq,t,h1,h2=>by
  have:y.t≤p.t:=by
   rcases Nat.eq_zero_or_pos j with rfl|h0
   ·cases hp;omega
   ·have:=h.2.2.2.lt (i:=0) (j:=j) h0 rfl hp;omega
  simp only[tD];rw[if_neg (by omega)]
  exact FK (l:=y ::r) h.2.2.2 hp hq h1 h2
theorem GY{p q:Pt}(h1:p.t<q.t)(h2:p.a≤q.a){t t':Int}(h:t≤t'):RF p q t≤RF p q t':=by
 unfold RF;have:=Int.mul_le_mul_of_nonneg_right (show t-p.t≤t'-p.t by omega) (show 0≤q.a-p.a by omega)
 have:=Int.ediv_le_ediv (show 0<q.t-p.t by omega) (show(t-p.t)*(q.a-p.a)+(q.t-p.t)-1≤(t'-p.t)*(q.a-p.a)+(q.t-p.t)-1 by omega)
 omega
theorem Le:∀{l:List Pt},No l→∀{t t':Int},t≤t'→tD l t≤tD l t'
 | [],_,_,_,_=>Int.le_refl _
 | [p],_,t,t',h=>by simp only[tD];omega
 |p ::q ::r,h,t,t',ht=>by
  have ih:=fun{a b:Int} (hab:a≤b)=>Le h.2.2.2 hab
  have hq:=He h.2.2.2;have hh:=h.2.1;simp only[tD];by_cases h1:t<q.t
  ·rw[if_pos h1];have hs:∀x:Int,p.t≤x→p.a≤RF p q x:=fun x hx=>by have:=GY h.2.1 h.2.2.1 hx;rwa [Km h.2.1]at this
   by_cases h2:t'<q.t
   ·rw[if_pos h2];by_cases h3:t<p.t
    ·rw[if_pos h3];by_cases h4:t'<p.t
     ·rw[if_pos h4];omega
     ·rw[if_neg h4];have:=hs t' (by omega);omega
    ·rw[if_neg h3,if_neg (by omega)]
     exact GY h.2.1 h.2.2.1 ht
   ·rw[if_neg h2];have h5:=ih (show q.t≤t' by omega)
    by_cases h3:t<p.t
    ·rw[if_pos h3];have:=h.2.2.1;omega
    ·rw[if_neg h3];have:=GY h.2.1 h.2.2.1 (show t≤q.t by omega)
     rw[HZ h.2.1]at this;omega
  ·rw[if_neg h1,if_neg (by omega)]
   exact ih ht
theorem Yw{p q:Pt}(hp:p.t≤p.a)(hq:q.t≤q.a)(h1:p.t<q.t){t:Int}(h:p.t≤t)(h':t≤q.t):t≤RF p q t:=by
 unfold RF;have key:(t-p.a)*(q.t-p.t)≤(t-p.t)*(q.a-p.a):=by
  have e1:0≤(t-p.t)*(q.a-q.t):=Int.mul_nonneg (by omega) (by omega)
  have e2:0≤(q.t-t)*(p.a-p.t):=Int.mul_nonneg (by omega) (by omega)
  have e3:(t-p.t)*(q.a-p.a)-(t-p.a)*(q.t-p.t)=(t-p.t)*(q.a-q.t)+(q.t-t)*(p.a-p.t):=by
   simp only[Int.sub_mul,Int.mul_sub,Int.mul_comm];omega
  omega
 have:=(Int.le_ediv_iff_mul_le (show 0<q.t-p.t by omega)).2 (show(t-p.a)*(q.t-p.t)≤(t-p.t)*(q.a-p.a)+(q.t-p.t)-1 by omega)
 omega
theorem I2:∀{l:List Pt},No l→l≠[]→∀(t:Int),t≤tD l t
 | [],_,h,_=>absurd rfl h
 | [p],h,_,t=>by simp only[tD];have:=h.2.2.1;omega
 |p ::q ::r,h,_,t=>by
  have hq:Qf q:=h.2.2.2.MP (i:=0) rfl;have h1:=h.1.2.2.1;simp only[tD];by_cases h3:t<q.t
  ·rw[if_pos h3];by_cases h4:t<p.t
   ·rw[if_pos h4];omega
   ·rw[if_neg h4];exact Yw h1 hq.2.2.1 h.2.1 (by omega) (by omega)
  ·rw[if_neg h3];exact I2 h.2.2.2 (by simp) t
theorem I3:∀{l:List Pt},No l→∀{t:Int},0≤t→tD l t≤t+8192
 | [],_,t,h=>by simp only[tD];omega
 | [p],h,t,_=>by simp only[tD];have:=h.2.2.2;omega
 |p ::q ::r,h,t,h0=>by
  have hq:Qf q:=h.2.2.2.MP (i:=0) rfl;have h1:=h.1.2.2.2;simp only[tD];by_cases h3:t<q.t
  ·rw[if_pos h3];by_cases h4:t<p.t
   ·rw[if_pos h4];omega
   ·rw[if_neg h4];have:=GY h.2.1 h.2.2.1 (show t≤q.t by omega)
    rw[HZ h.2.1]at this;have:=hq.2.2.2;have:=hq.2.1;omega
  ·rw[if_neg h3];exact I3 h.2.2.2 h0
def MF(t:Int):Prop:=0≤t∧t≤1073741824
theorem RG{p q:Pt}(h1:Qf p)(h2:Qf q)(h:p.t<q.t)(h':p.a≤q.a){t:Int}(a:p.t≤t)(b:t≤q.t):
  0≤(t-p.t)*(q.a-p.a)∧(t-p.t)*(q.a-p.a)≤33554432∧0≤((t-p.t)*(q.a-p.a)+(q.t-p.t)-1) / (q.t-p.t)∧((t-p.t)*(q.a-p.a)+(q.t-p.t)-1) / (q.t-p.t)≤33558528:=by
 unfold Qf at h1 h2;have e1:0≤(t-p.t)*(q.a-p.a):=Int.mul_nonneg (by omega) (by omega)
 have e2:(t-p.t)*(q.a-p.a)≤4096*8192:=Int.mul_le_mul (by omega) (by omega) (by omega) (by omega)
 have e3:0≤((t-p.t)*(q.a-p.a)+(q.t-p.t)-1) / (q.t-p.t):=Int.ediv_nonneg (by omega) (by omega)
 have e4:((t-p.t)*(q.a-p.a)+(q.t-p.t)-1) / (q.t-p.t)≤(t-p.t)*(q.a-p.a)+(q.t-p.t)-1:=Int.ediv_le_self _ (by omega)
 exact⟨e1,by omega,e3,by omega⟩
theorem oP.at{l:List Pt}(h:oP l){i:Nat}{p:Pt}(hp:l[i]?=some p):Qf p:=h.KJ.MP hp
theorem oP.bd{l:List Pt}(h:oP l){i:Nat}{p:Pt}(hp:l[i]?=some p):0≤p.t∧p.t≤4096∧p.t≤p.a∧p.a≤8192:=by
 have:=h.at hp;unfold Qf at this;omega
theorem oP.Xn{l:List Pt}(h:oP l):∀p∈l,Xn p:=fun p hp=>by
 obtain⟨i,hi⟩:=List.getElem?_of_mem hp;have:=h.bd hi;unfold Go.Proofs.YtbilkblifgaflaaGreatDoor.Xn Ip;omega
theorem Wq{a b:Int}(h:0≤a):a.tdiv b=a / b:=Int.tdiv_eq_ediv_of_nonneg h
theorem Qap{a b:Int}(h:0≤a)(h':a≤9223372036854775807)(hb:0<b):vX .i64 a b=a / b:=by
 have h1:0≤a / b:=Int.ediv_nonneg h (by omega)
 have h2:a / b≤a:=Int.ediv_le_self _ h;have h3:=Wq (b:=b) h;rw[Wa (by rw[h3];omega) (by rw[h3];omega),h3]
theorem GO{l:List Pt}(h:oP l):dO l=some []:=by
 obtain⟨r,h1,h2,h3⟩:=tR (by have:=h.xz;omega) h.Xn
 rw[h1,h3.2 h]
theorem Ff{l:List Pt}(h:oP l){t:Int}(ht:MF t):rM l t=some (tD l t):=by
 apply post.eq;obtain⟨p0,r0,rfl⟩:∃p r,l=p ::r:=by
  cases l with
  |nil=>have:=h.pos;simp at this
  |cons p r=>exact⟨p,r,rfl⟩
 generalize hl:p0 ::r0=l at h;have h0:l[0]?=some p0:=by rw[←hl];rfl
 have Sh:=h.pos;have T0:=h.xz;have Gk:l[l.length-1]?=some (l[l.length-1]'(by omega)):=List.getElem?_eq_getElem _
 unfold MF at ht;unfold rM;rw[GO h,ax];refine bh (fun hb=>?_) (fun _=>?_)
 ·simp only[Tb,qS,ik,Un]at hb;omega
 refine bG (R:=fun e=>(∃u,e=.inl u∧∀p,l[l.length-1]?=some p→p.t≤t∨t<p0.t)∨e=.inr (tD l t)) ?_ ?_
 ·refine gT (fun i=>∃k:Nat,i=(k:Int)∧k<l.length∧(∀p,l[k]?=some p→p.t≤t∨t<p0.t)) (fun i=>l.length-i.toNat) ⟨0,rfl,by omega,fun p hp=>by rw[h0]at hp;cases hp;omega⟩ (by simp;omega) ?_
  rintro _ ⟨k,rfl,hk,hC⟩;show post (o5 l t (k:Int)) _;unfold o5;have nP:aT .i64 (k:Int) 1=((k+1:Nat):Int):=by rw[kR (by omega) (by omega)];omega
  rw[nP];refine bh (fun hb=>?_) (fun hb=>fG (.inl ⟨_,rfl,fun p hp=>hC p ?_⟩))
  rotate_left
  ·simp only[jn,aB]at hb;rw[show k=l.length-1 by omega];exact hp
  simp only[ik,aB]at hb;have hk1:k+1<l.length:=by omega
  have e1:l[k]?=some l[k]:=List.getElem?_eq_getElem hk;have e2:l[k+1]?=some l[k+1]:=List.getElem?_eq_getElem hk1;rw[ba e1,ax,ba e2,ax];generalize l[k]=p at e1;generalize l[k+1]=q at e2;have hp:=h.bd e1;have hq:=h.bd e2;obtain⟨hpq,hpa⟩:=h.KJ.pair e1 e2;refine bh (fun hc=>?_) (fun hc=>ki ⟨⟨k+1,rfl,hk1,fun x hx=>?_⟩,by simp;omega⟩)
  ·simp only[EG,xK,ik]at hc;obtain⟨n1,n2,n3,n4⟩:=RG (h.at e1) (h.at e2) hpq hpa hc.1 (Int.le_of_lt hc.2);have key:(t-p.t)*(q.a-p.a)+q.t-p.t-1=(t-p.t)*(q.a-p.a)+(q.t-p.t)-1:=by omega
   rw[←key]at n3 n4;simp(disch:=omega) only[kR,xC,Yl,Qap];refine b5 (by omega) (fG (.inr ?_))
   rw[FK h.KJ e1 e2 hc.1 (Int.le_of_lt hc.2),key];rfl
  ·rw[e2]at hx;cases hx;simp only[Mc,Is,jn]at hc;rcases hC p e1 with h'|h'
   ·left;omega
   ·right;exact h'
 ·intro e he;rcases he with⟨u,rfl,hu⟩|rfl
  ·rw[iB,show(0:Int)=((0:Nat):Int)from rfl,ba h0,ax];have hp:=h.bd h0;refine bh (fun hb=>?_) (fun hb=>?_)
   ·simp only[qS]at hb;have hs:dA .i64 (aB l) 1=((l.length-1:Nat):Int):=by unfold aB;rw[xC (by omega) (by omega)];omega
    rw[hs,ba Gk,ax];have hq:=h.bd Gk;simp(disch:=omega) only[kR,xC,bj];rw[Dh h.KJ Gk (by rcases hu _ Gk with h1|h1;exact h1;omega)]
   ·simp only[kO]at hb;rw[kR (by omega) (by omega),xC (by omega) (by omega),bj,←hl,NK (by rw[hl];exact h.KJ) hb]
  ·rw[Je];exact bj.2 rfl
theorem PX:∀i:Nat,i<16→(jL (i:Int)).isSome=true:=by decide +kernel
theorem FD{l:List Pt}(h:oP l):gB l=some []:=by
 have Sh:=h.pos;have T0:=h.xz;unfold gB;rw[bm (by simp only[Ja,yZ,kO,aB];omega)]
 unfold jZ;have JT:aF (fun s:List aa×Int=>fl l s.1 s.2) ([],0)=some []:=?_
 ·rw[JT,ax]
 refine eJ (e:=[]) l.length (fun i=>(([]:List aa),(i:Int))) (by omega) (fun i hi=>?_) ?_
 ·have e1:l[i]?=some l[i]:=List.getElem?_eq_getElem hi;obtain⟨r,hr⟩:=Option.isSome_iff_exists.1 (PX i (by omega))
  show fl l [] (i:Int)=_;unfold fl;rw[bu (by simp only[ik,aB];omega),ba e1,ax,hr,ax]
  have hp:=h.bd e1;have hA:=h.at e1;unfold Qf at hA;rw[show jz (l[i]).t 0 4096=some true by unfold jz;simp only[Option.some.injEq,EG,tl,xK];omega,ax]
  rw[bm (by simp only[Bool.not_true,Bool.false_or,Ja,jn,kO];rw[kR (by omega) (by omega)];omega)]
  have nP:aT .i64 (i:Int) 1=((i+1:Nat):Int):=by rw[kR (by omega) (by omega)];omega
  unfold j0;rw[nP];rcases Nat.eq_zero_or_pos i with h0|h0
  ·rw[bm (by simp only[kO];omega)]
  ·have e0:l[i-1]?=some (l[i-1]'(by omega)):=List.getElem?_eq_getElem _
   have hs:dA .i64 (i:Int) 1=((i-1:Nat):Int):=by rw[xC (by omega) (by omega)];omega
   have X2:=h.KJ.pair e0 (by rw[show i-1+1=i by omega];exact e1)
   rw[bu (by simp only[qS];omega),hs,ba e0,ax,bm (by simp only[Is];omega),bm (by simp only[jn];omega)]
 ·show fl l [] (l.length:Int)=_;unfold fl;rw[bm (by simp [aB])]
theorem FE{l:List Pt}(h:oP l):s9 l=some true:=by
 unfold s9;rw[FD h];rfl
theorem half{i j:Nat}(h:i<100)(h':j<100):wz .i64 (vb .u64 (wz .u64 (aT .i64 (i:Int) (j:Int))) 1)=(((i+j) / 2:Nat):Int):=by
 rw[kR (by omega) (by omega)]
 unfold wz vb;rw[IntKind.wrap_u64,IntKind.wrap_i64];have e:(2:Int) ^ min (Int.toNat 1) (IntKind.u64.bits)=2:=by decide
 rw[e,Int.fdiv_eq_ediv_of_nonneg _ (by omega)]
 omega
theorem Nb{l:List Pt}(h:oP l){t:Int}(ht:MF t):post (b_ l t) fun r=>∃i:Nat,r.1=(i:Int)∧i≤l.length∧(∀k p,k<i→l[k]?=some p→p.t<t)∧(∀k p,i≤k→l[k]?=some p→t≤p.t)∧
  (r.2=true↔∃p,l[i]?=some p∧p.t=t):=by
 have T0:=h.xz;unfold MF at ht;refine bG (R:=fun x=>∃i:Nat,x=(i:Int)∧i≤l.length∧(∀k p,k<i→l[k]?=some p→p.t<t)∧(∀k p,i≤k→l[k]?=some p→t≤p.t)) ?_ ?_
 ·refine gT (fun s=>∃i j:Nat,s=((i:Int),(j:Int))∧i≤j∧j≤l.length∧(∀k p,k<i→l[k]?=some p→p.t<t)∧(∀k p,j≤k→l[k]?=some p→t≤p.t)) (fun s=>(s.2-s.1).toNat) ⟨0,l.length,rfl,by omega,by omega,fun k p hk=>by omega,fun k p hk hp=>by have:=(List.getElem?_eq_some_iff.1 hp).1;omega⟩ (by simp [aB];omega) ?_
  rintro _ ⟨i,j,rfl,Zy,hjl,h1,h2⟩;show post (bJ l t (i:Int) (j:Int)) _;unfold bJ;rw[half (by omega) (by omega)]
  refine bh (fun hb=>?_) (fun hb=>fG ?_)
  ·simp only[ik]at hb;have hm:(i+j) / 2<l.length:=by omega
   have e1:l[(i+j) / 2]?=some l[(i+j) / 2]:=List.getElem?_eq_getElem hm;rw[ba e1,ax];generalize l[(i+j) / 2]=p at e1;have hp:=h.bd e1;unfold lX;rw[xC (by omega) (by omega),ax]
   refine bh (fun hc=>ki ?_) (fun hc=>ki ?_)
   ·simp only[ik]at hc;refine⟨⟨(i+j) / 2+1,j,by rw[kR (by omega) (by omega)];simp,by omega,hjl,fun k q hk hq=>?_,h2⟩,by rw[kR (by omega) (by omega)];simp;omega⟩
    rcases Nat.lt_or_ge k ((i+j) / 2)with zz|zz
    ·have:=h.KJ.lt zz hq e1;omega
    ·obtain rfl:k=(i+j) / 2:=by omega
     rw[e1]at hq;cases hq;omega
   ·simp only[jn]at hc;refine⟨⟨i,(i+j) / 2,rfl,by omega,by omega,h1,fun k q hk hq=>?_⟩,by simp;omega⟩
    rcases Nat.lt_or_ge ((i+j) / 2) k with zz|zz
    ·have:=h.KJ.lt zz e1 hq;omega
    ·obtain rfl:k=(i+j) / 2:=by omega
     rw[e1]at hq;cases hq;omega
  ·simp only[jn]at hb;obtain rfl:i=j:=by omega
   exact⟨i,rfl,hjl,h1,h2⟩
 ·rintro _ ⟨i,rfl,hi,h1,h2⟩;refine bh (fun hb=>?_) (fun hb=>bj.2 ⟨i,rfl,hi,h1,h2,?_⟩)
  ·simp only[ik,aB]at hb;have Mw:i<l.length:=by omega
   have e1:l[i]?=some l[i]:=List.getElem?_eq_getElem Mw;rw[ba e1,ax];generalize l[i]=p at e1;have hp:=h.bd e1;unfold lX;rw[xC (by omega) (by omega),ax,bj]
   refine⟨i,rfl,hi,h1,h2,?_⟩;simp only[tk,e1,Option.some.injEq,exists_eq_left'];omega
  ·simp only[jn,aB]at hb;rw[List.getElem?_eq_none (by omega)]
   simp
theorem Ei{l:List Pt}(h:oP l){t:Int}(ht:MF t):qj l t=some (tD l t):=by
 apply post.eq;have Sh:=h.pos;have T0:=h.xz;obtain⟨⟨x,f⟩,hx,i,rfl,hi,h1,h2,h3⟩:=Nb h ht;simp only at h3;unfold qj;rw[hx,ax];unfold MF at ht;refine bh (fun hb=>?_) (fun hb=>?_)
 ·obtain⟨p,e1,hpt⟩:=h3.1 hb;show post (aG (a4 l (i:Int)) _) _;rw[ba e1,ax,bj];subst hpt;rcases Nat.lt_or_ge (i+1) l.length with h'|h'
  ·have e2:l[i+1]?=some l[i+1]:=List.getElem?_eq_getElem h';have m9:=(h.KJ.pair e1 e2).1;rw[FK h.KJ e1 e2 (by omega) (by omega),Km m9]
  ·have hil:i=l.length-1:=by have:=(List.getElem?_eq_some_iff.1 e1).1;omega
   rw[hil]at e1;rw[Dh h.KJ e1 (by omega)];omega
 ·have hnf:∀p,l[i]?=some p→p.t≠t:=fun p hp he=>by
   have:=h3.2 ⟨p,hp,he⟩;simp only at hb;rw[this]at hb;cases hb
  have e0:l[0]?=some l[0]:=List.getElem?_eq_getElem (by omega)
  show post (br (aW (i:Int) 0) _ _) _;refine bh (fun hc=>?_) (fun hc=>?_)
  ·simp only[tk]at hc;obtain rfl:i=0:=by omega
   rw[show(0:Int)=((0:Nat):Int)from rfl,ba e0,ax];have hp:=h.bd e0;have h4:=h2 0 _ (by omega) e0
   generalize l[0]=p at e0 hp h4;obtain⟨r,hr⟩:∃r,l=p ::r:=by
    cases l with
    |nil=>simp at Sh
    |cons x r=>cases e0;exact⟨r,rfl⟩
   simp(disch:=omega) only[kR,xC,bj];rw[hr,NK (by rw[←hr];exact h.KJ) h4]
  ·simp only[yZ]at hc;have e1:l[i-1]?=some (l[i-1]'(by omega)):=List.getElem?_eq_getElem _
   have hs:dA .i64 (i:Int) 1=((i-1:Nat):Int):=by rw[xC (by omega) (by omega)];omega
   have hp:=h.bd e1;have h4:=h1 (i-1) _ (by omega) e1
   show post (br (aW (i:Int) (aB l)) (aG (a4 l (dA .i64 (i:Int) 1)) _) _) _;rw[hs];refine bh (fun hd=>?_) (fun hd=>?_)
   ·simp only[tk,aB]at hd;obtain rfl:i=l.length:=by omega
    rw[ba e1,ax];simp(disch:=omega) only[kR,xC,bj];rw[Dh h.KJ e1 (by omega)]
   ·simp only[yZ,aB]at hd;have e2:l[i]?=some (l[i]'(by omega)):=List.getElem?_eq_getElem _
    have hq:=h.bd e2;have h5:=h2 i _ (by omega) e2
    show post (aG (a4 l ((i-1:Nat):Int)) fun x3=>aG (a4 l (i:Int)) fun x4=>_) _
    rw[ba e1,ax,ba e2,ax];have XF:l[i-1+1]?=some (l[i]'(by omega)):=by rw[show i-1+1=i by omega];exact e2
    generalize l[i-1]=p at e1 hp h4;generalize l[i]=q at e2 XF hq h5;obtain⟨hpq,hpa⟩:=h.KJ.pair e1 XF;obtain⟨n1,n2,n3,n4⟩:=RG (h.at e1) (h.at e2) hpq hpa (Int.le_of_lt h4) h5;simp(disch:=omega) only[kR,xC,Yl,Qap];refine b5 (by omega) (bj.2 ?_)
    rw[FK h.KJ e1 XF (Int.le_of_lt h4) h5];rfl
theorem Eh{l:List Pt}(h:oP l){t:Int}(ht:MF t):qi l t=some (tD l t):=by
 unfold qi;rw[show jz t 0 1073741824=some true by unfold jz;unfold MF at ht;simp only[Option.some.injEq,EG,tl,xK];omega,ax,de,FE h,ax,de,Ei h ht,ax]
class Sm (α:Type) where
  sm:α→Prop
instance:Sm aa:=⟨fun f=>f.ct.size≤64⟩
instance:Sm Int:=⟨fun _=>True⟩
section
variable {α β : Type} [Sm α]
def Ext(l0:List α)(c:Nat)(P:Prop)(r:List α):Prop:=∃new,r=l0++new∧new.length≤c∧(new=[]→P)∧∀x∈new,Sm.sm x
theorem Ext.nil{l0:List α}{c:Nat}{P:Prop}(h:P):Ext l0 c P l0:=⟨[],by simp,by simp,fun _=>h,by simp⟩
theorem Ext.one{l0:List α}{c:Nat}{P:Prop}{x:α}(hc:1≤c)(hx:Sm.sm x):Ext l0 c P (l0++[x]):=⟨[x],rfl,hc,fun h=>by(cases h),fun y hy=>by rw[List.mem_singleton.1 hy];exact hx⟩
theorem Ext.trans{a b r:List α}{c d e:Nat}{P Q R:Prop}(h:Ext a c P b)(h':Ext b d Q r)(he:c+d≤e)(hr:P→Q→R):Ext a e R r:=by
 obtain⟨n,rfl,h1,h2,h5⟩:=h;obtain⟨m,rfl,h3,h4,h6⟩:=h';refine⟨n++m,by simp,by simp;omega,fun h=>?_,fun x hx=>by rcases List.mem_append.1 hx with h|h;exact h5 x h;exact h6 x h⟩
 rw[List.append_eq_nil_iff]at h;exact hr (h2 h.1) (h4 h.2)
theorem Ext.len{a r:List α}{c:Nat}{P:Prop}(h:Ext a c P r):r.length≤a.length+c:=by obtain⟨n,rfl,h1,_⟩:=h;simp;omega
theorem Ext.of_nil{r:List α}{c:Nat}{P:Prop}(h:Ext [] c P r)(hr:r=[]):P:=by
 obtain⟨n,rfl,_,h2,_⟩:=h;exact h2 (by simpa using hr)
theorem Ext.Wm{r:List α}{c:Nat}{P:Prop}(h:Ext [] c P r):∀x∈r,Sm.sm x:=by
 obtain⟨n,rfl,_,_,h2⟩:=h;simpa using h2
theorem Ext.mono{a r:List α}{c d:Nat}{P Q:Prop}(h:Ext a c P r)(hc:c≤d)(hp:P→Q):Ext a d Q r:=by
 obtain⟨n,rfl,h1,h2,h3⟩:=h;exact⟨n,rfl,by omega,fun hn=>hp (h2 hn),h3⟩
def Vh(out:List α)(i:Int)(c:Nat)(P:Prop)(x:(List α×Int)⊕β):Prop:=∃r,x=.inl (r,i)∧Ext out c P r
theorem Jc{out:List α}{i j:Int}{c:Nat}{P:Prop}(hi:j=i)(h:P):post (some (Sum.inl (out,j):(List α×Int)⊕β)) (Vh out i c P):=⟨_,rfl,out,by rw[hi],.nil h⟩
theorem Au{out:List α}{x:α}{i j:Int}{c:Nat}{P:Prop}(hi:j=i)(hc:1≤c)(hx:Sm.sm x):post (some (Sum.inl (out++[x],j):(List α×Int)⊕β)) (Vh out i c P):=⟨_,rfl,_,by rw[hi],.one hc hx⟩
theorem o9{B:List α×Int→Option ((List α×Int)⊕(List α))}(n c:Nat)(P:Nat→Prop)(l0:List α)(hn:n<18446744073709551615)
  (step:∀(i:Nat) (out:List α),i<n→out.length≤l0.length+c*i→post (B (out,(i:Int))) (Vh out ((i:Int)+1) c (P i)))
  (fin:∀out,B (out,(n:Int))=some (.inr out)):post (aF B (l0,0)) (Ext l0 (c*n) (∀i,i<n→P i)):=by
 refine gT (fun s=>∃i:Nat,s.2=(i:Int)∧i≤n∧Ext l0 (c*i) (∀k,k<i→P k) s.1) (fun s=>n-s.2.toNat)
  ⟨0,rfl,Nat.zero_le _,.nil (by simp)⟩ (by simp;omega) ?_
 rintro⟨out,j⟩ ⟨i,hj,hi,hl⟩;simp only at hj hl;subst hj;by_cases h:i<n
 ·refine(step i out h hl.len).mono ?_
  rintro x ⟨r,rfl,h1⟩;refine⟨fun s' hs=>?_,fun _ h=>by cases h⟩
  cases hs;refine⟨⟨i+1,by simp,by omega,hl.trans h1 (by rw[Nat.mul_add];omega) fun h2 h3 k hk=>?_⟩,by simp;omega⟩
  rcases Nat.lt_or_ge k i with h|h
  ·exact h2 k h
  ·obtain rfl:k=i:=by omega
   exact h3
 ·obtain rfl:i=n:=by omega
  rw[fin];exact fG hl
end
theorem EA{e:Int}{s:ByteArray}(h:s.size≤64):Sm.sm (aa.mk e s):=h
theorem hY(a b:ByteArray):(bH a b).size=a.size+b.size:=by unfold bH;exact ByteArray.size_append
theorem Kb{B:Bool×Int→Option ((Bool×Int)⊕Bool)}(n:Nat)(P:Nat→Prop)(hn:n<18446744073709551615)
  (step:∀(k:Nat) (b:Bool),k<n→post (B (b,(k:Int))) fun x=>∃b',x=.inl (b',(k:Int)+1)∧(b'=true↔b=true∨P k))
  (fin:∀b,B (b,(n:Int))=some (.inr b)):post (aF B (false,0)) fun r=>(r=true↔∃k,k<n∧P k):=by
 refine gT (fun s=>∃i:Nat,s.2=(i:Int)∧i≤n∧(s.1=true↔∃k,k<i∧P k)) (fun s=>n-s.2.toNat) ⟨0,rfl,Nat.zero_le _,by simp⟩ (by simp;omega) ?_
 rintro⟨b,j⟩ ⟨i,hj,hi,hl⟩;simp only at hj hl;subst hj;by_cases h:i<n
 ·refine(step i b h).mono ?_
  rintro x ⟨b',rfl,h1⟩;refine⟨fun s' hs=>?_,fun _ h=>by cases h⟩
  cases hs;refine⟨⟨i+1,by simp,by omega,?_⟩,by simp;omega⟩
  simp only;rw[h1,hl];constructor
  ·rintro(⟨k,h2,h3⟩|h2)
   ·exact⟨k,by omega,h3⟩
   ·exact⟨i,by omega,h2⟩
  ·rintro⟨k,h2,h3⟩;rcases Nat.lt_or_ge k i with h|h
   ·exact .inl ⟨k,h,h3⟩
   ·obtain rfl:k=i:=by omega
    exact .inr h3
 ·obtain rfl:i=n:=by omega
  rw[fin];exact fG hl
theorem inc{i n:Nat}(h:i<n)(hn:n≤1048576):aT .i64 (i:Int) 1=(i:Int)+1:=kR (by omega) (by omega)
theorem dec{i:Nat}(h:0<i)(hn:i≤1048576):dA .i64 (i:Int) 1=((i-1:Nat):Int):=by rw[xC (by omega) (by omega)];omega
theorem QT{s:ByteArray}{i:Int}(h0:0≤i)(h1:i<s.size):∃b,II s i=some b:=by
 unfold II;rw[if_pos h0];exact⟨_,getElem?_pos s i.toNat (by omega)⟩
theorem Dq(s:ByteArray)(hs:s.size≤1048576):post (fe s) fun _=>True:=by
 unfold fe;refine bh (fun _=>bj.2 trivial) (fun hb=>?_)
 simp only[Ja,jn,kO,rh]at hb;obtain⟨b,hb0⟩:=QT (s:=s) (i:=0) (by omega) (by omega)
 rw[hb0,ax];refine bG (R:=fun _=>True) ⟨_,rfl,trivial⟩ fun r _=>bh (fun _=>bj.2 trivial) fun _=>?_
 refine bG (R:=fun _=>True) ?_ fun e _=>?_
 ·refine gT (fun i=>∃k:Nat,i=(k:Int)∧k≤s.size) (fun i=>s.size-i.toNat) ⟨0,rfl,Nat.zero_le _⟩ (by simp;omega) ?_
  rintro _ ⟨k,rfl,hk⟩;show post (lu s b (k:Int)) _;unfold lu;refine bh (fun hb=>?_) (fun _=>fG trivial)
  simp only[ik,rh]at hb;obtain⟨c,hc⟩:=QT (s:=s) (i:=k) (by omega) (by omega)
  rw[hc,ax,inc (n:=s.size) (by omega) hs]
  have leaf:post (some (Sum.inl ((k:Int)+1):Int⊕(Unit⊕Bool))) fun x=>(∀s',x=.inl s'→(∃k:Nat,s'=(k:Int)∧k≤s.size)∧s.size-s'.toNat<s.size-(k:Int).toNat)∧∀e,x=.inr e→True:=
   ki ⟨⟨k+1,by simp,by omega⟩,by simp;omega⟩
  refine bG (R:=fun _=>True) ⟨_,rfl,trivial⟩ fun r1 _=>bh (fun _=>leaf) fun _=>?_
  exact bG (R:=fun _=>True) ⟨_,rfl,trivial⟩ fun r2 _=>bh (fun _=>leaf) fun _=>fG trivial
 ·cases e with
  |inl u=>exact bj.2 trivial
  |inr r=>exact bj.2 trivial
structure Xu (a:al):Prop where
 cz:a.cz.length≤1048576
 dp:a.dp.length≤1048576
 pts:∀p∈a.cz,Xn p
 Qfz:∀p∈a.dp,Xn p
structure DB (n:ah):Prop where
 av:n.av.length≤1048576
 aI:n.aI.length≤1048576
 names:∀s∈n.av,s.size≤1048576
 Ps:∀a∈n.aI,Xu a
def Sx(l:List Pt)(i:Nat):Prop:=∀p,l[i]?=some p→0≤p.t∧p.t≤4096∧0≤p.a∧p.a≤4096∧(0<i→∀q,l[i-1]?=some q→q.t<p.t)
structure AI (np:Nat) (a:al):Prop where
 JN:0≤a.az
 JO:a.az<np
 Wu:0≤a.cw
 Wv:a.cw<np
 Qdv:0≤a.ai
 Qdw:a.ai≤7
 Qcl:0≤a.dc
 Qcm:a.dc≤10000
 ne:a.az≠a.cw
 cz:oP a.cz
 dp:a.dp.length≤16
 G1:∀i,i<a.dp.length→Sx a.dp i
def zB(a b:al):Prop:=a.az=b.az∧a.cw=b.cw∧a.ai=b.ai
structure td (n:ah):Prop where
 av:n.av.length≤24
 aI:n.aI.length≤1024
 all:∀a∈n.aI,AI n.av.length a
 once:∀(i k:Nat) (a b:al),k<i→n.aI[i]?=some a→n.aI[k]?=some b→¬zB a b
theorem Hi{n:ah}(hn:DB n):post (dU n) (Ext [] (1+n.av.length) (n.av.length≤24)):=by
 have A6:=hn.av;have main:∀l0:List aa,l0.length≤1→post (dt n l0) (Ext l0 n.av.length True):=by
  intro l0 y3;refine bG (R:=Ext l0 n.av.length True) ?_ fun a h=>bj.2 h
  refine(o9 n.av.length 1 (fun _=>True) l0 (by omega) (fun i out hi ho=>?_) (fun out=>?_)).mono fun r h=>h.mono (by omega) fun _=>trivial
  ·show post (bA n l0 out (i:Int)) _;unfold bA;rw[bu (by simp [aB];exact hi),inc hi A6]
   refine bG (pd (i:Int) (Dr (by omega))) fun r hr=>b5 (by show 6+r.size≤_;omega) ?_
   have e1:n.av[i]?=some n.av[i]:=List.getElem?_eq_getElem hi;rw[ba e1,ax];have qo:∀f:aa,d_ (out++[f]).length 24:=fun f=>ca (by simp;omega)
   have Si:∀{e:Int},Sm.sm (aa.mk e (bH dm r)):=EA (by rw[hY];show 6+r.size≤64;omega)
   refine bG (Dq _ (hn.names _ (List.getElem_mem hi))) fun r1 _=>bh (fun _=>?_) (fun _=>b5 (qo _) (Au rfl (by omega) Si))
   refine bG (R:=fun _=>True) ((Kb i (fun k=>∃x,n.av[k]?=some x∧qn x n.av[i]=true) (by omega) (fun k b hk=>?_) (fun b=>?_)).mono fun _ _=>trivial) fun tw _=>bh (fun _=>b5 (qo _) (Au rfl (by omega) Si)) (fun _=>Jc rfl trivial)
   ·show post (bB n l0 out (i:Int) r b (k:Int)) _;unfold bB;rw[bu (by simp;omega),inc (n:=i) hk (by omega)]
    have e2:n.av[k]?=some (n.av[k]'(by omega)):=List.getElem?_eq_getElem _
    refine bh (fun h=>bj.2 ⟨true,rfl,by simp [h]⟩) (fun h=>?_)
    rw[ba e2,ax,ba e1,ax,bj];exact⟨_,rfl,by simp [h,e2]⟩
   ·show bB n l0 out (i:Int) r b (i:Int)=_;unfold bB;rw[bm (by simp)]
  ·show bA n l0 out (n.av.length:Int)=_;unfold bA;rw[bm (by simp [aB])]
 unfold dU;refine bh (fun h=>b5 (ca (by simp)) ((main _ (by simp)).mono fun r h'=>?_)) (fun h=>(main _ (by simp)).mono fun r h'=>h'.mono (by omega) fun _=>?_)
 ·exact(Ext.one (l0:=[]) (P:=n.av.length≤24) (Nat.le_refl 1) (EA (s:=fp) (show 6≤64 by omega))).trans h' (Nat.le_refl _) fun h _=>h
 ·simp only[kO,aB]at h;omega
theorem RL(t:Int):jU t=some (decide (0≤t∧t≤4096)):=by
 unfold jU;congr 1;rw[Bool.eq_iff_iff,EG,tl,xK,decide_eq_true_iff]
theorem L3{r:ByteArray}(hr:r.size≤21){x0:al}{l l0:List aa}(hI:Xu x0)(y3:l0.length≤4194304):post (dK r x0 l l0) (Ext l0 x0.dp.length (∀i,i<x0.dp.length→Sx x0.dp i)):=by
 have T8:=hI.dp;have Si:∀{e:Int},Sm.sm (aa.mk e (bH bq r)):=EA (by rw[hY];show 4+r.size≤64;omega)
 refine bG (R:=Ext l0 x0.dp.length (∀i,i<x0.dp.length→Sx x0.dp i)) ?_ fun a h=>bj.2 h
 refine(o9 x0.dp.length 1 (Sx x0.dp) l0 (by omega) (fun i out hi ho=>?_) (fun out=>?_)).mono fun r h=>h.mono (by omega) id
 ·show post (ck r x0 l out (i:Int)) _;unfold ck;have qo:∀f:aa,d_ (out++[f]).length 24:=fun f=>ca (by simp;omega)
  have e1:x0.dp[i]?=some x0.dp[i]:=List.getElem?_eq_getElem hi;rw[bu (by simp [aB];exact hi),inc hi T8,ba e1,ax,RL,ax,RL]
  generalize x0.dp[i]=p at e1;have no:post (dr (d_ (out++[aa.mk 2 (bH bq r)]).length 24) (some (Sum.inl (out++[aa.mk 2 (bH bq r)],(i:Int)+1):(List aa×Int)⊕(List aa)))) (Vh out ((i:Int)+1) 1 (Sx x0.dp i)):=b5 (qo _) (Au rfl (by omega) Si)
  refine bh (fun h1=>?_) (fun _=>no)
  rw[ax];refine bh (fun h2=>bh (fun h3=>?_) (fun h3=>Jc rfl ?_)) (fun _=>no)
  ·simp only[qS]at h3;have e2:x0.dp[i-1]?=some (x0.dp[i-1]'(by omega)):=List.getElem?_eq_getElem _
   rw[dec (by omega) (by omega),ba e2,ax]
   refine bh (fun _=>no) (fun h4=>Jc rfl ?_)
   simp only[Is,decide_eq_true_iff]at h1 h2 h4;intro x hx;rw[e1]at hx;cases hx;exact⟨h1.1,h1.2,h2.1,h2.2,fun _ q hq=>by rw[e2]at hq;cases hq;exact h4⟩
  ·simp only[kO,decide_eq_true_iff]at h1 h2 h3;intro x hx;rw[e1]at hx;cases hx;exact⟨h1.1,h1.2,h2.1,h2.2,fun h=>by omega⟩
 ·show ck r x0 l out (x0.dp.length:Int)=_;unfold ck;rw[bm (by simp [aB])]
theorem KQ{n:ah}(hn:DB n){i:Nat}{a:al}(ha:n.aI[i]?=some a):
  post (gI n (i:Int)) (Ext [] 3145735 (AI n.av.length a∧∀(k:Nat) (b:al),k<i→n.aI[k]?=some b→¬zB a b)):=by
 have hi:i<n.aI.length:=(List.getElem?_eq_some_iff.1 ha).1;have S2:=hn.aI;have hI:=hn.Ps a (List.mem_of_getElem? ha);have T8:=hI.dp;have Nv:=hI.cz;unfold gI;refine bG (pd (i:Int) (Dr (by omega))) fun r hr=>b5 (by show 4+r.size≤_;omega) ?_
 rw[ba ha,ax];have Si:∀{e:Int},Sm.sm (aa.mk e (bH bq r)):=EA (by rw[hY];show 4+r.size≤64;omega)
 have gen:∀(l l0:List aa),l0.length≤3→post (eA r a l l0) (Ext l0 3145732 (oP a.cz∧a.dp.length≤16∧∀i,i<a.dp.length→Sx a.dp i)):=by
  intro l l0 y3;unfold eA;refine bG (tR Nv hI.pts) fun r1 Nu=>?_
  refine bG (R:=Ext l0 2097153 (oP a.cz)) ?_ fun l4 h4=>?_
  ·refine(o9 r1.length 1 (fun _=>False) l0 (by omega) (fun k out hk ho=>?_) (fun out=>?_)).mono fun x hx=>?_
   ·show post (cj r a l r1 out (k:Int)) _;unfold cj;have e1:r1[k]?=some r1[k]:=List.getElem?_eq_getElem hk;have nP:aT .i64 (k:Int) 1=(k:Int)+1:=kR (by omega) (by omega)
    rw[bu (by simp [aB];exact hk),nP,ba e1,ax]
    exact b5 (ca (by simp;omega)) (Au rfl (by omega) Si)
   ·show cj r a l r1 out (r1.length:Int)=_;unfold cj;rw[bm (by simp [aB])]
   ·refine hx.mono (by omega) fun h=>Nu.2.1 ?_
    cases r1 with
    |nil=>rfl
    |cons y ys=>exact(h 0 (by simp)).elim
  ·have h4l:=h4.len;refine bh (fun h=>b5 (ca (by simp;omega)) ?_) (fun h=>?_)
   ·refine((L3 hr hI (by simp;omega)).mono fun _ h=>h.mono T8 id:post (dK r a l _) (Ext _ 1048576 _)).mono fun x hx=>?_
    refine h4.trans ((Ext.one (P:=False) (Nat.le_refl 1) Si).trans hx (e:=1048577) (by omega) (fun h _=>h)) (by omega) fun h1 h2=>h2.elim
   ·refine((L3 hr hI (by omega)).mono fun _ h=>h.mono T8 id:post (dK r a l _) (Ext _ 1048576 _)).mono fun x hx=>?_
    simp only[kO,aB]at h;exact h4.trans hx (by omega) fun h1 h2=>⟨h1,by omega,h2⟩
 have Y_:∀(l l0:List aa),l0.length≤2→post (ez n (i:Int) r a l l0) (Ext l0 3145733 ((∀(k:Nat) (b:al),k<i→n.aI[k]?=some b→¬zB a b)∧oP a.cz∧a.dp.length≤16∧∀i,i<a.dp.length→Sx a.dp i)):=by
  intro l l0 y3;unfold ez;refine bG (Kb i (fun k=>∃b,n.aI[k]?=some b∧zB a b) (by omega) (fun k b hk=>?_) (fun b=>?_)) fun tw Nw=>bh (fun h=>b5 (ca (by simp;omega)) ?_) (fun h=>?_)
  ·show post (ch n (i:Int) r a l l0 b (k:Int)) _;unfold ch;have e1:n.aI[k]?=some (n.aI[k]'(by omega)):=List.getElem?_eq_getElem _
   rw[bu (by simp;omega),inc (n:=i) hk (by omega),ba e1,ax,bj]
   refine⟨_,rfl,?_⟩;simp only[Tb,EG,tk,e1,Option.some.injEq,exists_eq_left',zB,and_assoc]
  ·show ch n (i:Int) r a l l0 b (i:Int)=_;unfold ch;rw[bm (by simp)]
  ·exact(gen l _ (by simp;omega)).mono fun x hx=>(Ext.one (P:=False) (Nat.le_refl 1) Si).trans hx (by omega) fun h _=>h.elim
  ·refine(gen l _ (by omega)).mono fun x hx=>hx.mono (by omega) fun h'=>⟨fun k b hk hb hs=>?_,h'⟩
   rw[Nw.2 ⟨k,hk,b,hb,hs⟩]at h;cases h
 have fin:∀(l:List aa),l.length≤1→post (ew n (i:Int) r a l) (Ext l 3145734 (0≤a.ai∧a.ai≤7∧0≤a.dc∧a.dc≤10000∧a.az≠a.cw∧(∀(k:Nat) (b:al),k<i→n.aI[k]?=some b→¬zB a b)∧oP a.cz∧a.dp.length≤16∧∀i,i<a.dp.length→Sx a.dp i)):=by
  intro l hl;unfold ew;refine bh (fun h=>b5 (ca (by simp;omega)) ?_) (fun h=>?_)
  ·exact(Y_ l _ (by simp;omega)).mono fun x hx=>(Ext.one (P:=False) (Nat.le_refl 1) Si).trans hx (by omega) fun h _=>h.elim
  ·simp only[Ja,jn,kO,yZ]at h;exact(Y_ l _ (by omega)).mono fun x hx=>hx.mono (by omega) fun h'=>⟨h.1.1.1.1,h.1.1.1.2,h.1.1.2,h.1.2,h.2,h'⟩
 refine bh (fun h=>b5 (ca (by simp)) ?_) (fun h=>?_)
 ·exact(fin _ (by simp)).mono fun x hx=>(Ext.one (l0:=[]) (P:=False) (Nat.le_refl 1) Si).trans hx (by omega) fun h _=>h.elim
 ·simp only[Ja,jn,JQ,aB]at h;exact(fin _ (by simp)).mono fun x hx=>hx.mono (by omega) fun⟨h1,h2,h3,h4,h5,h6,h7,h8,h9⟩=>⟨⟨h.1.1.1,h.1.1.2,h.1.2,h.2,h1,h2,h3,h4,h5,h7,h8,h9⟩,h6⟩
theorem tS{n:ah}(hn:DB n):post (gq n) (Ext [] (1048578+3145735*n.aI.length) (td n)):=by
 have S2:=hn.aI;have A6:=hn.av;unfold gq;refine bG (Hi hn) fun r hr=>?_
 have ME:=hr.len;have main:∀l0:List aa,l0.length≤1048578→post (gH n l0) (Ext l0 (3145735*n.aI.length) (∀i,i<n.aI.length→∀a,n.aI[i]?=some a→AI n.av.length a∧∀(k:Nat) (b:al),k<i→n.aI[k]?=some b→¬zB a b)):=by
  intro l0 y3;refine tQ ?_
  refine(o9 n.aI.length 3145735 _ l0 (by omega) (fun i out hi ho=>?_) (fun out=>?_)).mono fun r h=>bj.2 h
  ·show post (cW n l0 out (i:Int)) _;unfold cW;have e1:n.aI[i]?=some n.aI[i]:=List.getElem?_eq_getElem hi;rw[bu (by simp [aB];exact hi),inc hi S2]
   refine bG (KQ hn e1) fun r1 Nu=>?_
   obtain⟨new,h1,h2,h3,h4⟩:=Nu;rw[List.nil_append]at h1;subst h1;refine b5 (ca (by simp;omega)) (bj.2 ⟨_,rfl,_,rfl,h2,fun h a ha=>?_,h4⟩)
   rw[e1]at ha;cases ha;exact h3 h
  ·show cW n l0 out (n.aI.length:Int)=_;unfold cW;rw[bm (by simp [aB])]
 refine bh (fun h=>b5 (ca (by simp at ME ⊢;omega)) ((main _ (by simp at ME ⊢;omega)).mono fun x hx=>?_)) (fun h=>(main _ (by simp at ME;omega)).mono fun x hx=>?_)
 ·exact hr.trans ((Ext.one (P:=False) (Nat.le_refl 1) (EA (s:=ml) (show 4≤64 by omega))).trans hx (Nat.le_refl _) (R:=False) fun h _=>h) (by omega) fun _ h=>h.elim
 ·simp only[kO,aB]at h;refine hr.trans hx (by omega) fun h1 h2=>⟨h1,by omega,fun a ha=>?_,fun i k a b hk ha hb=>(h2 i (List.getElem?_eq_some_iff.1 ha).1 a ha).2 k b hk hb⟩
  obtain⟨i,hi⟩:=List.getElem?_of_mem ha;exact(h2 i (List.getElem?_eq_some_iff.1 hi).1 a hi).1
def iC(l:List Pt)(t:Int):Int:=l.foldr (fun p s=>(if p.t≤t then p.a else 0)+s) 0
theorem Kr(l m:List Pt)(t:Int):iC (l++m) t=iC l t+iC m t:=by
 induction l with
 |nil=>simp [iC]
 |cons p l ih=>simp only[iC,List.cons_append,List.foldr_cons]at ih ⊢;omega
theorem wb{l:List Pt}{t:Int}{i:Nat}{p:Pt}(h:l[i]?=some p):iC (l.take (i+1)) t=iC (l.take i) t+(if p.t≤t then p.a else 0):=by
 rw[List.take_add_one,h,Kr];simp [iC]
theorem Qg{l:List Pt}(h:∀i,i<l.length→Sx l i){i:Nat}{p:Pt}(hp:l[i]?=some p):0≤p.t∧p.t≤4096∧0≤p.a∧p.a≤4096:=by
 have:=h i (List.getElem?_eq_some_iff.1 hp).1 p hp;exact⟨this.1,this.2.1,this.2.2.1,this.2.2.2.1⟩
theorem Fy{l:List Pt}(h:∀i,i<l.length→Sx l i)(t:Int):∀i:Nat,i≤l.length→0≤iC (l.take i) t∧iC (l.take i) t≤4096*i
 |0,_=>by simp [iC]
 |i+1,hi=>by
  have e1:l[i]?=some (l[i]'(by omega)):=List.getElem?_eq_getElem _
  have ih:=Fy h t i (by omega)
  have:=Qg h e1;rw[wb e1];split <;> omega
def s_(a:al)(t:Int):Int:=tD a.cz t+iC a.dp t
theorem oP.ne{l:List Pt}(h:oP l):l≠[]:=fun e=>by have:=h.pos;rw[e]at this;simp at this
theorem G2{l:List Pt}(h:∀i,i<l.length→Sx l i)(hl:l.length≤16)(t:Int):0≤iC l t∧iC l t≤65536:=by
 have:=Fy h t l.length (Nat.le_refl _);rw[List.take_length]at this;omega
theorem FJ{np:Nat}{a:al}(h:AI np a)(t:Int):t≤s_ a t:=by
 have:=I2 h.cz.KJ h.cz.ne t;have:=G2 h.G1 h.dp t;unfold s_;omega
theorem Vk{np:Nat}{a:al}(h:AI np a){t:Int}(ht:0≤t):s_ a t≤t+73728:=by
 have:=I3 h.cz.KJ ht;have:=G2 h.G1 h.dp t;unfold s_;omega
theorem Nd{l:List Pt}(h:∀i,i<l.length→Sx l i){t t':Int}(ht:t≤t'):iC l t≤iC l t':=by
 have:∀i:Nat,i≤l.length→iC (l.take i) t≤iC (l.take i) t':=by
  intro i;induction i with
  |zero=>intro _;simp [iC]
  |succ i ih =>
   intro hi;have e1:l[i]?=some (l[i]'(by omega)):=List.getElem?_eq_getElem _
   have:=Qg h e1;rw[wb e1,wb e1];have:=ih (by omega)
   split <;> split <;> omega
 have:=this l.length (Nat.le_refl _);rwa [List.take_length]at this
theorem Dg{np:Nat}{a:al}(h:AI np a){t t':Int}(ht:t≤t'):s_ a t≤s_ a t':=by
 have:=Le h.cz.KJ ht;have:=Nd h.G1 ht;unfold s_;omega
theorem L2{l:List Pt}{t r:Int}(h:∀i,i<l.length→Sx l i)(hl:l.length≤16)(hr:0≤r)(Lx:r≤2147483648){B:Int×Int→Option ((Int×Int)⊕Int)}
  (hB:∀out i,B (out,i)=br (aS i (aB l)) (aG (a4 l i) fun x0=>br (kP x0.t t) (some (.inl ((aT .i64 out x0.a),(aT .i64 i 1)))) (some (.inl (out,(aT .i64 i 1))))) (some (.inr out))):
  aF B (r,0)=some (r+iC l t):=by
 have e:aF B ((fun i:Nat=>(r+iC (l.take i) t,(i:Int))) 0)=some (r+iC l t):=by
  refine eJ l.length (fun i:Nat=>(r+iC (l.take i) t,(i:Int))) (by omega) (fun i hi=>?_) ?_
  ·have e1:l[i]?=some l[i]:=List.getElem?_eq_getElem hi;have hb:=Fy h t i (by omega)
   have hp:=Qg h e1;show B (_,_)=some (.inl (_,_));rw[hB,bu (by simp [aB];exact hi),ba e1,ax,wb e1,show aT .i64 (i:Int) 1=((i+1:Nat):Int) by rw[kR (by omega) (by omega)];omega]
   by_cases hc:l[i].t≤t
   ·rw[bu (by simpa using hc),if_pos hc,kR (by omega) (by omega),Int.add_assoc]
   ·rw[bm (by simp;omega),if_neg hc,Int.add_zero]
  ·show B (_,_)=_;rw[hB,bm (by simp [aB]),List.take_length]
 simpa [iC]using e
theorem Jm{np:Nat}{a:al}(h:AI np a){t:Int}(ht:MF t):lR a t=some (s_ a t):=by
 have h1:=I2 h.cz.KJ h.cz.ne t;have h2:=I3 h.cz.KJ ht.1;unfold MF at ht;unfold lR;rw[Eh h.cz ht,ax,L2 h.G1 h.dp (by omega) (by omega) (fun out i=>rfl),ax]
 rfl
theorem IS{np:Nat}{a:al}(h:AI np a){t:Int}(ht:MF t):rQ a t=some (s_ a t):=by
 have h1:=I2 h.cz.KJ h.cz.ne t;have h2:=I3 h.cz.KJ ht.1;unfold MF at ht;unfold rQ;rw[Ff h.cz ht,ax,L2 h.G1 h.dp (by omega) (by omega) (fun out i=>rfl),ax]
 rfl
theorem R1{α E:Type}{l:List α}(p:α→Bool)(Y:α→E)(N:E)(hl:l.length≤1048576){B:Int→Option (Int⊕E)}
  (hB:∀i,B i=br (aS i (aB l)) (aG (a4 l i) fun x=>br (p x) (some (.inr (Y x))) (some (.inl (aT .i64 i 1)))) (some (.inr N))):
  aF B 0=some (match l.find? p with|some x=>Y x|none=>N):=by
 apply post.eq;refine gT (fun i=>∃k:Nat,i=(k:Int)∧k≤l.length∧(l.drop k).find? p=l.find? p) (fun i=>l.length-i.toNat) ⟨0,rfl,Nat.zero_le _,rfl⟩ (by simp;omega) ?_
 rintro _ ⟨k,rfl,hk,hf⟩;rw[hB];refine bh (fun hb=>?_) (fun hb=>fG ?_)
 ·simp only[ik,aB]at hb;have zz:k<l.length:=by omega
  have e1:l[k]?=some l[k]:=List.getElem?_eq_getElem zz;rw[List.drop_eq_getElem_cons zz,List.find?_cons]at hf;rw[ba e1,ax,inc zz hl];refine bh (fun hc=>fG ?_) (fun hc=>ki ⟨⟨k+1,by simp,by omega,?_⟩,by simp;omega⟩)
  ·rw[hc]at hf;simp only at hf;rw[←hf]
  ·rw[hc]at hf;simpa using hf
 ·simp only[jn,aB]at hb;rw[List.drop_eq_nil_of_le (by omega)]at hf
  rw[←hf];rfl
def Gm(ai az cw:Int)(a:al):Bool:=decide (a.az=az∧a.cw=cw∧a.ai=ai)
def AK(n:ah)(ai az cw:Int):al×Bool:=match n.aI.find? (Gm ai az cw)with
 |some a=>(a,true)
 |none=>(al.mk 0 0 0 0 [] [],false)
theorem find_eq{n:ah}(h:n.aI.length≤1048576)(ai az cw:Int):sA n ai az cw=some (AK n ai az cw):=by
 unfold sA AK;have:=R1 (Gm ai az cw) (fun a=>(Sum.inr (a,true):Unit⊕(al×Bool))) (.inl ()) h (B:=fun s=>nW n ai az cw s) (fun i=>by
  unfold nW;congr 2
  funext x
  unfold ju;rw[ax];congr 1;unfold Gm;rw[Bool.eq_iff_iff];simp [and_assoc])
 rw[eg this];cases n.aI.find? (Gm ai az cw) <;> rfl
theorem R0{n:ah}{ai az cw:Int}(h:(AK n ai az cw).2=true):(AK n ai az cw).1∈n.aI∧Gm ai az cw (AK n ai az cw).1=true:=by
 unfold AK at h ⊢;cases hf:n.aI.find? (Gm ai az cw)with
 |none=>rw[hf]at h;cases h
 |some a=>exact⟨List.mem_of_find?_eq_some hf,List.find?_some hf⟩
def iJ(n:ah)(i:Int):Bool:=decide (0≤i∧i<n.av.length)
theorem wW(n:ah)(i:Int):gW n i=some (iJ n i):=by
 unfold gW iJ aB;congr 1;rw[Bool.eq_iff_iff];simp
def goN(n:ah)(ai az cw t:Int):Int×Int×Int:=
 if iJ n az=true∧iJ n cw=true then
  if az=cw then(t,0,0)else
  if(AK n ai az cw).2=true then(s_ (AK n ai az cw).1 t,(AK n ai az cw).1.dc,0)else(0,0,12)
 else(0,0,11)
theorem go_eq{n:ah}(h:td n)(ai az cw:Int){t:Int}(ht:MF t):qD n ai az cw t=some (goN n ai az cw t):=by
 unfold qD goN;rw[wW,ax,wW,ax,find_eq (by have:=h.aI;omega),ax]
 simp only[Y7,tk];by_cases h1:iJ n az=true
 ·by_cases h2:iJ n cw=true
  ·rw[if_pos h1,if_pos h2,if_pos (And.intro h1 h2)];by_cases h3:az=cw
   ·rw[if_pos h3,if_pos h3]
   ·rw[if_neg h3,if_neg h3];by_cases h4:(AK n ai az cw).2=true
    ·rw[if_pos h4,if_pos h4,Jm (h.all _ (R0 h4).1) ht,ax]
    ·rw[if_neg h4,if_neg h4]
  ·rw[if_pos h1,if_neg h2,if_neg (fun h:iJ n az=true∧iJ n cw=true=>h2 h.2)]
 ·rw[if_neg h1,if_neg (fun h:iJ n az=true∧iJ n cw=true=>h1 h.1)]
def Mb(f:List Int→Option (List Int))(c:Nat)(P:Prop):Prop:=∀l:List Int,l.length+c≤100→post (f l) (Ext l c P)
section
variable {f : List Int → Option (List Int)} {c : Nat} {P Q : Prop} {l : List Int} {e : Int}
theorem Mb.bad(h:Mb f c P)(hl:l.length+(c+1)≤100):post (dr (d_ (l++[e]).length 8) (f (l++[e]))) (Ext l (c+1) Q):=
 b5 (ca (by simp;omega)) ((h (l++[e]) (by simp;omega)).mono fun x hx=>(Ext.one (P:=False) (Nat.le_refl 1) trivial).trans hx (by omega) fun h _=>h.elim)
theorem Mb.Gf(h:Mb f c P)(hl:l.length+(c+1)≤100)(hp:P→Q):post (f l) (Ext l (c+1) Q):=(h l (by omega)).mono fun x hx=>hx.mono (by omega) hp
theorem Dj(hl:l.length+1≤100):post (dr (d_ (l++[e]).length 8) (some (l++[e]))) (Ext l 1 Q):=b5 (ca (by simp;omega)) (bj.2 (.one (Nat.le_refl 1) trivial))
theorem N0(hq:Q):post (some l) (Ext l 1 Q):=bj.2 (.nil hq)
end
section
variable {α : Type} {n lo hi : Int} {f : Bool → Option α} {Q : α → Prop}
theorem lj(h:post (f (decide (lo≤n∧n≤hi))) Q):post (aG (bp n lo hi) f) Q:=by
 have:bp n lo hi=some (decide (lo≤n∧n≤hi)):=by
  unfold bp;congr 1;rw[Bool.eq_iff_iff,EG,tl,xK,decide_eq_true_iff]
 rw[this];exact h
theorem BP(h:post (f (decide (lo≤n∧n≤hi))) Q):post (aG (c_ n lo hi) f) Q:=lj h
end
theorem Dv{E:Type}{B:Int→Option (Int⊕E)}(n:Nat)(R:E→Prop)(P:Nat→Prop)(hn:n<18446744073709551615)
  (step:∀i,i<n→post (B (i:Int)) fun x=>(x=.inl ((i:Int)+1)∧P i)∨∃e,x=.inr e∧R e) (fin:post (B (n:Int)) fun x=>∃e,x=.inr e∧((∀i,i<n→P i)→R e)):post (aF B 0) R:=by
 refine gT (fun i=>∃k:Nat,i=(k:Int)∧k≤n∧∀j,j<k→P j) (fun i=>n-i.toNat) ⟨0,rfl,Nat.zero_le _,by simp⟩ (by simp;omega) ?_
 rintro _ ⟨k,rfl,hk,hP⟩;by_cases h:k<n
 ·refine(step k h).mono ?_
  rintro x (⟨rfl,hp⟩|⟨e,rfl,he⟩)
  ·refine⟨fun s' hs=>?_,fun _ h=>by(cases h)⟩
   cases hs;refine⟨⟨k+1,by simp,by omega,fun j hj=>?_⟩,by simp;omega⟩
   rcases Nat.lt_or_ge j k with h|h
   ·exact hP j h
   ·obtain rfl:j=k:=by omega
    exact hp
  ·exact⟨fun _ h=>(by cases h),fun e' he'=>by cases he';exact he⟩
 ·obtain rfl:k=n:=by omega
  refine fin.mono ?_
  rintro x ⟨e,rfl,he⟩;exact⟨fun _ h=>(by cases h),fun e' he'=>by cases he';exact he hP⟩
structure QF (np bt:Nat) (t:ag):Prop where
 dT:0≤t.dT∧t.dT≤10
 az:0≤t.az∧t.az<np
 cw:0≤t.cw∧t.cw<np
 QcO:1≤bt∧bt≤3
 cap:t.cap.length=bt
 gE:∀i,i<t.cap.length→∀x,t.cap[i]?=some x→0≤x∧x≤1000
 aL:0≤t.aL∧t.aL≤1073741823
 Z8:0≤t.aH∧t.aH≤t.aQ
 aQ:t.aQ≤4096
 iU:1≤t.iU∧t.iU≤4096
 rest:0≤t.cK∧t.cK≤4096
 ai:0≤t.ai∧t.ai≤7
 jm:0≤t.jm∧t.jm≤100000
 eR:0≤t.eR∧t.eR≤100
 fO:0≤t.fO∧t.fO≤100
section
variable {x0 : ag} {n : ah} {l0 : List ag}
abbrev P8(x0:ag):Prop:=(0≤x0.ai∧x0.ai≤7)∧(0≤x0.jm∧x0.jm≤100000)∧(0≤x0.eR∧x0.eR≤100)∧(0≤x0.fO∧x0.fO≤100)
theorem ty8:Mb (fA x0) 1 (P8 x0):=fun l hl=>by
 unfold fA;refine lj (bh (fun h1=>lj (bh (fun h2=>lj (bh (fun h3=>lj (bh (fun h4=>N0 ?_) (fun _=>Dj hl))) (fun _=>Dj hl))) (fun _=>Dj hl))) (fun _=>Dj hl))
 exact⟨of_decide_eq_true h1,of_decide_eq_true h2,of_decide_eq_true h3,of_decide_eq_true h4⟩
abbrev P7(x0:ag):Prop:=(1≤x0.iU∧x0.iU≤4096)∧(0≤x0.cK∧x0.cK≤4096)∧P8 x0
theorem ty7:Mb (fz x0) 2 (P7 x0):=fun l hl=>by
 unfold fz;exact lj (bh (fun h1=>lj (bh (fun h2=>ty8.Gf hl fun h=>⟨of_decide_eq_true h1,of_decide_eq_true h2,h⟩) (fun _=>ty8.bad hl))) (fun _=>ty8.bad hl))
abbrev P6(x0:ag):Prop:=(0≤x0.aH∧x0.aH≤x0.aQ)∧x0.aQ≤4096∧P7 x0
theorem ty6:Mb (fy x0) 3 (P6 x0):=fun l hl=>by
 unfold fy;refine lj (bh (fun _=>ty7.bad hl) (fun h1=>ty7.Gf hl fun h=>?_))
 simp only[Ja,ntF,kO]at h1;exact⟨of_decide_eq_true h1.1,h1.2,h⟩
abbrev P5(x0:ag):Prop:=(0≤x0.aL∧x0.aL≤1073741823)∧P6 x0
theorem ty5:Mb (fx x0) 4 (P5 x0):=fun l hl=>by
 unfold fx;exact lj (bh (fun h1=>ty6.Gf hl fun h=>⟨of_decide_eq_true h1,h⟩) (fun _=>ty6.bad hl))
def rA(l:List ag):Nat:=match l with
 | []=>0
 |t ::_=>t.cap.length
theorem F1:gX l0=some (rA l0:Int):=by
 unfold gX rA;cases l0 with
 |nil=>rfl
 |cons t r =>
  rw[bm (by simp [aB];omega),show(0:Int)=((0:Nat):Int)from rfl,ba (a:=t) rfl];rfl
abbrev P4(bt:Nat)(x0:ag):Prop:=(1≤bt∧bt≤3)∧x0.cap.length=bt∧(∀i,i<x0.cap.length→∀x,x0.cap[i]?=some x→0≤x∧x≤1000)∧P5 x0
theorem Tz{c:List Int}{bt:Nat}(hc:c.length≤1048576):post (fr c bt) fun r=>r=true→(1≤bt∧bt≤3)∧c.length=bt∧∀i,i<c.length→∀x,c[i]?=some x→0≤x∧x≤1000:=by
 unfold fr;refine lj (bh (fun _=>bj.2 fun h=>by cases h) (fun h1=>?_))
 simp only[Ja,ntF,LJ,aB,decide_eq_true_iff]at h1;have h2:=of_decide_eq_true h1.1;refine bG (R:=fun e:Unit⊕Bool=>(∃u,e=.inl u∧∀i,i<c.length→∀x,c[i]?=some x→0≤x∧x≤1000)∨e=.inr false) ?_ fun e he=>?_
 ·refine Dv (B:=fun s=>b0 c s) c.length _ (fun i=>∀x,c[i]?=some x→0≤x∧x≤1000) (by omega) (fun i hi=>?_) ?_
  ·show post (b0 c (i:Int)) _;unfold b0;have e1:c[i]?=some c[i]:=List.getElem?_eq_getElem hi;rw[bu (by simp [aB];omega),ba e1,ax,inc hi hc]
   exact lj (bh (fun h=>bj.2 (.inl ⟨rfl,fun x hx=>by rw[e1]at hx;cases hx;exact of_decide_eq_true h⟩)) (fun _=>bj.2 (.inr ⟨_,rfl,.inr rfl⟩)))
  ·show post (b0 c (c.length:Int)) _;unfold b0;rw[bm (by simp [aB])]
   exact bj.2 ⟨_,rfl,fun h=>.inl ⟨_,rfl,h⟩⟩
 ·rcases he with⟨u,rfl,h⟩|rfl
  ·have hd:(1≤bt∧bt≤3)∧c.length=bt:=by omega
   rw[iB];exact bj.2 fun _=>⟨hd.1,hd.2,h⟩
  ·rw[Je];exact bj.2 fun h=>by cases h
theorem ty4(hc:x0.cap.length≤1048576):Mb (fw l0 x0) 5 (P4 (rA l0) x0):=fun l hl=>by
 unfold fw;rw[F1,ax];exact bG (Tz hc) fun r hr=>bh (fun h=>ty5.Gf hl fun h'=>⟨(hr h).1,(hr h).2.1,(hr h).2.2,h'⟩) (fun _=>ty5.bad hl)
abbrev P3(np bt:Nat)(x0:ag):Prop:=(0≤x0.az∧x0.az<np)∧(0≤x0.cw∧x0.cw<np)∧P4 bt x0
theorem ty3(hn:n.av.length≤1048576)(hc:x0.cap.length≤1048576):Mb (fv n l0 x0) 6 (P3 n.av.length (rA l0) x0):=fun l hl=>by
 unfold fv;have hs:dA .i64 (aB n.av) 1=(n.av.length:Int)-1:=by unfold aB;exact xC (by omega) (by omega)
 rw[hs];refine lj (bh (fun h1=>lj (bh (fun h2=>(ty4 hc).Gf hl fun h=>⟨?_,?_,h⟩) (fun _=>(ty4 hc).bad hl))) (fun _=>(ty4 hc).bad hl))
 ·have:=of_decide_eq_true h1;omega
 ·have:=of_decide_eq_true h2;omega
theorem ty2(hn:n.av.length≤1048576)(hc:x0.cap.length≤1048576):Mb (fu n l0 x0) 7 ((0≤x0.dT∧x0.dT≤10)∧P3 n.av.length (rA l0) x0):=fun l hl=>by
 unfold fu;exact lj (bh (fun h1=>(ty3 hn hc).Gf hl fun h=>⟨of_decide_eq_true h1,h⟩) (fun _=>(ty3 hn hc).bad hl))
theorem P2{i:Nat}{s:ByteArray}(hi:i≤l0.length)(hl:l0.length≤1048576):post (jh l0 (i:Int) s) fun _=>True:=by
 unfold jh;refine bG (R:=fun _=>True) ?_ fun e _=>by cases e <;> exact bj.2 trivial
 refine Dv (B:=fun x=>cX l0 (i:Int) s x) i _ (fun _=>True) (by omega) (fun k hk=>?_) ?_
 ·show post (cX l0 (i:Int) s (k:Int)) _;unfold cX;have e1:l0[k]?=some (l0[k]'(by omega)):=List.getElem?_eq_getElem _
  rw[bu (by simp;omega),ba e1,ax,inc (n:=i) hk (by omega)]
  exact bh (fun _=>bj.2 (.inr ⟨_,rfl,trivial⟩)) (fun _=>bj.2 (.inl ⟨rfl,trivial⟩))
 ·show post (cX l0 (i:Int) s (i:Int)) _;unfold cX;rw[bm (by simp)]
  exact bj.2 ⟨_,rfl,fun _=>trivial⟩
structure Vi (t:ag):Prop where
 name:t.name.size≤1048576
 cap:t.cap.length≤1048576
theorem M8(hn:n.av.length≤1048576)(hl:l0.length≤1048576){i:Nat}(hx:l0[i]?=some x0)(hI:Vi x0):post (gu n l0 (i:Int)) (Ext [] 9 (QF n.av.length (rA l0) x0)):=by
 unfold gu;rw[ba hx,ax];have hi:=(List.getElem?_eq_some_iff.1 hx).1;have h1:Mb (ft n l0 (i:Int) x0) 8 ((0≤x0.dT∧x0.dT≤10)∧P3 n.av.length (rA l0) x0):=fun l Il=>by
  unfold ft;exact bG (P2 (by omega) hl) fun r _=>bh (fun _=>(ty2 hn hI.cap).bad Il) (fun _=>(ty2 hn hI.cap).Gf Il id)
 refine bG (Dq _ hI.name) fun r _=>bh (fun _=>h1.Gf (by simp) fun h=>?_) (fun _=>h1.bad (l:=[]) (by simp))
 obtain⟨a,⟨b,c,d,e,f,g,⟨h,i,j,k,l,m,o,p⟩⟩⟩:=h;exact⟨a,b,c,d,e,f,g,h,i,j,k,l,m,o,p⟩
theorem Jz{r:List Int}{s:ByteArray}{i:Nat}(hi:i<1048576)(hr:r.length≤100)(out:List aa)(ho:out.length≤209715200){B:List aa×Int→Option ((List aa×Int)⊕(List aa))}
  (hB:∀l3 k,B (l3,k)=br (aS k (aB r)) (aG (a4 r k) fun x0=>aG (bV (i:Int)) fun r2=>dr (d_ (l3++[(aa.mk x0 r2)]).length 24) (some (.inl ((l3++[(aa.mk x0 r2)]),(aT .i64 k 1))))) (some (.inr l3))):
  post (aF B (out,0)) (Ext out r.length (r=[])):=by
 refine(o9 r.length 1 (fun _=>False) out (by omega) (fun k o hk ho'=>?_) (fun o=>?_)).mono fun x hx=>hx.mono (by omega) fun h=>?_
 ·have e1:r[k]?=some r[k]:=List.getElem?_eq_getElem hk;rw[hB,bu (by simp [aB];exact hk),ba e1,ax,inc hk (by omega)]
  exact bG (pd (i:Int) (Dr (by omega))) fun s hs=>b5 (ca (by simp;omega)) (Au rfl (by omega) (EA (by omega)))
 ·rw[hB,bm (by simp [aB])]
 ·cases r with
  |nil=>rfl
  |cons y ys=>exact(h 0 (by simp)).elim
theorem Ext.JZ{α:Type} [Sm α] {r:List α}{c:Nat}{P:Prop}(h:Ext [] c P r):r.length≤c:=by have:=h.len;simpa using this
theorem FT(hn:n.av.length≤1048576)(hl:l0.length≤1048576)(hI:∀t∈l0,Vi t):post (ib n l0) (Ext [] (1+9*l0.length) ((1≤l0.length∧l0.length≤6)∧∀t∈l0,QF n.av.length (rA l0) t)):=by
 have main:∀l1:List aa,l1.length≤1→post (gJ n l0 l1) (Ext l1 (9*l0.length) (∀i,i<l0.length→∀t,l0[i]?=some t→QF n.av.length (rA l0) t)):=by
  intro l1 h1;refine tQ ?_
  refine(o9 l0.length 9 _ l1 (by omega) (fun i out hi ho=>?_) (fun out=>?_)).mono fun r h=>bj.2 h
  ·show post (ed n l0 out (i:Int)) _;unfold ed;have e1:l0[i]?=some l0[i]:=List.getElem?_eq_getElem hi;rw[bu (by simp [aB];exact hi),inc hi hl]
   refine bG (M8 hn hl e1 (hI _ (List.getElem_mem hi))) fun r1 Nu=>?_
   have:=Nu.JZ;refine bG (Jz (i:=i) (s:=ByteArray.empty) (by omega) (by omega) out (by omega) (fun _ _=>rfl)) fun l4 h4=>bj.2 ⟨_,rfl,h4.mono this fun h=>?_⟩
   intro t ht;rw[e1]at ht;cases ht;exact Nu.of_nil h
  ·show ed n l0 out (l0.length:Int)=_;unfold ed;rw[bm (by simp [aB])]
 unfold ib;refine lj (bh (fun h=>(main [] (by simp)).mono fun r hr=>hr.mono (by omega) fun h'=>⟨?_,fun t ht=>?_⟩) (fun h=>b5 (ca (by simp)) ((main _ (by simp)).mono fun r hr=>(Ext.one (P:=False) (Nat.le_refl 1) (EA (s:=ByteArray.empty) (by simp [ByteArray.size_empty]))).trans hr (by omega) fun h _=>h.elim)))
 ·have:=of_decide_eq_true h;simp only[aB]at this;omega
 ·obtain⟨i,hi⟩:=List.getElem?_of_mem ht;exact h' i (List.getElem?_eq_some_iff.1 hi).1 t hi
end
def Jj(np:Nat)(s:aK):Prop:=(s.place=-1∧s.aH=0∧s.aQ=0∧s.aR=0)∨(0≤s.place∧s.place<np∧0≤s.aH∧s.aH≤s.aQ∧s.aQ≤4096∧0≤s.aR∧s.aR≤4096)
structure K9 (np bt types:Nat) (o:ab):Prop where
 load:o.load.length=bt
 Qdl:∀i,i<o.load.length→∀x,o.load[i]?=some x→0≤x∧x≤1000
 pick:Jj np o.pick
 drop:Jj np o.drop
 one:¬(o.pick.place=-1∧o.drop.place=-1)
 aL:0≤o.aL∧o.aL≤1073741823
 bg:-1≤o.bg∧o.bg≤1000000
 split:1≤o.split∧o.split≤4
 whole:1<o.split→o.pick.place=-1∨o.drop.place=-1
 last:-1≤o.a3∧o.a3<types
 now:-1≤o.now∧o.now<types
section
variable {x0 : ab} {types : Nat} {np : Nat} {bt : Nat}
abbrev Q5(types:Nat)(x0:ab):Prop:=(-1≤x0.bg∧x0.bg≤1000000)∧(1≤x0.split∧x0.split≤4)∧(1<x0.split→x0.pick.place=-1∨x0.drop.place=-1)∧(-1≤x0.a3∧x0.a3<types)∧(-1≤x0.now∧x0.now<types)
theorem or5:Mb (dE types x0) 1 (Q5 types x0):=fun l hl=>by
 unfold dE;refine BP (bh (fun h1=>BP (bh (fun _=>Dj hl) (fun h2=>N0 ?_))) (fun _=>Dj hl))
 simp only[Ja,Mc,ntF,kO,LJ,jn,JQ]at h2;have h3:=of_decide_eq_true h1;have h4:=of_decide_eq_true h2.1.1.1.1.1;obtain⟨⟨⟨⟨⟨_,h5⟩,h6⟩,h7⟩,h8⟩,h9⟩:=h2;exact⟨h3,h4,fun h=>by rcases h5 with h5|h5;omega;exact h5,⟨h6,h7⟩,⟨h8,h9⟩⟩
abbrev Q6(types:Nat)(x0:ab):Prop:=(0≤x0.aL∧x0.aL≤1073741823)∧Q5 types x0
theorem or6:Mb (cu types x0) 2 (Q6 types x0):=fun l hl=>by
 unfold cu;exact BP (bh (fun h1=>or5.Gf hl fun h=>⟨of_decide_eq_true h1,h⟩) (fun _=>or5.bad hl))
def Tj(s:aK):Prop:=(s.place=-1∧s.aH=0∧s.aQ=0∧s.aR=0)∨(0≤s.place∧0≤s.aH∧s.aH≤s.aQ∧s.aQ≤4096∧0≤s.aR∧s.aR≤4096)
theorem Pc(s:aK):post (cN s) fun r=>r=0→Tj s:=by
 unfold cN;refine bh (fun h=>bj.2 fun _=>.inl ?_) (fun _=>bh (fun _=>bj.2 fun h=>absurd h (by decide)) (fun h=>bj.2 fun _=>.inr ?_))
 ·simp only[EG,tk]at h;exact⟨h.1.1.1,h.1.1.2,h.1.2,h.2⟩
 ·simp only[Ja,jn,kO]at h;omega
abbrev Q4(types:Nat)(x0:ab):Prop:=Tj x0.pick∧Tj x0.drop∧Q6 types x0
theorem or4:Mb (di types x0) 3 (Q4 types x0):=fun l hl=>by
 unfold di;refine bG (Pc _) fun r4 h4=>bh (fun _=>or6.bad hl) (fun h=>bG (Pc _) fun r8 h8=>bh (fun _=>or6.bad hl) (fun h'=>or6.Gf hl fun h6=>⟨h4 (by simpa using h),h8 (by simpa using h'),h6⟩))
abbrev Q3(types:Nat)(x0:ab):Prop:=¬(x0.pick.place=-1∧x0.drop.place=-1)∧Q4 types x0
theorem or3:Mb (cJ types x0) 4 (Q3 types x0):=fun l hl=>by
 unfold cJ;refine bh (fun _=>or4.bad hl) (fun h=>or4.Gf hl fun h'=>⟨?_,h'⟩)
 simp only[Mc,yZ]at h;omega
abbrev Q2(np types:Nat)(x0:ab):Prop:=(-1≤x0.pick.place∧x0.pick.place<np)∧(-1≤x0.drop.place∧x0.drop.place<np)∧Q3 types x0
theorem or2(hn:np≤1048576):Mb (b7 np types x0) 5 (Q2 np types x0):=fun l hl=>by
 unfold b7;have hs:dA .i64 (np:Int) 1=(np:Int)-1:=xC (by omega) (by omega)
 rw[hs];refine BP (bh (fun h1=>BP (bh (fun h2=>or3.Gf hl fun h=>⟨?_,?_,h⟩) (fun _=>or3.bad hl))) (fun _=>or3.bad hl))
 ·have:=of_decide_eq_true h1;omega
 ·have:=of_decide_eq_true h2;omega
theorem M7{c:List Int}(hc:c.length≤1048576):post (ia c bt) fun r=>r=true→c.length=bt∧∀i,i<c.length→∀x,c[i]?=some x→0≤x∧x≤1000:=by
 unfold ia;refine bh (fun _=>bj.2 fun h=>by cases h) (fun h1=>?_)
 simp only[LJ,aB]at h1;have hd:c.length=bt:=by omega
 refine bG (R:=fun e:Unit⊕Bool=>(∃u,e=.inl u∧∀i,i<c.length→∀x,c[i]?=some x→0≤x∧x≤1000)∨e=.inr false) ?_ fun e he=>?_
 ·refine Dv (B:=fun s=>cH c s) c.length _ (fun i=>∀x,c[i]?=some x→0≤x∧x≤1000) (by omega) (fun i hi=>?_) ?_
  ·show post (cH c (i:Int)) _;unfold cH;have e1:c[i]?=some c[i]:=List.getElem?_eq_getElem hi;rw[bu (by simp [aB];omega),ba e1,ax,inc hi hc]
   refine bh (fun _=>bj.2 (.inr ⟨_,rfl,.inr rfl⟩)) (fun h2=>bh (fun _=>bj.2 (.inr ⟨_,rfl,.inr rfl⟩)) (fun h3=>bj.2 (.inl ⟨rfl,fun x hx=>?_⟩)))
   rw[e1]at hx;cases hx;simp only[jn,kO]at h2 h3;exact⟨h2,h3⟩
  ·show post (cH c (c.length:Int)) _;unfold cH;rw[bm (by simp [aB])]
   exact bj.2 ⟨_,rfl,fun h=>.inl ⟨_,rfl,h⟩⟩
 ·rcases he with⟨u,rfl,h⟩|rfl
  ·rw[iB];exact bj.2 fun _=>⟨hd,h⟩
  ·rw[Je];exact bj.2 fun h=>by cases h
structure Vg (o:ab):Prop where
 name:o.name.size≤1048576
 load:o.load.length≤1048576
theorem M9{l:List ab}(hn:np≤1048576)(hl:l.length≤1048576){i:Nat}(hx:l[i]?=some x0)(hI:Vg x0):post (ep np bt types l (i:Int)) (Ext [] 9 (K9 np bt types x0)):=by
 unfold ep;rw[ba hx,ax];have hi:=(List.getElem?_eq_some_iff.1 hx).1;have hb:Mb (fun l2=>aG (ia x0.load bt) fun r1=>br r1 (b7 np types x0 l2) (dr (d_ (l2++[17]).length 8) (b7 np types x0 (l2++[17])))) 6 ((x0.load.length=bt∧∀i,i<x0.load.length→∀x,x0.load[i]?=some x→0≤x∧x≤1000)∧Q2 np types x0):=fun l Il =>
  bG (M7 hI.load) fun r hr=>bh (fun h=>(or2 hn).Gf Il fun h'=>⟨hr h,h'⟩) (fun _=>(or2 hn).bad Il)
 have h1:Mb (dD np bt types l (i:Int) x0) 7 ((x0.load.length=bt∧∀i,i<x0.load.length→∀x,x0.load[i]?=some x→0≤x∧x≤1000)∧Q2 np types x0):=fun l1 Il=>by
  unfold dD;refine bG (R:=Ext l1 1 True) ?_ fun l2 h2=>?_
  ·refine Dv (B:=fun s=>bY np bt types l (i:Int) x0 l1 s) i _ (fun _=>True) (by omega) (fun k hk=>?_) ?_
   ·show post (bY np bt types l (i:Int) x0 l1 (k:Int)) _;unfold bY;have e1:l[k]?=some (l[k]'(by omega)):=List.getElem?_eq_getElem _
    rw[bu (by simp;omega),ba e1,ax,inc (n:=i) hk (by omega)]
    exact bh (fun _=>b5 (ca (by simp;omega)) (bj.2 (.inr ⟨_,rfl,.one (Nat.le_refl 1) trivial⟩))) (fun _=>bj.2 (.inl ⟨rfl,trivial⟩))
   ·show post (bY np bt types l (i:Int) x0 l1 (i:Int)) _;unfold bY;rw[bm (by simp)]
    exact bj.2 ⟨_,rfl,fun _=>.nil trivial⟩
  ·have:=h2.len;exact(hb l2 (by omega)).mono fun r hr=>h2.trans hr (by omega) fun _ h=>h
 refine bG (Dq _ hI.name) fun r _=>bh (fun _=>(h1.Gf (l:=[]) (by simp) fun h=>?_:post _ (Ext [] 8 (K9 np bt types x0))).mono fun r hr=>hr.mono (by omega) id) (fun _=>(h1.bad (l:=[]) (by simp):post _ (Ext [] 8 (K9 np bt types x0))).mono fun r hr=>hr.mono (by omega) id)
 obtain⟨⟨a,b⟩,⟨c0,c⟩,⟨d0,d⟩,e,f,g,h,⟨i,j,k,m,o⟩⟩:=h;refine⟨a,b,?_,?_,e,h,i,j,k,m,o⟩
 ·rcases f with f|f
  ·exact .inl f
  ·exact .inr ⟨f.1,c,f.2⟩
 ·rcases g with g|g
  ·exact .inl g
  ·exact .inr ⟨g.1,d,g.2⟩
theorem FU{n:ah}{l:List ab}(hn:n.av.length≤1048576)(hl:l.length≤1048576)(hI:∀t∈l,Vg t):post (dP n bt types l) (Ext [] (1+9*l.length) (l.length≤10∧∀t∈l,K9 n.av.length bt types t)):=by
 have main:∀l1:List aa,l1.length≤1→post (ee n bt types l l1) (Ext l1 (9*l.length) (∀i,i<l.length→∀t,l[i]?=some t→K9 n.av.length bt types t)):=by
  intro l1 h1;refine tQ ?_
  refine(o9 l.length 9 _ l1 (by omega) (fun i out hi ho=>?_) (fun out=>?_)).mono fun r h=>bj.2 h
  ·show post (cZ n bt types l out (i:Int)) _;unfold cZ;have e1:l[i]?=some l[i]:=List.getElem?_eq_getElem hi;rw[bu (by simp [aB];exact hi),inc hi hl]
   refine bG (M9 hn hl e1 (hI _ (List.getElem_mem hi))) fun r1 Nu=>?_
   have:=Nu.JZ;refine bG (Jz (i:=i) (s:=ByteArray.empty) (by omega) (by omega) out (by omega) (fun _ _=>rfl)) fun l4 h4=>bj.2 ⟨_,rfl,h4.mono this fun h=>?_⟩
   intro t ht;rw[e1]at ht;cases ht;exact Nu.of_nil h
  ·show cZ n bt types l out (l.length:Int)=_;unfold cZ;rw[bm (by simp [aB])]
 unfold dP;refine bh (fun h=>b5 (ca (by simp)) ((main _ (by simp)).mono fun r hr=>(Ext.one (P:=False) (Nat.le_refl 1) (EA (s:=ByteArray.empty) (by simp [ByteArray.size_empty]))).trans hr (by omega) fun h _=>h.elim)) (fun h=>(main [] (by simp)).mono fun r hr=>hr.mono (by omega) fun h'=>⟨?_,fun t ht=>?_⟩)
 ·simp only[kO,aB]at h;omega
 ·obtain⟨i,hi⟩:=List.getElem?_of_mem ht;exact h' i (List.getElem?_eq_some_iff.1 hi).1 t hi
end
def Hd(aj:Nat)(p:aA):Prop:=0≤p.x0∧p.x0<aj∧0≤p.x1∧p.x1<aj∧p.x0≠p.x1
theorem BX{i:Nat}(hi:i<1048576):post (ji (i:Int)) fun s=>s.size≤21:=by
 unfold ji;refine bG (R:=fun e=>e.2.size≤20) ?_ fun e he=>b5 (by rw[qP];simp;omega) (bj.2 (by rw[hY,qP];simp;omega))
 refine gT (fun s=>∃m k:Nat,s.1=(m:Int)∧m<1048576∧m<10 ^ k∧s.2.size+k≤20) (fun s=>s.1.toNat) ⟨i,7,rfl,hi,by omega,by simp [ByteArray.size_empty]⟩ (by simp;omega) ?_
 rintro⟨_,s⟩ ⟨m,k,rfl,h0,h1,h2⟩;simp only at h2;show post (i_ (m:Int) s) _;unfold i_;refine bh (fun hb=>b5 (by rw[qP];simp;omega) (ki ?_)) (fun _=>fG (show s.size≤20 by omega))
 simp only[tl]at hb;have hq:vX .i64 (m:Int) 10=((m / 10:Nat):Int):=by rw[Xo (by omega),Int.tdiv_eq_ediv_of_nonneg (by omega)];omega
 obtain⟨k,rfl⟩:∃j,k=j+1:=⟨k-1,by
  rcases Nat.eq_zero_or_pos k with rfl|h
  ·simp at h1;omega
  ·omega⟩
 rw[hq];refine⟨⟨m / 10,k,rfl,by omega,by rw[Nat.pow_succ]at h1;omega,?_⟩,by simp;omega⟩
 rw[hY,qP];simp;omega
theorem Ij{aj:Nat}{l:List aA}{word:ByteArray}{cp:Bool}(hl:l.length≤1048576)(hw:word.size≤20):post (gN aj l word cp) (Ext [] (1+l.length) (l.length≤16∧∀p∈l,Hd aj p)):=by
 have main:∀l1:List aa,l1.length≤1→post (fU aj l word cp l1) (Ext l1 l.length (∀i,i<l.length→∀p,l[i]?=some p→Hd aj p)):=by
  intro l1 h1;refine tQ ?_
  refine(o9 l.length 1 _ l1 (by omega) (fun i out hi ho=>?_) (fun out=>?_)).mono fun r h=>bj.2 (h.mono (by omega) id)
  ·show post (c8 aj l word cp out (i:Int)) _;unfold c8;have e1:l[i]?=some l[i]:=List.getElem?_eq_getElem hi;rw[bu (by simp [aB];exact hi),inc hi hl,ba e1,ax]
   have KG:bn.size=1:=rfl;refine b5 (by omega) (bG (BX (by omega)) fun r hr=>b5 (by rw[hY];omega) ?_)
   have Si:∀{e:Int},Sm.sm (aa.mk e (bH (bH word bn) r)):=EA (by rw[hY,hY];omega)
   generalize l[i]=p at e1;refine bh (fun _=>b5 (ca (by simp;omega)) (Au rfl (Nat.le_refl 1) Si)) (fun h=>?_)
   refine bG (R:=fun _=>True) ?_ fun tw _=>bh (fun _=>b5 (ca (by simp;omega)) (Au rfl (Nat.le_refl 1) Si)) (fun _=>Jc rfl ?_)
   ·refine gT (fun s=>∃k:Nat,s.2=(k:Int)∧k≤i) (fun s=>i-s.2.toNat) ⟨0,rfl,Nat.zero_le _⟩ (by simp;omega) ?_
    rintro⟨b,_⟩ ⟨k,rfl,hk⟩;show post (du aj l word cp out (i:Int) p r b (k:Int)) _;unfold du;refine bh (fun hb=>?_) (fun _=>fG trivial)
    simp only[ik]at hb;have zz:k<i:=by omega
    rw[inc (n:=i) zz (by omega)]
    have leaf:∀b:Bool,post (some (Sum.inl (b,(k:Int)+1):(Bool×Int)⊕Bool)) fun x=>(∀s',x=.inl s'→(∃k:Nat,s'.2=(k:Int)∧k≤i)∧i-s'.2.toNat<i-((b,(k:Int)):Bool×Int).2.toNat)∧∀e,x=.inr e→True:=
     fun b=>ki ⟨⟨k+1,by simp,by omega⟩,by simp;omega⟩
    refine bh (fun _=>leaf _) (fun _=>?_)
    have e2:l[k]?=some (l[k]'(by omega)):=List.getElem?_eq_getElem _
    rw[ba e2,ax];exact bh (fun _=>bh (fun _=>leaf _) (fun _=>bh (fun _=>bh (fun _=>leaf _) (fun _=>leaf _)) (fun _=>leaf _))) (fun _=>bh (fun _=>bh (fun _=>leaf _) (fun _=>leaf _)) (fun _=>leaf _))
   ·intro q hq;rw[e1]at hq;cases hq;simp only[Ja,jn,JQ,yZ]at h;exact⟨h.1.1.1.1,h.1.1.1.2,h.1.1.2,h.1.2,h.2⟩
  ·show c8 aj l word cp out (l.length:Int)=_;unfold c8;rw[bm (by simp [aB])]
 unfold gN;refine bh (fun h=>b5 (ca (by simp)) ((main _ (by simp)).mono fun r hr=>(Ext.one (P:=False) (Nat.le_refl 1) (EA (by omega))).trans hr (by omega) fun h _=>h.elim)) (fun h=>(main [] (by simp)).mono fun r hr=>hr.mono (by omega) fun h'=>⟨?_,fun t ht=>?_⟩)
 ·simp only[kO,aB]at h;omega
 ·obtain⟨i,hi⟩:=List.getElem?_of_mem ht;exact h' i (List.getElem?_eq_some_iff.1 hi).1 t hi
theorem nK{word:ByteArray}{r:List aa}(hw:word.size≤20)(hr:r.length≤5000000000000)(hs:∀f∈r,Sm.sm f):post (gv word r) fun x=>x.length=r.length:=by
 refine tQ ?_
 refine gT (fun s=>∃k:Nat,s.2=(k:Int)∧k≤r.length∧s.1.length=k) (fun s=>r.length-s.2.toNat) ⟨0,rfl,Nat.zero_le _,rfl⟩ (by simp;omega) ?_
 rintro⟨out,_⟩ ⟨k,rfl,hk,hl⟩;show post (kf word r out (k:Int)) _;unfold kf ke;refine bh (fun hb=>?_) (fun hb=>fG (bj.2 ?_))
 ·simp only[ik,aB]at hb;simp only at hl;have zz:k<r.length:=by omega
  have e1:r[k]?=some r[k]:=List.getElem?_eq_getElem zz;have hsk:(r[k]).ct.size≤64:=hs _ (List.getElem_mem zz);have nP:aT .i64 (k:Int) 1=(k:Int)+1:=kR (by omega) (by omega)
  have KG:bn.size=1:=rfl;rw[ba e1,ax,ax,nP];have leaf:∀f:aa,post (dr (d_ (out++[f]).length 24) (some (Sum.inl (out++[f],(k:Int)+1):(List aa×Int)⊕(List aa)))) fun x=>(∀s',x=.inl s'→(∃k:Nat,s'.2=(k:Int)∧k≤r.length∧s'.1.length=k)∧r.length-s'.2.toNat<r.length-((out,(k:Int)):List aa×Int).2.toNat)∧∀e,x=.inr e→post (some e) fun x=>x.length=r.length:=
   fun f=>b5 (ca (by simp;omega)) (ki ⟨⟨k+1,by simp,by omega,by simp;omega⟩,by simp;omega⟩)
  exact bh (fun _=>leaf _) (fun _=>b5 (by omega) (b5 (by rw[hY];omega) (leaf _)))
 ·simp only[jn,aB]at hb;simp only at hl;omega
structure wk (x:ae):Prop where
 b8:DB x.b8
 types:x.types.length≤1048576
 aj:x.aj.length≤1048576
 cb:x.cb.length≤1048576
 before:x.before.length≤1048576
 SV:∀t∈x.types,Vi t
 SA:∀t∈x.aj,Vg t
structure gU (x:ae):Prop where
 b8:td x.b8
 QcI:1≤x.types.length
 types:x.types.length≤6
 Xt:∀t∈x.types,QF x.b8.av.length (rA x.types) t
 aj:x.aj.length≤10
 ord:∀o∈x.aj,K9 x.b8.av.length (rA x.types) x.types.length o
 cb:x.cb.length≤16
 Qa5:∀p∈x.cb,Hd x.aj.length p
 before:x.before.length≤16
 QaB:∀p∈x.before,Hd x.aj.length p
theorem FV{x:ae}(hI:wk x):post (cO x) fun r=>r=[]→gU x:=by
 have h1:=hI.types;have h2:=hI.aj;have h3:=hI.cb;have h4:=hI.before;have h5:=hI.b8.aI;unfold cO;refine bG (tS (n:=x.b8) hI.b8) fun r hr=>?_
 have l1:=hr.JZ;refine bG (nK (show 3≤20 by omega) (by omega) hr.Wm:post (eB lC r) _) fun r1 Nu=>?_
 refine bG (FT (n:=x.b8) hI.b8.av h1 hI.SV) fun r2 VR=>?_
 have l2:=VR.JZ;refine bG (nK (show 5≤20 by omega) (by omega) VR.Wm) fun r3 hr3=>b5 (ca (by simp;omega)) ?_
 rw[F1,ax];refine bG (FU (n:=x.b8) (types:=x.types.length) hI.b8.av h2 hI.SA) fun r5 hr5=>?_
 have l5:=hr5.JZ;refine bG (nK (show 6≤20 by omega) (by omega) hr5.Wm) fun r6 hr6=>b5 (ca (by simp;omega)) ?_
 have hC:post (ic (aB x.aj) x.cb x.before) fun r=>r.length≤2+x.cb.length+x.before.length∧(∀f∈r,Sm.sm f)∧(r=[]→(x.cb.length≤16∧∀p∈x.cb,Hd x.aj.length p)∧(x.before.length≤16∧∀p∈x.before,Hd x.aj.length p)):=by
  unfold ic;refine bG (Ij (aj:=x.aj.length) (word:=Ay) (cp:=true) h3 (show 5≤20 by omega)) fun a ha=>bG (Ij (aj:=x.aj.length) (word:=yK) (cp:=false) h4 (show 6≤20 by omega)) fun b hb=>?_
  have la:=ha.JZ;have lb:=hb.JZ;refine b5 (ca (by simp;omega)) (bj.2 ⟨by simp;omega,fun f hf=>?_,fun h=>?_⟩)
  ·rcases List.mem_append.1 hf with h|h
   ·exact ha.Wm f h
   ·exact hb.Wm f h
  ·rw[List.append_eq_nil_iff]at h;exact⟨ha.of_nil h.1,hb.of_nil h.2⟩
 refine bG hC fun r7 ⟨l7,s7,c7⟩=>bG (nK (show 5≤20 by omega) (by omega) s7) fun r8 hr8=>b5 (ca (by simp;omega)) (bj.2 fun h=>?_)
 simp only[List.append_eq_nil_iff]at h;obtain⟨⟨⟨e1,e3⟩,e6⟩,e8⟩:=h;have nil:∀{a b:List aa},a.length=b.length→a=[]→b=[]:=fun h h'=>List.length_eq_zero_iff.1 (by rw[←h,h'];rfl)
 obtain⟨⟨t1,t2⟩,t3⟩:=VR.of_nil (nil hr3 e3);obtain⟨o1,o2⟩:=hr5.of_nil (nil hr6 e6);obtain⟨⟨a1,a2⟩,⟨b1,b2⟩⟩:=c7 (nil hr8 e8);exact⟨hr.of_nil (nil Nu e1),t1,t2,t3,o1,o2,a1,a2,b1,b2⟩
end Go.Proofs.YtbilkblifgaflaaGreatDoor
