/- Part MP. -/
import Derived.Test.YtbilkblifgaflaaGreatDoorMT
import Derived.KernelRfl
set_option linter.unusedSimpArgs false
set_option linter.unusedVariables false
set_option linter.unusedSectionVars false
namespace Go.Proofs.YtbilkblifgaflaaGreatDoor
section
variable {α : Type}
theorem Zk{B:List α × Int→Option ((List α × Int) ⊕(List α))}(n c:Nat)(P:Nat→Prop)(init:List α)(hn:n < 18446744073709551615)
    (step: ∀(i:Nat) (out:List α),i < n→out.length≤init.length + c * i→post (B (out,(i:Int))) fun x => ∃new,x = .inl (out ++ new,(i:Int) + 1)∧new.length≤c∧(new = []↔P i))
    (fin: ∀out,B (out,(n:Int)) = some (.inr out)):post (aK B (init,0)) fun r => r.length≤init.length + c * n∧(r = []↔init = []∧∀i,i < n→P i):= by
  refine fj (fun s => ∃i:Nat,s.2 =(i:Int)∧i≤n∧s.1.length≤init.length + c * i∧(s.1 = []↔init = []∧∀k,k < i→P k)) (fun s => n - s.2.toNat)
    ⟨0,rfl,Nat.zero_le _,by simp,by simp⟩ (by simp;omega) ?_
  rintro⟨out,j⟩ ⟨i,hj,hi,hl,he⟩;simp only at hj hl he;subst hj;by_cases h:i < n
  · refine(step i out h hl).mono ?_
    rintro x ⟨new,rfl,h1,h2⟩;refine⟨fun s' hs => ?_,fun _ h => by cases h⟩
    cases hs;refine⟨⟨i + 1,by simp,by omega,by simp [Nat.mul_add];omega, ?_⟩,by simp;omega⟩
    simp only[List.append_eq_nil_iff,he,h2];constructor
    · rintro⟨⟨h3,h4⟩,h5⟩
      exact ⟨h3, fun k hk => by rcases Nat.lt_or_ge k i with h | h; exact h4 k h; obtain rfl : k = i := by omega
                                exact h5⟩
    · rintro⟨h3,h4⟩;exact⟨⟨h3,fun k hk => h4 k (by omega)⟩,h4 i (by omega)⟩
  · obtain rfl:i = n:= by omega
    rw[fin];exact ef ⟨hl,he⟩
end
theorem cW{n b:Nat}(h:n*b≤140737488355328):e_ n b:=h
theorem XX{a b:Bool}:(a||b)=true↔a=true∨b=true:=Bool.or_eq_true_iff ..
theorem Ql{a b:Bool}:(a||b)=false↔a=false∧b=false:=Bool.or_eq_false_iff
theorem BK{a b:Bool}:(a&&b)=true↔a=true∧b=true:=Bool.and_eq_true_iff
theorem T9{a b:Bool}:(a&&b)=false↔a=false∨b=false:=Bool.and_eq_false_iff
theorem ntT{a:Bool}:(!a)=true↔a=false:=by cases a <;> simp
theorem ntF{a:Bool}:(!a)=false↔a=true:=by cases a <;> simp
theorem w8(l:List Int):(zo l).size=l.length:=by simp [zo,ByteArray.size]
theorem ZP(a:Int):(a.tdiv 10).natAbs=a.natAbs / 10:=by rw[Int.natAbs_tdiv];rfl
theorem QkC{a:Int}(h:a.natAbs≤9223372036854775808):uw .i64 a 10=a.tdiv 10:=by
 have:=ZP a;exact Qg3 (by omega) (by omega)
def wh(n:Int):Prop:=-9223372036854775808≤n∧n≤9223372036854775807
theorem U1{n left d:Int}{s:ByteArray}{k:Nat}(hl:left.natAbs≤9223372036854775808)(h1:left.natAbs<10 ^ k)(h2:s.size+k≤20)(hk:1≤k):
  post (kB n s left d) fun x=>(∀s',x=.inl s'→(∃k:Nat,s'.2.1.natAbs≤9223372036854775808∧s'.2.1.natAbs<10 ^ k∧s'.1.size+k≤20∧(s'.2.2=true→1≤k∧s'.2.1≠0))∧s'.2.1.natAbs+(if s'.2.2 then 1 else 0)<left.natAbs+1)∧∀e,x=.inr e→e.size≤20:=by
 unfold kB;have hq:=QkC hl;have ha:=ZP left;refine dd (by rw[w8];simp;omega) (fO ?_)
 simp only[hq];obtain⟨k,rfl⟩:∃j,k=j+1:=⟨k-1,by omega⟩
 have hs:(cM (zo [zV IntKind.u8 (aY IntKind.i64 48 d)]) s).size=1+s.size:=by unfold cM;rw[ByteArray.size_append,w8];rfl
 refine⟨⟨k,by omega,by rw[ha];rw[Nat.pow_succ]at h1;omega,by rw[hs];omega,fun h=>?_⟩,?_⟩
 ·simp only[wk]at h;refine⟨?_,h⟩;rcases Nat.eq_zero_or_pos k with rfl|h'
  ·exfalso;apply h;have:(left.tdiv 10).natAbs=0:=by rw[ha];simp at h1;omega
   omega
  ·exact h'
 ·cases hb:cA (left.tdiv 10) 0 with
  |true =>
   simp only[wk]at hb;simp only[if_true];have:(left.tdiv 10).natAbs≠0:=by omega
   omega
  |false=>simp only[Bool.false_eq_true,if_false];omega
theorem u7(n:Int)(hn:wh n):post (dh n) fun s=>s.size≤21:=by
 unfold wh at hn;refine b_ (R:=fun s=>s.size≤20) ?_ fun s hs=>?_
 ·refine fj (fun s=>∃k:Nat,s.2.1.natAbs≤9223372036854775808∧s.2.1.natAbs<10 ^ k∧s.1.size+k≤20∧(s.2.2=true→1≤k∧(s.2.1=0→True))) (fun s=>s.2.1.natAbs+(if s.2.2 then 1 else 0)) ⟨19,by simp only;omega,by simp only;omega,by simp [ByteArray.size_empty],by simp⟩ (by simp only;split <;> omega) ?_
  rintro⟨s,left,again⟩ ⟨k,h0,h1,h2,h3⟩;simp only at h0 h1 h2 h3;cases again with
  |false=>exact ef (show s.size≤20 by omega)
  |true =>
   refine post.mono (Q:=fun x=>(∀s',x=.inl s'→(∃k:Nat,s'.2.1.natAbs≤9223372036854775808∧s'.2.1.natAbs<10 ^ k∧s'.1.size+k≤20∧(s'.2.2=true→1≤k∧s'.2.1≠0))∧s'.2.1.natAbs+(if s'.2.2 then 1 else 0)<left.natAbs+1)∧∀e,x=.inr e→e.size≤20) ?_ ?_
   ·show post (br true (br (aT (C6 left 10) 0) _ _) _) _;rw[dc];exact bA (fun _=>U1 h0 h1 h2 (h3 rfl).1) (fun _=>U1 h0 h1 h2 (h3 rfl).1)
   ·rintro x ⟨g1,g2⟩;refine⟨fun s' hs=>?_,g2⟩
    obtain⟨⟨k',q1,q2,q3,q4⟩,q5⟩:=g1 s' hs;exact⟨⟨k',q1,q2,q3,fun h=>⟨(q4 h).1,fun _=>trivial⟩⟩,q5⟩
 ·refine bA (fun _=>dd ?_ (bg.2 ?_)) (fun _=>bg.2 (by omega))
  ·show 1+s.size≤_;omega
  ·unfold cM;rw[ByteArray.size_append];show 1+s.size≤_;omega
theorem K0{k:Nat}(h:k<4294967296):wh (k:Int):=by unfold wh;omega
abbrev Pt:=aB
def okA(p:Pt):Prop:=0≤p.t∧p.t≤4096∧p.t≤p.a∧p.a≤p.t+4096
def okP(l:List Pt)(i:Nat):Prop:=∀p,l[i]?=some p→okA p∧(0<i→∀q,l[i-1]?=some q→q.t<p.t∧q.a≤p.a)
structure uz (l:List Pt):Prop where
 pos:1≤l.length
 C5:l.length≤16
 all:∀i,i<l.length→okP l i
def ptI(p:Pt):Prop:=wh p.t∧wh p.a
theorem Zq{l:List Pt}{i:Nat}{x0:Pt}{out new:List aa}(hx:l[i]?=some x0)(hi:i<2000000)(hlen:l.length<2000000)(ho:out.length≤1+2*i)(hn:new.length≤1)(hw:new=[]↔okA x0):
  post (iB l (i:Int) x0 (out++new)) fun x=>∃new,x=.inl (out++new,(i:Int)+1)∧new.length≤2∧(new=[]↔okP l i):=by
 have qf:aY .i64 (i:Int) 1=(i:Int)+1:=ig (by omega) (by omega)
 unfold iB;have Qqe:∀f:aa,e_ (out++new++[f]).length 24:=fun f=>cW (by simp;omega)
 have Qkp:(0<i→∀q,l[i-1]?=some q→q.t<x0.t∧q.a≤x0.a)→post (some (Sum.inl (out++new,aY .i64 (i:Int) 1):(List aa×Int)⊕List aa)) fun x=>∃new,x=.inl (out++new,(i:Int)+1)∧new.length≤2∧(new=[]↔okP l i):=by
  intro hq;rw[qf];refine⟨_,rfl,new,rfl,by omega,?_⟩
  rw[hw];exact⟨fun h p hp=>by rw[hx]at hp;cases hp;exact⟨h,hq⟩,fun h=>(h x0 hx).1⟩
 have Qko:∀r:ByteArray,(∃q,0<i∧l[i-1]?=some q∧¬(q.t<x0.t∧q.a≤x0.a))→post (eH (e_ (out++new++[aa.mk 13 r]).length 24) (some (Sum.inl (out++new++[aa.mk 13 r],aY .i64 (i:Int) 1):(List aa×Int)⊕List aa))) fun x=>∃new,x=.inl (out++new,(i:Int)+1)∧new.length≤2∧(new=[]↔okP l i):=by
  rintro r ⟨q,h0,h1,h2⟩;refine dd (Qqe _) ?_
  rw[qf];refine⟨_,rfl,new++[_],by rw[List.append_assoc],by simp;omega,?_⟩
  constructor
  ·intro h;simp at h
  ·intro h;exact absurd ((h x0 hx).2 h0 q h1) h2
 refine bA (fun h=>?_) (fun h=>Qkp fun h0=>by simp at h;omega)
 simp only[qi]at h;have h1:dZ .i64 (i:Int) 1=((i-1:Nat):Int):=by rw[v9 (by omega) (by omega)];omega
 have hx1:l[i-1]?=some (l[i-1]'(by have:=(List.getElem?_eq_some_iff.1 hx).1;omega)):=List.getElem?_eq_getElem _
 rw[h1,bt hx1,ai];have hd:=u7 (i:Int) (K0 (by omega))
 refine bA (fun h2=>b_ hd fun r _=>Qko r ⟨_,by omega,hx1,fun hh=>?_⟩) (fun h2=>bA (fun h3=>b_ hd fun r _=>Qko r ⟨_,by omega,hx1,fun hh=>?_⟩) (fun h3=>Qkp fun _ q hq=>?_))
 ·simp only[ui]at h2;omega
 ·simp only[fS]at h3;omega
 ·rw[hx1]at hq;cases hq;simp only[Q8]at h2;simp only[jG]at h3;omega
theorem Qku{x0:Pt}(hI:ptI x0):((((aT x0.t 0)||(cQ x0.t 4096))||(aT x0.a x0.t))||(cQ x0.a (aY .i64 x0.t 4096)))=false↔okA x0:=by
 obtain⟨h1,h2⟩:=hI;unfold wh at h1 h2;simp only[Ql,jG,nq];unfold okA;constructor
 ·rintro⟨⟨⟨a,b⟩,c⟩,d⟩;rw[ig (by omega) (by omega)]at d
  omega
 ·rintro⟨a,b,c,d⟩;rw[ig (by omega) (by omega)]
  omega
theorem zD{l:List Pt}(hlen:l.length≤1048576)(hI:∀p∈l,ptI p):post (fI l) fun r=>r.length≤1+2*l.length∧(r=[]↔uz l):=by
 have main:∀init:List aa,init.length≤1→post (jX l init) fun r=>r.length≤init.length+2*l.length∧(r=[]↔init=[]∧∀i,i<l.length→okP l i):=by
  intro init ry;refine b_ ?_ fun a h=>bg.2 h
  refine Zk l.length 2 (okP l) init (by omega) (fun i out hi ho=>?_) (fun out=>?_)
  ·have hx:=QaD hi;have CJ:l[i]?=some l[i]:=List.getElem?_eq_getElem hi;show post (gD l out (i:Int)) _;unfold gD;rw[bl (by simp [aC];exact hi),hx,ai]
   have hp:=hI l[i] (List.getElem_mem hi);refine bA (fun h=>b_ (u7 (i:Int) (K0 (by omega))) fun r _=>dd (cW (by simp;omega)) (Zq (new:=[_]) CJ (by omega) (by omega) (by omega) (by simp) (Iff.intro (fun h=>by cases h) (fun h'=>?_)))) (fun h=>?_)
   ·rw[(Qku hp).2 h']at h;cases h
   ·have:=Zq (out:=out) (new:=[]) CJ (by omega) (by omega) (by omega) (by simp) ⟨fun _=>(Qku hp).1 h,fun _=>rfl⟩
    rwa [List.append_nil]at this
  ·unfold gD;rw[a_ (by simp [aC])]
 unfold fI;refine bA (fun h=>dd (cW (by simp)) ((main _ (by simp)).mono ?_)) (fun h=>(main _ (by simp)).mono ?_)
 ·rintro r ⟨h1,h2⟩;refine⟨by simpa using h1,?_⟩
  rw[h2];simp only[XX,fS,qi,aC]at h;exact⟨fun h=>by(cases h.1),fun h'=>by have:=h'.pos;have:=h'.C5;omega⟩
 ·rintro r ⟨h1,h2⟩;refine⟨by simp at h1 ⊢;omega,?_⟩
  rw[h2];simp only[Ql,jG,nq,aC]at h;exact⟨fun h'=>⟨by omega,by omega,h'.2⟩,fun h'=>⟨rfl,h'.all⟩⟩
def seg(p q:Pt)(t:Int):Int:=p.a+((t-p.t)*(q.a-p.a)+(q.t-p.t)-1) / (q.t-p.t)
def zl:List Pt→Int→Int
 | [],_=>0
 | [p],t=>t+p.a-p.t
 |p ::q ::r,t=>if t<q.t then(if t<p.t then t+p.a-p.t else seg p q t)else zl (q ::r) t
def XK:List Pt→Prop
 | []=>True
 | [p]=>okA p
 |p ::q ::r=>okA p∧p.t<q.t∧p.a≤q.a∧XK (q ::r)
theorem Qhj:∀{l:List Pt},(∀i,i<l.length→okP l i)→XK l
 | [],_=>trivial
 | [p],h=>(h 0 (by simp) p rfl).1
 |p ::q ::r,h=>by
  have h0:=h 0 (by simp) p rfl
  have h1:=(h 1 (by simp) q rfl).2 (by omega) p rfl
  refine⟨h0.1,h1.1,h1.2,Qhj fun i hi x hx=>?_⟩
  have h2:=h (i+1) (by simpa using hi) x hx
  refine⟨h2.1,fun h3 y hy=>h2.2 (by omega) y ?_⟩
  obtain⟨j,rfl⟩:∃j,i=j+1:=⟨i-1,by omega⟩
  exact hy
theorem uz.T8{l:List Pt}(h:uz l):XK l:=Qhj h.all
theorem XK.W5:∀{l:List Pt},XK l→∀{i:Nat} {p:Pt},l[i]?=some p→okA p
 | [],_,_,_,h=>by simp at h
 | [p],h,0,x,hx=>by cases hx;exact h
 | [p],h,i+1,x,hx=>by simp at hx
 |p ::q ::r,h,0,x,hx=>by cases hx;exact h.1
 |p ::q ::r,h,i+1,x,hx=>XK.W5 (l:=q ::r) h.2.2.2 hx
theorem XK.pair:∀{l:List Pt},XK l→∀{i:Nat} {p q:Pt},l[i]?=some p→l[i+1]?=some q→p.t<q.t∧p.a≤q.a
 | [],_,_,_,_,h,_=>by simp at h
 | [p],h,i,x,y,_,hy=>by simp at hy
 |p ::q ::r,h,0,x,y,hx,hy=>by cases hx;cases hy;exact⟨h.2.1,h.2.2.1⟩
 |p ::q ::r,h,i+1,x,y,hx,hy=>XK.pair (l:=q ::r) h.2.2.2 hx hy
theorem XK.lt{l:List Pt}(h:XK l){i:Nat}:∀{j:Nat},i<j→∀{p q:Pt},l[i]?=some p→l[j]?=some q→p.t<q.t
 |j+1,T5,p,q,hp,hq=>by
  rcases Nat.lt_or_ge i j with h'|h'
  ·have hj:l[j]?=some (l[j]'(by have:=(List.getElem?_eq_some_iff.1 hq).1;omega)):=List.getElem?_eq_getElem _
   have:=h.lt h' hp hj;have:=(h.pair hj hq).1;omega
  ·obtain rfl:i=j:=by omega
   exact(h.pair hp hq).1
theorem TE{p q:Pt}(h:p.t<q.t):seg p q p.t=p.a:=by
 unfold seg;rw[Int.sub_self,Int.zero_mul,Int.ediv_eq_zero_of_lt (by omega) (by omega)];omega
theorem QA{p q:Pt}(h:p.t<q.t):seg p q q.t=q.a:=by
 unfold seg;rw[show(q.t-p.t)*(q.a-p.a)+(q.t-p.t)-1=(q.t-p.t-1)+(q.t-p.t)*(q.a-p.a) by omega,Int.add_mul_ediv_left _ _ (by omega),Int.ediv_eq_zero_of_lt (by omega) (by omega)];omega
theorem PC{p:Pt}{r:List Pt}(h:XK (p ::r)):zl (p ::r) p.t=p.a:=by
 cases r with
 |nil=>simp only[zl];omega
 |cons q r=>simp only[zl];rw[if_pos h.2.1,if_neg (by omega),TE h.2.1]
theorem Ya{p:Pt}{r:List Pt}(h:XK (p ::r)){t:Int}(ht:t≤p.t):zl (p ::r) t=t+p.a-p.t:=by
 by_cases he:t=p.t
 ·subst he;rw[PC h];omega
 ·cases r with
  |nil=>rfl
  |cons q r=>simp only[zl];have:=h.2.1;rw[if_pos (by omega),if_pos (by omega)]
theorem KL:∀{l:List Pt},XK l→∀{p:Pt},l[l.length-1]?=some p→∀{t:Int},p.t≤t→zl l t=t+p.a-p.t
 | [],_,_,hp,_,_=>by simp at hp
 | [x],_,p,hp,t,_=>by cases hp;rfl
 |x ::y ::r,h,p,hp,t,ht=>by
  have hp':(y ::r)[(y ::r).length-1]?=some p:=by simpa using hp
  have:y.t≤t:=by
   rcases Nat.eq_zero_or_pos r.length with h0|h0
   ·have:r=[]:=List.length_eq_zero_iff.1 h0;subst this;cases hp';exact ht
   ·have:=h.2.2.2.lt (i:=0) (j:=(y ::r).length-1) (by simp;omega) rfl hp'
    omega
  simp only[zl];rw[if_neg (by omega)]
  exact KL h.2.2.2 hp' ht
theorem NH:∀{l:List Pt},XK l→∀{j:Nat} {p q:Pt},l[j]?=some p→l[j+1]?=some q→∀{t:Int},p.t≤t→t≤q.t→zl l t=seg p q t
 | [],_,_,_,_,hp,_,_,_,_=>by simp at hp
 | [x],_,_,_,_,_,hq,_,_,_=>by simp at hq
 |x ::y ::r,h,0,p,q,hp,hq,t,h1,h2=>by
  cases hp;cases hq;simp only[zl];by_cases he:t<y.t
  ·rw[if_pos he,if_neg (by omega)]
  ·obtain rfl:t=y.t:=by omega
   rw[if_neg he,PC h.2.2.2,QA h.2.1]
 |x ::y ::r,h,j+1,p,q,hp,hq,t,h1,h2=>by
  have:y.t≤p.t:=by
   rcases Nat.eq_zero_or_pos j with rfl|h0
   ·cases hp;omega
   ·have:=h.2.2.2.lt (i:=0) (j:=j) h0 rfl hp;omega
  simp only[zl];rw[if_neg (by omega)]
  exact NH (l:=y ::r) h.2.2.2 hp hq h1 h2
theorem Pd{p q:Pt}(h1:p.t<q.t)(h2:p.a≤q.a){t t':Int}(h:t≤t'):seg p q t≤seg p q t':=by
 unfold seg;have:=Int.mul_le_mul_of_nonneg_right (show t-p.t≤t'-p.t by omega) (show 0≤q.a-p.a by omega)
 have:=Int.ediv_le_ediv (show 0<q.t-p.t by omega) (show(t-p.t)*(q.a-p.a)+(q.t-p.t)-1≤(t'-p.t)*(q.a-p.a)+(q.t-p.t)-1 by omega)
 omega
theorem UN:∀{l:List Pt},XK l→∀{t t':Int},t≤t'→zl l t≤zl l t'
 | [],_,_,_,_=>Int.le_refl _
 | [p],_,t,t',h=>by simp only[zl];omega
 |p ::q ::r,h,t,t',ht=>by
  have ih:=fun{a b:Int} (hab:a≤b)=>UN h.2.2.2 hab
  have hq:=PC h.2.2.2;have hh:=h.2.1;simp only[zl];by_cases h1:t<q.t
  ·rw[if_pos h1];have hs:∀x:Int,p.t≤x→p.a≤seg p q x:=fun x hx=>by have:=Pd h.2.1 h.2.2.1 hx;rwa [TE h.2.1]at this
   by_cases h2:t'<q.t
   ·rw[if_pos h2];by_cases h3:t<p.t
    ·rw[if_pos h3];by_cases h4:t'<p.t
     ·rw[if_pos h4];omega
     ·rw[if_neg h4];have:=hs t' (by omega);omega
    ·rw[if_neg h3,if_neg (by omega)]
     exact Pd h.2.1 h.2.2.1 ht
   ·rw[if_neg h2];have h5:=ih (show q.t≤t' by omega)
    by_cases h3:t<p.t
    ·rw[if_pos h3];have:=h.2.2.1;omega
    ·rw[if_neg h3];have:=Pd h.2.1 h.2.2.1 (show t≤q.t by omega)
     rw[QA h.2.1]at this;omega
  ·rw[if_neg h1,if_neg (by omega)]
   exact ih ht
theorem Qmh{p q:Pt}(hp:p.t≤p.a)(hq:q.t≤q.a)(h1:p.t<q.t){t:Int}(h:p.t≤t)(h':t≤q.t):t≤seg p q t:=by
 unfold seg;have key:(t-p.a)*(q.t-p.t)≤(t-p.t)*(q.a-p.a):=by
  have e1:0≤(t-p.t)*(q.a-q.t):=Int.mul_nonneg (by omega) (by omega)
  have e2:0≤(q.t-t)*(p.a-p.t):=Int.mul_nonneg (by omega) (by omega)
  have e3:(t-p.t)*(q.a-p.a)-(t-p.a)*(q.t-p.t)=(t-p.t)*(q.a-q.t)+(q.t-t)*(p.a-p.t):=by
   simp only[Int.sub_mul,Int.mul_sub,Int.mul_comm];omega
  omega
 have:=(Int.le_ediv_iff_mul_le (show 0<q.t-p.t by omega)).2 (show(t-p.a)*(q.t-p.t)≤(t-p.t)*(q.a-p.a)+(q.t-p.t)-1 by omega)
 omega
theorem RQ:∀{l:List Pt},XK l→l≠[]→∀(t:Int),t≤zl l t
 | [],_,h,_=>absurd rfl h
 | [p],h,_,t=>by simp only[zl];have:=h.2.2.1;omega
 |p ::q ::r,h,_,t=>by
  have hq:okA q:=h.2.2.2.W5 (i:=0) rfl;have h1:=h.1.2.2.1;simp only[zl];by_cases h3:t<q.t
  ·rw[if_pos h3];by_cases h4:t<p.t
   ·rw[if_pos h4];omega
   ·rw[if_neg h4];exact Qmh h1 hq.2.2.1 h.2.1 (by omega) (by omega)
  ·rw[if_neg h3];exact RQ h.2.2.2 (by simp) t
theorem RS:∀{l:List Pt},XK l→∀{t:Int},0≤t→zl l t≤t+8192
 | [],_,t,h=>by simp only[zl];omega
 | [p],h,t,_=>by simp only[zl];have:=h.2.2.2;omega
 |p ::q ::r,h,t,h0=>by
  have hq:okA q:=h.2.2.2.W5 (i:=0) rfl;have h1:=h.1.2.2.2;simp only[zl];by_cases h3:t<q.t
  ·rw[if_pos h3];by_cases h4:t<p.t
   ·rw[if_pos h4];omega
   ·rw[if_neg h4];have:=Pd h.2.1 h.2.2.1 (show t≤q.t by omega)
    rw[QA h.2.1]at this;have:=hq.2.2.2;have:=hq.2.1;omega
  ·rw[if_neg h3];exact RS h.2.2.2 h0
def NA(t:Int):Prop:=0≤t∧t≤1073741824
theorem QcZ{p q:Pt}(h1:okA p)(h2:okA q)(h:p.t<q.t)(h':p.a≤q.a){t:Int}(a:p.t≤t)(b:t≤q.t):
  0≤(t-p.t)*(q.a-p.a)∧(t-p.t)*(q.a-p.a)≤33554432∧0≤((t-p.t)*(q.a-p.a)+(q.t-p.t)-1) / (q.t-p.t)∧((t-p.t)*(q.a-p.a)+(q.t-p.t)-1) / (q.t-p.t)≤33558528:=by
 unfold okA at h1 h2;have e1:0≤(t-p.t)*(q.a-p.a):=Int.mul_nonneg (by omega) (by omega)
 have e2:(t-p.t)*(q.a-p.a)≤4096*8192:=Int.mul_le_mul (by omega) (by omega) (by omega) (by omega)
 have e3:0≤((t-p.t)*(q.a-p.a)+(q.t-p.t)-1) / (q.t-p.t):=Int.ediv_nonneg (by omega) (by omega)
 have e4:((t-p.t)*(q.a-p.a)+(q.t-p.t)-1) / (q.t-p.t)≤(t-p.t)*(q.a-p.a)+(q.t-p.t)-1:=Int.ediv_le_self _ (by omega)
 exact⟨e1,by omega,e3,by omega⟩
theorem uz.at{l:List Pt}(h:uz l){i:Nat}{p:Pt}(hp:l[i]?=some p):okA p:=h.T8.W5 hp
theorem uz.bd{l:List Pt}(h:uz l){i:Nat}{p:Pt}(hp:l[i]?=some p):0≤p.t∧p.t≤4096∧p.t≤p.a∧p.a≤8192:=by
 have:=h.at hp;unfold okA at this;omega
theorem uz.ptI{l:List Pt}(h:uz l):∀p∈l,ptI p:=fun p hp=>by
 obtain⟨i,hi⟩:=List.getElem?_of_mem hp;have:=h.bd hi;unfold Go.Proofs.YtbilkblifgaflaaGreatDoor.ptI wh;omega
theorem QjC{a b:Int}(h:0≤a):a.tdiv b=a / b:=Int.tdiv_eq_ediv_of_nonneg h
theorem Qoq{a b:Int}(h:0≤a)(h':a≤9223372036854775807)(hb:0<b):uw .i64 a b=a / b:=by
 have h1:0≤a / b:=Int.ediv_nonneg h (by omega)
 have h2:a / b≤a:=Int.ediv_le_self _ h;have h3:=QjC (b:=b) h;rw[Qg3 (by rw[h3];omega) (by rw[h3];omega),h3]
theorem O3{l:List Pt}(h:uz l):fI l=some []:=by
 obtain⟨r,h1,h2,h3⟩:=zD (by have:=h.C5;omega) h.ptI
 rw[h1,h3.2 h]
theorem M8{l:List Pt}(h:uz l){t:Int}(ht:NA t):qK l t=some (zl l t):=by
 apply post.eq;obtain⟨p0,r0,rfl⟩:∃p r,l=p ::r:=by
  cases l with
  |nil=>have:=h.pos;simp at this
  |cons p r=>exact⟨p,r,rfl⟩
 generalize hl:p0 ::r0=l at h;have h0:l[0]?=some p0:=by rw[←hl];rfl
 have QdU:=h.pos;have Qgf:=h.C5;have Oh:l[l.length-1]?=some (l[l.length-1]'(by omega)):=List.getElem?_eq_getElem _
 unfold NA at ht;unfold qK;rw[O3 h,ai];refine bA (fun hb=>?_) (fun _=>?_)
 ·simp only[XX,qi,fS,Qn4]at hb;omega
 refine b_ (R:=fun e=>(∃u,e=.inl u∧∀p,l[l.length-1]?=some p→p.t≤t∨t<p0.t)∨e=.inr (zl l t)) ?_ ?_
 ·refine fj (fun i=>∃k:Nat,i=(k:Int)∧k<l.length∧(∀p,l[k]?=some p→p.t≤t∨t<p0.t)) (fun i=>l.length-i.toNat) ⟨0,rfl,by omega,fun p hp=>by rw[h0]at hp;cases hp;omega⟩ (by simp;omega) ?_
  rintro _ ⟨k,rfl,hk,hC⟩;show post (nu l t (k:Int)) _;unfold nu;have qf:aY .i64 (k:Int) 1=((k+1:Nat):Int):=by rw[ig (by omega) (by omega)];omega
  rw[qf];refine bA (fun hb=>?_) (fun hb=>ef (.inl ⟨_,rfl,fun p hp=>hC p ?_⟩))
  rotate_left
  ·simp only[jG,aC]at hb;rw[show k=l.length-1 by omega];exact hp
  simp only[fS,aC]at hb;have hk1:k+1<l.length:=by omega
  have e1:l[k]?=some l[k]:=List.getElem?_eq_getElem hk;have e2:l[k+1]?=some l[k+1]:=List.getElem?_eq_getElem hk1;rw[bt e1,ai,bt e2,ai];generalize l[k]=p at e1;generalize l[k+1]=q at e2;have hp:=h.bd e1;have hq:=h.bd e2;obtain⟨hpq,hpa⟩:=h.T8.pair e1 e2;refine bA (fun hc=>?_) (fun hc=>fO ⟨⟨k+1,rfl,hk1,fun x hx=>?_⟩,by simp;omega⟩)
  ·simp only[BK,ui,fS]at hc;obtain⟨n1,n2,n3,n4⟩:=QcZ (h.at e1) (h.at e2) hpq hpa hc.1 (Int.le_of_lt hc.2);have key:(t-p.t)*(q.a-p.a)+q.t-p.t-1=(t-p.t)*(q.a-p.a)+(q.t-p.t)-1:=by omega
   rw[←key]at n3 n4;simp(disch:=omega) only[ig,v9,Qi5,Qoq];refine dd (by omega) (ef (.inr ?_))
   rw[NH h.T8 e1 e2 hc.1 (Int.le_of_lt hc.2),key];rfl
  ·rw[e2]at hx;cases hx;simp only[T9,Q8,jG]at hc;rcases hC p e1 with h'|h'
   ·left;omega
   ·right;exact h'
 ·intro e he;rcases he with⟨u,rfl,hu⟩|rfl
  ·rw[en,show(0:Int)=((0:Nat):Int)from rfl,bt h0,ai];have hp:=h.bd h0;refine bA (fun hb=>?_) (fun hb=>?_)
   ·simp only[qi]at hb;have hs:dZ .i64 (aC l) 1=((l.length-1:Nat):Int):=by unfold aC;rw[v9 (by omega) (by omega)];omega
    rw[hs,bt Oh,ai];have hq:=h.bd Oh;simp(disch:=omega) only[ig,v9,bg];rw[KL h.T8 Oh (by rcases hu _ Oh with h1|h1;exact h1;omega)]
   ·simp only[nq]at hb;rw[ig (by omega) (by omega),v9 (by omega) (by omega),bg,←hl,Ya (by rw[hl];exact h.T8) hb]
  ·rw[q7];exact bg.2 rfl
theorem QaT:∀i:Nat,i<16→(nD (i:Int)).isSome=true:=by decide +kernel
theorem Nu{l:List Pt}(h:uz l):jU l=some []:=by
 have QdU:=h.pos;have Qgf:=h.C5;unfold jU;rw[a_ (by simp only[Ql,xC,nq,aC];omega)]
 unfold n0;have EJ:aK (fun s:List aa×Int=>im l s.1 s.2) ([],0)=some []:=?_
 ·rw[EJ,ai]
 refine dj (e:=[]) l.length (fun i=>(([]:List aa),(i:Int))) (by omega) (fun i hi=>?_) ?_
 ·have e1:l[i]?=some l[i]:=List.getElem?_eq_getElem hi;obtain⟨r,hr⟩:=Option.isSome_iff_exists.1 (QaT i (by omega))
  show im l [] (i:Int)=_;unfold im;rw[bl (by simp only[fS,aC];omega),bt e1,ai,hr,ai]
  have hp:=h.bd e1;have hA:=h.at e1;unfold okA at hA;rw[show ni (l[i]).t 0 4096=some true by unfold ni;simp only[Option.some.injEq,BK,kP,ui];omega,ai]
  rw[a_ (by simp only[Bool.not_true,Bool.false_or,Ql,jG,nq];rw[ig (by omega) (by omega)];omega)]
  have qf:aY .i64 (i:Int) 1=((i+1:Nat):Int):=by rw[ig (by omega) (by omega)];omega
  unfold n5;rw[qf];rcases Nat.eq_zero_or_pos i with h0|h0
  ·rw[a_ (by simp only[nq];omega)]
  ·have e0:l[i-1]?=some (l[i-1]'(by omega)):=List.getElem?_eq_getElem _
   have hs:dZ .i64 (i:Int) 1=((i-1:Nat):Int):=by rw[v9 (by omega) (by omega)];omega
   have hpr:=h.T8.pair e0 (by rw[show i-1+1=i by omega];exact e1)
   rw[bl (by simp only[qi];omega),hs,bt e0,ai,a_ (by simp only[Q8];omega),a_ (by simp only[jG];omega)]
 ·show im l [] (l.length:Int)=_;unfold im;rw[a_ (by simp [aC])]
theorem Nv{l:List Pt}(h:uz l):yT l=some true:=by
 unfold yT;rw[Nu h];rfl
theorem half{i j:Nat}(h:i<100)(h':j<100):zV .i64 (wZ .u64 (zV .u64 (aY .i64 (i:Int) (j:Int))) 1)=(((i+j) / 2:Nat):Int):=by
 rw[ig (by omega) (by omega)]
 unfold zV wZ;rw[IntKind.wrap_u64,IntKind.wrap_i64];have e:(2:Int) ^ min (Int.toNat 1) (IntKind.u64.bits)=2:=by decide
 rw[e,Int.fdiv_eq_ediv_of_nonneg _ (by omega)]
 omega
theorem Xt{l:List Pt}(h:uz l){t:Int}(ht:NA t):post (dv l t) fun r=>∃i:Nat,r.1=(i:Int)∧i≤l.length∧(∀k p,k<i→l[k]?=some p→p.t<t)∧(∀k p,i≤k→l[k]?=some p→t≤p.t)∧
  (r.2=true↔∃p,l[i]?=some p∧p.t=t):=by
 have Qgf:=h.C5;unfold NA at ht;refine b_ (R:=fun x=>∃i:Nat,x=(i:Int)∧i≤l.length∧(∀k p,k<i→l[k]?=some p→p.t<t)∧(∀k p,i≤k→l[k]?=some p→t≤p.t)) ?_ ?_
 ·refine fj (fun s=>∃i j:Nat,s=((i:Int),(j:Int))∧i≤j∧j≤l.length∧(∀k p,k<i→l[k]?=some p→p.t<t)∧(∀k p,j≤k→l[k]?=some p→t≤p.t)) (fun s=>(s.2-s.1).toNat) ⟨0,l.length,rfl,by omega,by omega,fun k p hk=>by omega,fun k p hk hp=>by have:=(List.getElem?_eq_some_iff.1 hp).1;omega⟩ (by simp [aC];omega) ?_
  rintro _ ⟨i,j,rfl,T5,hjl,h1,h2⟩;show post (cO l t (i:Int) (j:Int)) _;unfold cO;rw[half (by omega) (by omega)]
  refine bA (fun hb=>?_) (fun hb=>ef ?_)
  ·simp only[fS]at hb;have hm:(i+j) / 2<l.length:=by omega
   have e1:l[(i+j) / 2]?=some l[(i+j) / 2]:=List.getElem?_eq_getElem hm;rw[bt e1,ai];generalize l[(i+j) / 2]=p at e1;have hp:=h.bd e1;unfold qy;rw[v9 (by omega) (by omega),ai]
   refine bA (fun hc=>fO ?_) (fun hc=>fO ?_)
   ·simp only[fS]at hc;refine⟨⟨(i+j) / 2+1,j,by rw[ig (by omega) (by omega)];simp,by omega,hjl,fun k q hk hq=>?_,h2⟩,by rw[ig (by omega) (by omega)];simp;omega⟩
    rcases Nat.lt_or_ge k ((i+j) / 2)with wP|wP
    ·have:=h.T8.lt wP hq e1;omega
    ·obtain rfl:k=(i+j) / 2:=by omega
     rw[e1]at hq;cases hq;omega
   ·simp only[jG]at hc;refine⟨⟨i,(i+j) / 2,rfl,by omega,by omega,h1,fun k q hk hq=>?_⟩,by simp;omega⟩
    rcases Nat.lt_or_ge ((i+j) / 2) k with wP|wP
    ·have:=h.T8.lt wP e1 hq;omega
    ·obtain rfl:k=(i+j) / 2:=by omega
     rw[e1]at hq;cases hq;omega
  ·simp only[jG]at hb;obtain rfl:i=j:=by omega
   exact⟨i,rfl,hjl,h1,h2⟩
 ·rintro _ ⟨i,rfl,hi,h1,h2⟩;refine bA (fun hb=>?_) (fun hb=>bg.2 ⟨i,rfl,hi,h1,h2,?_⟩)
  ·simp only[fS,aC]at hb;have Uo:i<l.length:=by omega
   have e1:l[i]?=some l[i]:=List.getElem?_eq_getElem Uo;rw[bt e1,ai];generalize l[i]=p at e1;have hp:=h.bd e1;unfold qy;rw[v9 (by omega) (by omega),ai,bg]
   refine⟨i,rfl,hi,h1,h2,?_⟩;simp only[pJ,e1,Option.some.injEq,exists_eq_left'];omega
  ·simp only[jG,aC]at hb;rw[List.getElem?_eq_none (by omega)]
   simp
theorem L7{l:List Pt}(h:uz l){t:Int}(ht:NA t):wE l t=some (zl l t):=by
 apply post.eq;have QdU:=h.pos;have Qgf:=h.C5;obtain⟨⟨x,f⟩,hx,i,rfl,hi,h1,h2,h3⟩:=Xt h ht;simp only at h3;unfold wE;rw[hx,ai];unfold NA at ht;refine bA (fun hb=>?_) (fun hb=>?_)
 ·obtain⟨p,e1,hpt⟩:=h3.1 hb;show post (aS (bq l (i:Int)) _) _;rw[bt e1,ai,bg];subst hpt;rcases Nat.lt_or_ge (i+1) l.length with h'|h'
  ·have e2:l[i+1]?=some l[i+1]:=List.getElem?_eq_getElem h';have mj:=(h.T8.pair e1 e2).1;rw[NH h.T8 e1 e2 (by omega) (by omega),TE mj]
  ·have hil:i=l.length-1:=by have:=(List.getElem?_eq_some_iff.1 e1).1;omega
   rw[hil]at e1;rw[KL h.T8 e1 (by omega)];omega
 ·have hnf:∀p,l[i]?=some p→p.t≠t:=fun p hp he=>by
   have:=h3.2 ⟨p,hp,he⟩;simp only at hb;rw[this]at hb;cases hb
  have e0:l[0]?=some l[0]:=List.getElem?_eq_getElem (by omega)
  show post (br (bP (i:Int) 0) _ _) _;refine bA (fun hc=>?_) (fun hc=>?_)
  ·simp only[pJ]at hc;obtain rfl:i=0:=by omega
   rw[show(0:Int)=((0:Nat):Int)from rfl,bt e0,ai];have hp:=h.bd e0;have h4:=h2 0 _ (by omega) e0
   generalize l[0]=p at e0 hp h4;obtain⟨r,hr⟩:∃r,l=p ::r:=by
    cases l with
    |nil=>simp at QdU
    |cons x r=>cases e0;exact⟨r,rfl⟩
   simp(disch:=omega) only[ig,v9,bg];rw[hr,Ya (by rw[←hr];exact h.T8) h4]
  ·simp only[xC]at hc;have e1:l[i-1]?=some (l[i-1]'(by omega)):=List.getElem?_eq_getElem _
   have hs:dZ .i64 (i:Int) 1=((i-1:Nat):Int):=by rw[v9 (by omega) (by omega)];omega
   have hp:=h.bd e1;have h4:=h1 (i-1) _ (by omega) e1
   show post (br (bP (i:Int) (aC l)) (aS (bq l (dZ .i64 (i:Int) 1)) _) _) _;rw[hs];refine bA (fun hd=>?_) (fun hd=>?_)
   ·simp only[pJ,aC]at hd;obtain rfl:i=l.length:=by omega
    rw[bt e1,ai];simp(disch:=omega) only[ig,v9,bg];rw[KL h.T8 e1 (by omega)]
   ·simp only[xC,aC]at hd;have e2:l[i]?=some (l[i]'(by omega)):=List.getElem?_eq_getElem _
    have hq:=h.bd e2;have h5:=h2 i _ (by omega) e2
    show post (aS (bq l ((i-1:Nat):Int)) fun x3=>aS (bq l (i:Int)) fun x4=>_) _
    rw[bt e1,ai,bt e2,ai];have e2':l[i-1+1]?=some (l[i]'(by omega)):=by rw[show i-1+1=i by omega];exact e2
    generalize l[i-1]=p at e1 hp h4;generalize l[i]=q at e2 e2' hq h5;obtain⟨hpq,hpa⟩:=h.T8.pair e1 e2';obtain⟨n1,n2,n3,n4⟩:=QcZ (h.at e1) (h.at e2) hpq hpa (Int.le_of_lt h4) h5;simp(disch:=omega) only[ig,v9,Qi5,Qoq];refine dd (by omega) (bg.2 ?_)
    rw[NH h.T8 e1 e2' (Int.le_of_lt h4) h5];rfl
theorem L6{l:List Pt}(h:uz l){t:Int}(ht:NA t):wD l t=some (zl l t):=by
 unfold wD;rw[show ni t 0 1073741824=some true by unfold ni;unfold NA at ht;simp only[Option.some.injEq,BK,kP,ui];omega,ai,dc,Nv h,ai,dc,L7 h ht,ai]
class Sm (α:Type) where
  sm:α→Prop
instance:Sm aa:=⟨fun f=>f.di.size≤64⟩
instance:Sm Int:=⟨fun _=>True⟩
section
variable {α β : Type} [Sm α]
def Ext(l0:List α)(c:Nat)(P:Prop)(r:List α):Prop:=∃new,r=l0++new∧new.length≤c∧(new=[]→P)∧∀x∈new,Sm.sm x
theorem Ext.nil{l0:List α}{c:Nat}{P:Prop}(h:P):Ext l0 c P l0:=⟨[],by simp,by simp,fun _=>h,by simp⟩
theorem Ext.one{l0:List α}{c:Nat}{P:Prop}{x:α}(hc:1≤c)(hx:Sm.sm x):Ext l0 c P (l0++[x]):=⟨[x],rfl,hc,fun h=>by(cases h),fun y hy=>by rw[List.mem_singleton.1 hy];exact hx⟩
theorem Ext.trans{a b r:List α}{c d e:Nat}{P Q R:Prop}(h:Ext a c P b)(h':Ext b d Q r)(he:c+d≤e)(hr:P→Q→R):Ext a e R r:=by
 obtain⟨n,rfl,h1,h2,h5⟩:=h;obtain⟨m,rfl,h3,h4,h6⟩:=h';refine⟨n++m,by simp,by simp;omega,fun h=>?_,fun x hx=>by rcases List.mem_append.1 hx with h|h;exact h5 x h;exact h6 x h⟩
 rw[List.append_eq_nil_iff]at h;exact hr (h2 h.1) (h4 h.2)
theorem Ext.len{a r:List α}{c:Nat}{P:Prop}(h:Ext a c P r):r.length≤a.length+c:=by obtain⟨n,rfl,h1,_⟩:=h;simp;omega
theorem Ext.of_nil{r:List α}{c:Nat}{P:Prop}(h:Ext [] c P r)(hr:r=[]):P:=by
 obtain⟨n,rfl,_,h2,_⟩:=h;exact h2 (by simpa using hr)
theorem Ext.sms{r:List α}{c:Nat}{P:Prop}(h:Ext [] c P r):∀x∈r,Sm.sm x:=by
 obtain⟨n,rfl,_,_,h2⟩:=h;simpa using h2
theorem Ext.mono{a r:List α}{c d:Nat}{P Q:Prop}(h:Ext a c P r)(hc:c≤d)(hp:P→Q):Ext a d Q r:=by
 obtain⟨n,rfl,h1,h2,h3⟩:=h;exact⟨n,rfl,by omega,fun hn=>hp (h2 hn),h3⟩
def QhZ(out:List α)(i:Int)(c:Nat)(P:Prop)(x:(List α×Int)⊕β):Prop:=∃r,x=.inl (r,i)∧Ext out c P r
theorem R7{out:List α}{i j:Int}{c:Nat}{P:Prop}(hi:j=i)(h:P):post (some (Sum.inl (out,j):(List α×Int)⊕β)) (QhZ out i c P):=⟨_,rfl,out,by rw[hi],.nil h⟩
theorem G2{out:List α}{x:α}{i j:Int}{c:Nat}{P:Prop}(hi:j=i)(hc:1≤c)(hx:Sm.sm x):post (some (Sum.inl (out++[x],j):(List α×Int)⊕β)) (QhZ out i c P):=⟨_,rfl,_,by rw[hi],.one hc hx⟩
theorem uS{B:List α×Int→Option ((List α×Int)⊕(List α))}(n c:Nat)(P:Nat→Prop)(l0:List α)(hn:n<18446744073709551615)
  (step:∀(i:Nat) (out:List α),i<n→out.length≤l0.length+c*i→post (B (out,(i:Int))) (QhZ out ((i:Int)+1) c (P i)))
  (fin:∀out,B (out,(n:Int))=some (.inr out)):post (aK B (l0,0)) (Ext l0 (c*n) (∀i,i<n→P i)):=by
 refine fj (fun s=>∃i:Nat,s.2=(i:Int)∧i≤n∧Ext l0 (c*i) (∀k,k<i→P k) s.1) (fun s=>n-s.2.toNat)
  ⟨0,rfl,Nat.zero_le _,.nil (by simp)⟩ (by simp;omega) ?_
 rintro⟨out,j⟩ ⟨i,hj,hi,hl⟩;simp only at hj hl;subst hj;by_cases h:i<n
 ·refine(step i out h hl.len).mono ?_
  rintro x ⟨r,rfl,h1⟩;refine⟨fun s' hs=>?_,fun _ h=>by cases h⟩
  cases hs;refine⟨⟨i+1,by simp,by omega,hl.trans h1 (by rw[Nat.mul_add];omega) fun h2 h3 k hk=>?_⟩,by simp;omega⟩
  rcases Nat.lt_or_ge k i with h|h
  ·exact h2 k h
  ·obtain rfl:k=i:=by omega
   exact h3
 ·obtain rfl:i=n:=by omega
  rw[fin];exact ef hl
end
theorem Mr{e:Int}{s:ByteArray}(h:s.size≤64):Sm.sm (aa.mk e s):=h
theorem kZ(a b:ByteArray):(cM a b).size=a.size+b.size:=by unfold cM;exact ByteArray.size_append
theorem Tp{B:Bool×Int→Option ((Bool×Int)⊕Bool)}(n:Nat)(P:Nat→Prop)(hn:n<18446744073709551615)
  (step:∀(k:Nat) (b:Bool),k<n→post (B (b,(k:Int))) fun x=>∃b',x=.inl (b',(k:Int)+1)∧(b'=true↔b=true∨P k))
  (fin:∀b,B (b,(n:Int))=some (.inr b)):post (aK B (false,0)) fun r=>(r=true↔∃k,k<n∧P k):=by
 refine fj (fun s=>∃i:Nat,s.2=(i:Int)∧i≤n∧(s.1=true↔∃k,k<i∧P k)) (fun s=>n-s.2.toNat) ⟨0,rfl,Nat.zero_le _,by simp⟩ (by simp;omega) ?_
 rintro⟨b,j⟩ ⟨i,hj,hi,hl⟩;simp only at hj hl;subst hj;by_cases h:i<n
 ·refine(step i b h).mono ?_
  rintro x ⟨b',rfl,h1⟩;refine⟨fun s' hs=>?_,fun _ h=>by cases h⟩
  cases hs;refine⟨⟨i+1,by simp,by omega,?_⟩,by simp;omega⟩
  simp only;rw[h1,hl];constructor
  ·rintro(⟨k,h2,h3⟩|h2)
   ·exact⟨k,by omega,h3⟩
   ·exact⟨i,by omega,h2⟩
  ·rintro⟨k,h2,h3⟩;rcases Nat.lt_or_ge k i with h|h
   ·exact .inl ⟨k,h,h3⟩
   ·obtain rfl:k=i:=by omega
    exact .inr h3
 ·obtain rfl:i=n:=by omega
  rw[fin];exact ef hl
theorem inc{i n:Nat}(h:i<n)(hn:n≤1048576):aY .i64 (i:Int) 1=(i:Int)+1:=ig (by omega) (by omega)
theorem dec{i:Nat}(h:0<i)(hn:i≤1048576):dZ .i64 (i:Int) 1=((i-1:Nat):Int):=by rw[v9 (by omega) (by omega)];omega
theorem Qb5{s:ByteArray}{i:Int}(h0:0≤i)(h1:i<s.size):∃b,Ru s i=some b:=by
 unfold Ru;rw[if_pos h0];exact⟨_,getElem?_pos s i.toNat (by omega)⟩
theorem KZ(s:ByteArray)(hs:s.size≤1048576):post (ik s) fun _=>True:=by
 unfold ik;refine bA (fun _=>bg.2 trivial) (fun hb=>?_)
 simp only[Ql,jG,nq,xq]at hb;obtain⟨b,hb0⟩:=Qb5 (s:=s) (i:=0) (by omega) (by omega)
 rw[hb0,ai];refine b_ (R:=fun _=>True) ⟨_,rfl,trivial⟩ fun r _=>bA (fun _=>bg.2 trivial) fun _=>?_
 refine b_ (R:=fun _=>True) ?_ fun e _=>?_
 ·refine fj (fun i=>∃k:Nat,i=(k:Int)∧k≤s.size) (fun i=>s.size-i.toNat) ⟨0,rfl,Nat.zero_le _⟩ (by simp;omega) ?_
  rintro _ ⟨k,rfl,hk⟩;show post (pP s b (k:Int)) _;unfold pP;refine bA (fun hb=>?_) (fun _=>ef trivial)
  simp only[fS,xq]at hb;obtain⟨c,hc⟩:=Qb5 (s:=s) (i:=k) (by omega) (by omega)
  rw[hc,ai,inc (n:=s.size) (by omega) hs]
  have leaf:post (some (Sum.inl ((k:Int)+1):Int⊕(Unit⊕Bool))) fun x=>(∀s',x=.inl s'→(∃k:Nat,s'=(k:Int)∧k≤s.size)∧s.size-s'.toNat<s.size-(k:Int).toNat)∧∀e,x=.inr e→True:=
   fO ⟨⟨k+1,by simp,by omega⟩,by simp;omega⟩
  refine b_ (R:=fun _=>True) ⟨_,rfl,trivial⟩ fun r1 _=>bA (fun _=>leaf) fun _=>?_
  exact b_ (R:=fun _=>True) ⟨_,rfl,trivial⟩ fun r2 _=>bA (fun _=>leaf) fun _=>ef trivial
 ·cases e with
  |inl u=>exact bg.2 trivial
  |inr r=>exact bg.2 trivial
structure QkJ (a:aw):Prop where
 dM:a.dM.length≤1048576
 eU:a.eU.length≤1048576
 pts:∀p∈a.dM,ptI p
 Qt9:∀p∈a.eU,ptI p
structure Mw (n:ak):Prop where
 aD:n.aD.length≤1048576
 bj:n.bj.length≤1048576
 names:∀s∈n.aD,s.size≤1048576
 Qdl:∀a∈n.bj,QkJ a
def okS(l:List Pt)(i:Nat):Prop:=∀p,l[i]?=some p→0≤p.t∧p.t≤4096∧0≤p.a∧p.a≤4096∧(0<i→∀q,l[i-1]?=some q→q.t<p.t)
structure Hh (np:Nat) (a:aw):Prop where
 Vc:0≤a.aE
 Vd:a.aE<np
 to0:0≤a.dE
 to1:a.dE<np
 QrW:0≤a.aj
 QrX:a.aj≤7
 Qe:0≤a.cT
 Qf:a.cT≤10000
 ne:a.aE≠a.dE
 dM:uz a.dM
 eU:a.eU.length≤16
 Ph:∀i,i<a.eU.length→okS a.eU i
def FK(a b:aw):Prop:=a.aE=b.aE∧a.dE=b.dE∧a.aj=b.aj
structure tj (n:ak):Prop where
 aD:n.aD.length≤24
 bj:n.bj.length≤1024
 all:∀a∈n.bj,Hh n.aD.length a
 once:∀(i k:Nat) (a b:aw),k<i→n.bj[i]?=some a→n.bj[k]?=some b→¬FK a b
theorem PF{n:ak}(hn:Mw n):post (fN n) (Ext [] (1+n.aD.length) (n.aD.length≤24)):=by
 have AK:=hn.aD;have main:∀l0:List aa,l0.length≤1→post (fc n l0) (Ext l0 n.aD.length True):=by
  intro l0 ry;refine b_ (R:=Ext l0 n.aD.length True) ?_ fun a h=>bg.2 h
  refine(uS n.aD.length 1 (fun _=>True) l0 (by omega) (fun i out hi ho=>?_) (fun out=>?_)).mono fun r h=>h.mono (by omega) fun _=>trivial
  ·show post (cG n l0 out (i:Int)) _;unfold cG;rw[bl (by simp [aC];exact hi),inc hi AK]
   refine b_ (u7 (i:Int) (K0 (by omega))) fun r hr=>dd (by show 6+r.size≤_;omega) ?_
   have e1:n.aD[i]?=some n.aD[i]:=List.getElem?_eq_getElem hi;rw[bt e1,ai];have mA:∀f:aa,e_ (out++[f]).length 24:=fun f=>cW (by simp;omega)
   have hsm:∀{e:Int},Sm.sm (aa.mk e (cM e7 r)):=Mr (by rw[kZ];show 6+r.size≤64;omega)
   refine b_ (KZ _ (hn.names _ (List.getElem_mem hi))) fun r1 _=>bA (fun _=>?_) (fun _=>dd (mA _) (G2 rfl (by omega) hsm))
   refine b_ (R:=fun _=>True) ((Tp i (fun k=>∃x,n.aD[k]?=some x∧Jb x n.aD[i]=true) (by omega) (fun k b hk=>?_) (fun b=>?_)).mono fun _ _=>trivial) fun tw _=>bA (fun _=>dd (mA _) (G2 rfl (by omega) hsm)) (fun _=>R7 rfl trivial)
   ·show post (cH n l0 out (i:Int) r b (k:Int)) _;unfold cH;rw[bl (by simp;omega),inc (n:=i) hk (by omega)]
    have e2:n.aD[k]?=some (n.aD[k]'(by omega)):=List.getElem?_eq_getElem _
    refine bA (fun h=>bg.2 ⟨true,rfl,by simp [h]⟩) (fun h=>?_)
    rw[bt e2,ai,bt e1,ai,bg];exact⟨_,rfl,by simp [h,e2]⟩
   ·show cH n l0 out (i:Int) r b (i:Int)=_;unfold cH;rw[a_ (by simp)]
  ·show cG n l0 out (n.aD.length:Int)=_;unfold cG;rw[a_ (by simp [aC])]
 unfold fN;refine bA (fun h=>dd (cW (by simp)) ((main _ (by simp)).mono fun r h'=>?_)) (fun h=>(main _ (by simp)).mono fun r h'=>h'.mono (by omega) fun _=>?_)
 ·exact(Ext.one (l0:=[]) (P:=n.aD.length≤24) (Nat.le_refl 1) (Mr (s:=iy) (show 6≤64 by omega))).trans h' (Nat.le_refl _) fun h _=>h
 ·simp only[nq,aC]at h;omega
theorem Qc8(t:Int):nR t=some (decide (0≤t∧t≤4096)):=by
 unfold nR;congr 1;rw[Bool.eq_iff_iff,BK,kP,ui,decide_eq_true_iff]
theorem V3{r:ByteArray}(hr:r.size≤21){x0:aw}{l l0:List aa}(hI:QkJ x0)(ry:l0.length≤4194304):post (fE r x0 l l0) (Ext l0 x0.eU.length (∀i,i<x0.eU.length→okS x0.eU i)):=by
 have S0:=hI.eU;have hsm:∀{e:Int},Sm.sm (aa.mk e (cM ct r)):=Mr (by rw[kZ];show 4+r.size≤64;omega)
 refine b_ (R:=Ext l0 x0.eU.length (∀i,i<x0.eU.length→okS x0.eU i)) ?_ fun a h=>bg.2 h
 refine(uS x0.eU.length 1 (okS x0.eU) l0 (by omega) (fun i out hi ho=>?_) (fun out=>?_)).mono fun r h=>h.mono (by omega) id
 ·show post (dz r x0 l out (i:Int)) _;unfold dz;have mA:∀f:aa,e_ (out++[f]).length 24:=fun f=>cW (by simp;omega)
  have e1:x0.eU[i]?=some x0.eU[i]:=List.getElem?_eq_getElem hi;rw[bl (by simp [aC];exact hi),inc hi S0,bt e1,ai,Qc8,ai,Qc8]
  generalize x0.eU[i]=p at e1;have no:post (eH (e_ (out++[aa.mk 2 (cM ct r)]).length 24) (some (Sum.inl (out++[aa.mk 2 (cM ct r)],(i:Int)+1):(List aa×Int)⊕(List aa)))) (QhZ out ((i:Int)+1) 1 (okS x0.eU i)):=dd (mA _) (G2 rfl (by omega) hsm)
  refine bA (fun h1=>?_) (fun _=>no)
  rw[ai];refine bA (fun h2=>bA (fun h3=>?_) (fun h3=>R7 rfl ?_)) (fun _=>no)
  ·simp only[qi]at h3;have e2:x0.eU[i-1]?=some (x0.eU[i-1]'(by omega)):=List.getElem?_eq_getElem _
   rw[dec (by omega) (by omega),bt e2,ai]
   refine bA (fun _=>no) (fun h4=>R7 rfl ?_)
   simp only[Q8,decide_eq_true_iff]at h1 h2 h4;intro x hx;rw[e1]at hx;cases hx;exact⟨h1.1,h1.2,h2.1,h2.2,fun _ q hq=>by rw[e2]at hq;cases hq;exact h4⟩
  ·simp only[nq,decide_eq_true_iff]at h1 h2 h3;intro x hx;rw[e1]at hx;cases hx;exact⟨h1.1,h1.2,h2.1,h2.2,fun h=>by omega⟩
 ·show dz r x0 l out (x0.eU.length:Int)=_;unfold dz;rw[a_ (by simp [aC])]
theorem Ue{n:ak}(hn:Mw n){i:Nat}{a:aw}(ha:n.bj[i]?=some a):
  post (jZ n (i:Int)) (Ext [] 3145735 (Hh n.aD.length a∧∀(k:Nat) (b:aw),k<i→n.bj[k]?=some b→¬FK a b)):=by
 have hi:i<n.bj.length:=(List.getElem?_eq_some_iff.1 ha).1;have hal:=hn.bj;have hI:=hn.Qdl a (List.mem_of_getElem? ha);have S0:=hI.eU;have WS:=hI.dM;unfold jZ;refine b_ (u7 (i:Int) (K0 (by omega))) fun r hr=>dd (by show 4+r.size≤_;omega) ?_
 rw[bt ha,ai];have hsm:∀{e:Int},Sm.sm (aa.mk e (cM ct r)):=Mr (by rw[kZ];show 4+r.size≤64;omega)
 have gen:∀(l l0:List aa),l0.length≤3→post (gg r a l l0) (Ext l0 3145732 (uz a.dM∧a.eU.length≤16∧∀i,i<a.eU.length→okS a.eU i)):=by
  intro l l0 ry;unfold gg;refine b_ (zD WS hI.pts) fun r1 XR=>?_
  refine b_ (R:=Ext l0 2097153 (uz a.dM)) ?_ fun l4 h4=>?_
  ·refine(uS r1.length 1 (fun _=>False) l0 (by omega) (fun k out hk ho=>?_) (fun out=>?_)).mono fun x hx=>?_
   ·show post (dy r a l r1 out (k:Int)) _;unfold dy;have e1:r1[k]?=some r1[k]:=List.getElem?_eq_getElem hk;have qf:aY .i64 (k:Int) 1=(k:Int)+1:=ig (by omega) (by omega)
    rw[bl (by simp [aC];exact hk),qf,bt e1,ai]
    exact dd (cW (by simp;omega)) (G2 rfl (by omega) hsm)
   ·show dy r a l r1 out (r1.length:Int)=_;unfold dy;rw[a_ (by simp [aC])]
   ·refine hx.mono (by omega) fun h=>XR.2.1 ?_
    cases r1 with
    |nil=>rfl
    |cons y ys=>exact(h 0 (by simp)).elim
  ·have h4l:=h4.len;refine bA (fun h=>dd (cW (by simp;omega)) ?_) (fun h=>?_)
   ·refine((V3 hr hI (by simp;omega)).mono fun _ h=>h.mono S0 id:post (fE r a l _) (Ext _ 1048576 _)).mono fun x hx=>?_
    refine h4.trans ((Ext.one (P:=False) (Nat.le_refl 1) hsm).trans hx (e:=1048577) (by omega) (fun h _=>h)) (by omega) fun h1 h2=>h2.elim
   ·refine((V3 hr hI (by omega)).mono fun _ h=>h.mono S0 id:post (fE r a l _) (Ext _ 1048576 _)).mono fun x hx=>?_
    simp only[nq,aC]at h;exact h4.trans hx (by omega) fun h1 h2=>⟨h1,by omega,h2⟩
 have Qm2:∀(l l0:List aa),l0.length≤2→post (gf n (i:Int) r a l l0) (Ext l0 3145733 ((∀(k:Nat) (b:aw),k<i→n.bj[k]?=some b→¬FK a b)∧uz a.dM∧a.eU.length≤16∧∀i,i<a.eU.length→okS a.eU i)):=by
  intro l l0 ry;unfold gf;refine b_ (Tp i (fun k=>∃b,n.bj[k]?=some b∧FK a b) (by omega) (fun k b hk=>?_) (fun b=>?_)) fun tw XS=>bA (fun h=>dd (cW (by simp;omega)) ?_) (fun h=>?_)
  ·show post (dx n (i:Int) r a l l0 b (k:Int)) _;unfold dx;have e1:n.bj[k]?=some (n.bj[k]'(by omega)):=List.getElem?_eq_getElem _
   rw[bl (by simp;omega),inc (n:=i) hk (by omega),bt e1,ai,bg]
   refine⟨_,rfl,?_⟩;simp only[XX,BK,pJ,e1,Option.some.injEq,exists_eq_left',FK,and_assoc]
  ·show dx n (i:Int) r a l l0 b (i:Int)=_;unfold dx;rw[a_ (by simp)]
  ·exact(gen l _ (by simp;omega)).mono fun x hx=>(Ext.one (P:=False) (Nat.le_refl 1) hsm).trans hx (by omega) fun h _=>h.elim
  ·refine(gen l _ (by omega)).mono fun x hx=>hx.mono (by omega) fun h'=>⟨fun k b hk hb hs=>?_,h'⟩
   rw[XS.2 ⟨k,hk,b,hb,hs⟩]at h;cases h
 have fin:∀(l:List aa),l.length≤1→post (gb n (i:Int) r a l) (Ext l 3145734 (0≤a.aj∧a.aj≤7∧0≤a.cT∧a.cT≤10000∧a.aE≠a.dE∧(∀(k:Nat) (b:aw),k<i→n.bj[k]?=some b→¬FK a b)∧uz a.dM∧a.eU.length≤16∧∀i,i<a.eU.length→okS a.eU i)):=by
  intro l hl;unfold gb;refine bA (fun h=>dd (cW (by simp;omega)) ?_) (fun h=>?_)
  ·exact(Qm2 l _ (by simp;omega)).mono fun x hx=>(Ext.one (P:=False) (Nat.le_refl 1) hsm).trans hx (by omega) fun h _=>h.elim
  ·simp only[Ql,jG,nq,xC]at h;exact(Qm2 l _ (by omega)).mono fun x hx=>hx.mono (by omega) fun h'=>⟨h.1.1.1.1,h.1.1.1.2,h.1.1.2,h.1.2,h.2,h'⟩
 refine bA (fun h=>dd (cW (by simp)) ?_) (fun h=>?_)
 ·exact(fin _ (by simp)).mono fun x hx=>(Ext.one (l0:=[]) (P:=False) (Nat.le_refl 1) hsm).trans hx (by omega) fun h _=>h.elim
 ·simp only[Ql,jG,Hk,aC]at h;exact(fin _ (by simp)).mono fun x hx=>hx.mono (by omega) fun⟨h1,h2,h3,h4,h5,h6,h7,h8,h9⟩=>⟨⟨h.1.1.1,h.1.1.2,h.1.2,h.2,h1,h2,h3,h4,h5,h7,h8,h9⟩,h6⟩
theorem zE{n:ak}(hn:Mw n):post (jM n) (Ext [] (1048578+3145735*n.bj.length) (tj n)):=by
 have hal:=hn.bj;have AK:=hn.aD;unfold jM;refine b_ (PF hn) fun r hr=>?_
 have WQ:=hr.len;have main:∀l0:List aa,l0.length≤1048578→post (jY n l0) (Ext l0 (3145735*n.bj.length) (∀i,i<n.bj.length→∀a,n.bj[i]?=some a→Hh n.aD.length a∧∀(k:Nat) (b:aw),k<i→n.bj[k]?=some b→¬FK a b)):=by
  intro l0 ry;refine tW ?_
  refine(uS n.bj.length 3145735 _ l0 (by omega) (fun i out hi ho=>?_) (fun out=>?_)).mono fun r h=>bg.2 h
  ·show post (eB n l0 out (i:Int)) _;unfold eB;have e1:n.bj[i]?=some n.bj[i]:=List.getElem?_eq_getElem hi;rw[bl (by simp [aC];exact hi),inc hi hal]
   refine b_ (Ue hn e1) fun r1 XR=>?_
   obtain⟨new,h1,h2,h3,h4⟩:=XR;rw[List.nil_append]at h1;subst h1;refine dd (cW (by simp;omega)) (bg.2 ⟨_,rfl,_,rfl,h2,fun h a ha=>?_,h4⟩)
   rw[e1]at ha;cases ha;exact h3 h
  ·show eB n l0 out (n.bj.length:Int)=_;unfold eB;rw[a_ (by simp [aC])]
 refine bA (fun h=>dd (cW (by simp at WQ ⊢;omega)) ((main _ (by simp at WQ ⊢;omega)).mono fun x hx=>?_)) (fun h=>(main _ (by simp at WQ;omega)).mono fun x hx=>?_)
 ·exact hr.trans ((Ext.one (P:=False) (Nat.le_refl 1) (Mr (s:=qZ) (show 4≤64 by omega))).trans hx (Nat.le_refl _) (R:=False) fun h _=>h) (by omega) fun _ h=>h.elim
 ·simp only[nq,aC]at h;refine hr.trans hx (by omega) fun h1 h2=>⟨h1,by omega,fun a ha=>?_,fun i k a b hk ha hb=>(h2 i (List.getElem?_eq_some_iff.1 ha).1 a ha).2 k b hk hb⟩
  obtain⟨i,hi⟩:=List.getElem?_of_mem ha;exact(h2 i (List.getElem?_eq_some_iff.1 hi).1 a hi).1
def lD(l:List Pt)(t:Int):Int:=l.foldr (fun p s=>(if p.t≤t then p.a else 0)+s) 0
theorem TJ(l m:List Pt)(t:Int):lD (l++m) t=lD l t+lD m t:=by
 induction l with
 |nil=>simp [lD]
 |cons p l ih=>simp only[lD,List.cons_append,List.foldr_cons]at ih ⊢;omega
theorem Bv{l:List Pt}{t:Int}{i:Nat}{p:Pt}(h:l[i]?=some p):lD (l.take (i+1)) t=lD (l.take i) t+(if p.t≤t then p.a else 0):=by
 rw[List.take_add_one,h,TJ];simp [lD]
theorem Qa7{l:List Pt}(h:∀i,i<l.length→okS l i){i:Nat}{p:Pt}(hp:l[i]?=some p):0≤p.t∧p.t≤4096∧0≤p.a∧p.a≤4096:=by
 have:=h i (List.getElem?_eq_some_iff.1 hp).1 p hp;exact⟨this.1,this.2.1,this.2.2.1,this.2.2.2.1⟩
theorem Np{l:List Pt}(h:∀i,i<l.length→okS l i)(t:Int):∀i:Nat,i≤l.length→0≤lD (l.take i) t∧lD (l.take i) t≤4096*i
 |0,_=>by simp [lD]
 |i+1,hi=>by
  have e1:l[i]?=some (l[i]'(by omega)):=List.getElem?_eq_getElem _
  have ih:=Np h t i (by omega)
  have:=Qa7 h e1;rw[Bv e1];split <;> omega
def zN(a:aw)(t:Int):Int:=zl a.dM t+lD a.eU t
theorem uz.ne{l:List Pt}(h:uz l):l≠[]:=fun e=>by have:=h.pos;rw[e]at this;simp at this
theorem Pj{l:List Pt}(h:∀i,i<l.length→okS l i)(hl:l.length≤16)(t:Int):0≤lD l t∧lD l t≤65536:=by
 have:=Np h t l.length (Nat.le_refl _);rw[List.take_length]at this;omega
theorem NG{np:Nat}{a:aw}(h:Hh np a)(t:Int):t≤zN a t:=by
 have:=RQ h.dM.T8 h.dM.ne t;have:=Pj h.Ph h.eU t;unfold zN;omega
theorem QbO{np:Nat}{a:aw}(h:Hh np a){t:Int}(ht:0≤t):zN a t≤t+73728:=by
 have:=RS h.dM.T8 ht;have:=Pj h.Ph h.eU t;unfold zN;omega
theorem Xw{l:List Pt}(h:∀i,i<l.length→okS l i){t t':Int}(ht:t≤t'):lD l t≤lD l t':=by
 have:∀i:Nat,i≤l.length→lD (l.take i) t≤lD (l.take i) t':=by
  intro i;induction i with
  |zero=>intro _;simp [lD]
  |succ i ih =>
   intro hi;have e1:l[i]?=some (l[i]'(by omega)):=List.getElem?_eq_getElem _
   have:=Qa7 h e1;rw[Bv e1,Bv e1];have:=ih (by omega)
   split <;> split <;> omega
 have:=this l.length (Nat.le_refl _);rwa [List.take_length]at this
theorem PB{np:Nat}{a:aw}(h:Hh np a){t t':Int}(ht:t≤t'):zN a t≤zN a t':=by
 have:=UN h.dM.T8 ht;have:=Xw h.Ph ht;unfold zN;omega
theorem V2{l:List Pt}{t r:Int}(h:∀i,i<l.length→okS l i)(hl:l.length≤16)(hr:0≤r)(Vm:r≤2147483648){B:Int×Int→Option ((Int×Int)⊕Int)}
  (hB:∀out i,B (out,i)=br (aT i (aC l)) (aS (bq l i) fun x0=>br (jD x0.t t) (some (.inl ((aY .i64 out x0.a),(aY .i64 i 1)))) (some (.inl (out,(aY .i64 i 1))))) (some (.inr out))):
  aK B (r,0)=some (r+lD l t):=by
 have e:aK B ((fun i:Nat=>(r+lD (l.take i) t,(i:Int))) 0)=some (r+lD l t):=by
  refine dj l.length (fun i:Nat=>(r+lD (l.take i) t,(i:Int))) (by omega) (fun i hi=>?_) ?_
  ·have e1:l[i]?=some l[i]:=List.getElem?_eq_getElem hi;have hb:=Np h t i (by omega)
   have hp:=Qa7 h e1;show B (_,_)=some (.inl (_,_));rw[hB,bl (by simp [aC];exact hi),bt e1,ai,Bv e1,show aY .i64 (i:Int) 1=((i+1:Nat):Int) by rw[ig (by omega) (by omega)];omega]
   by_cases hc:l[i].t≤t
   ·rw[bl (by simpa using hc),if_pos hc,ig (by omega) (by omega),Int.add_assoc]
   ·rw[a_ (by simp;omega),if_neg hc,Int.add_zero]
  ·show B (_,_)=_;rw[hB,a_ (by simp [aC]),List.take_length]
 simpa [lD]using e
theorem Sg{np:Nat}{a:aw}(h:Hh np a){t:Int}(ht:NA t):qs a t=some (zN a t):=by
 have h1:=RQ h.dM.T8 h.dM.ne t;have h2:=RS h.dM.T8 ht.1;unfold NA at ht;unfold qs;rw[L6 h.dM ht,ai,V2 h.Ph h.eU (by omega) (by omega) (fun out i=>rfl),ai]
 rfl
theorem Hv{np:Nat}{a:aw}(h:Hh np a){t:Int}(ht:NA t):nH a t=some (zN a t):=by
 have h1:=RQ h.dM.T8 h.dM.ne t;have h2:=RS h.dM.T8 ht.1;unfold NA at ht;unfold nH;rw[M8 h.dM ht,ai,V2 h.Ph h.eU (by omega) (by omega) (fun out i=>rfl),ai]
 rfl
theorem U_{α E:Type}{l:List α}(p:α→Bool)(Y:α→E)(N:E)(hl:l.length≤1048576){B:Int→Option (Int⊕E)}
  (hB:∀i,B i=br (aT i (aC l)) (aS (bq l i) fun x=>br (p x) (some (.inr (Y x))) (some (.inl (aY .i64 i 1)))) (some (.inr N))):
  aK B 0=some (match l.find? p with|some x=>Y x|none=>N):=by
 apply post.eq;refine fj (fun i=>∃k:Nat,i=(k:Int)∧k≤l.length∧(l.drop k).find? p=l.find? p) (fun i=>l.length-i.toNat) ⟨0,rfl,Nat.zero_le _,rfl⟩ (by simp;omega) ?_
 rintro _ ⟨k,rfl,hk,hf⟩;rw[hB];refine bA (fun hb=>?_) (fun hb=>ef ?_)
 ·simp only[fS,aC]at hb;have wP:k<l.length:=by omega
  have e1:l[k]?=some l[k]:=List.getElem?_eq_getElem wP;rw[List.drop_eq_getElem_cons wP,List.find?_cons]at hf;rw[bt e1,ai,inc wP hl];refine bA (fun hc=>ef ?_) (fun hc=>fO ⟨⟨k+1,by simp,by omega,?_⟩,by simp;omega⟩)
  ·rw[hc]at hf;simp only at hf;rw[←hf]
  ·rw[hc]at hf;simpa using hf
 ·simp only[jG,aC]at hb;rw[List.drop_eq_nil_of_le (by omega)]at hf
  rw[←hf];rfl
def EK(aj aE dE:Int)(a:aw):Bool:=decide (a.aE=aE∧a.dE=dE∧a.aj=aj)
def nG(n:ak)(aj aE dE:Int):aw×Bool:=match n.bj.find? (EK aj aE dE)with
 |some a=>(a,true)
 |none=>(aw.mk 0 0 0 0 [] [],false)
theorem find_eq{n:ak}(h:n.bj.length≤1048576)(aj aE dE:Int):yw n aj aE dE=some (nG n aj aE dE):=by
 unfold yw nG;have:=U_ (EK aj aE dE) (fun a=>(Sum.inr (a,true):Unit⊕(aw×Bool))) (.inl ()) h (B:=fun s=>tD n aj aE dE s) (fun i=>by
  unfold tD;congr 2
  funext x
  unfold nd;rw[ai];congr 1;unfold EK;rw[Bool.eq_iff_iff];simp [and_assoc])
 rw[bY this];cases n.bj.find? (EK aj aE dE) <;> rfl
theorem Uy{n:ak}(h:n.bj.length≤1048576)(aj aE dE:Int):tt n aj aE dE=some (nG n aj aE dE):=by
 unfold tt nG;have:=U_ (EK aj aE dE) (fun a=>(Sum.inr (a,true):Unit⊕(aw×Bool))) (.inl ()) h (B:=fun s=>pQ n aj aE dE s) (fun i=>by
  unfold pQ;congr 2
  funext x
  congr 1;unfold EK;rw[Bool.eq_iff_iff];simp [and_assoc])
 rw[bY this];cases n.bj.find? (EK aj aE dE) <;> rfl
theorem Bx{n:ak}{aj aE dE:Int}(h:(nG n aj aE dE).2=true):(nG n aj aE dE).1∈n.bj∧EK aj aE dE (nG n aj aE dE).1=true:=by
 unfold nG at h ⊢;cases hf:n.bj.find? (EK aj aE dE)with
 |none=>rw[hf]at h;cases h
 |some a=>exact⟨List.mem_of_find?_eq_some hf,List.find?_some hf⟩
def f_(n:ak)(i:Int):Bool:=decide (0≤i∧i<n.aD.length)
theorem Cq(n:ak)(i:Int):kE n i=some (f_ n i):=by
 unfold kE f_ aC;congr 1;rw[Bool.eq_iff_iff];simp
theorem Ka(n:ak)(i:Int):pe n i=some (f_ n i):=by
 unfold pe f_ aC;congr 1;rw[Bool.eq_iff_iff];simp
def goN(n:ak)(aj aE dE t:Int):Int×Int×Int:=
 if f_ n aE=true∧f_ n dE=true then
  if aE=dE then(t,0,0)else
  if(nG n aj aE dE).2=true then(zN (nG n aj aE dE).1 t,(nG n aj aE dE).1.cT,0)else(0,0,12)
 else(0,0,11)
theorem go_eq{n:ak}(h:tj n)(aj aE dE:Int){t:Int}(ht:NA t):uQ n aj aE dE t=some (goN n aj aE dE t):=by
 unfold uQ goN;rw[Cq,ai,Cq,ai,find_eq (by have:=h.bj;omega),ai]
 simp only[NK,pJ];by_cases h1:f_ n aE=true
 ·by_cases h2:f_ n dE=true
  ·rw[if_pos h1,if_pos h2,if_pos (And.intro h1 h2)];by_cases h3:aE=dE
   ·rw[if_pos h3,if_pos h3]
   ·rw[if_neg h3,if_neg h3];by_cases h4:(nG n aj aE dE).2=true
    ·rw[if_pos h4,if_pos h4,Sg (h.all _ (Bx h4).1) ht,ai]
    ·rw[if_neg h4,if_neg h4]
  ·rw[if_pos h1,if_neg h2,if_neg (fun h:f_ n aE=true∧f_ n dE=true=>h2 h.2)]
 ·rw[if_neg h1,if_neg (fun h:f_ n aE=true∧f_ n dE=true=>h1 h.1)]
theorem Zr{n:ak}(h:tj n)(aj aE dE:Int){t:Int}(ht:NA t):tV n aj aE dE t=some (goN n aj aE dE t):=by
 unfold tV goN;rw[Ka,ai,Ka,ai,Uy (by have:=h.bj;omega),ai]
 simp only[NK,pJ];by_cases h1:f_ n aE=true
 ·by_cases h2:f_ n dE=true
  ·rw[if_pos h1,if_pos h2,if_pos (And.intro h1 h2)];by_cases h3:aE=dE
   ·rw[if_pos h3,if_pos h3]
   ·rw[if_neg h3,if_neg h3];by_cases h4:(nG n aj aE dE).2=true
    ·rw[if_pos h4,if_pos h4,Hv (h.all _ (Bx h4).1) ht,ai]
    ·rw[if_neg h4,if_neg h4]
  ·rw[if_pos h1,if_neg h2,if_neg (fun h:f_ n aE=true∧f_ n dE=true=>h2 h.2)]
 ·rw[if_neg h1,if_neg (fun h:f_ n aE=true∧f_ n dE=true=>h1 h.1)]
def Wg(f:List Int→Option (List Int))(c:Nat)(P:Prop):Prop:=∀l:List Int,l.length+c≤100→post (f l) (Ext l c P)
section
variable {f : List Int → Option (List Int)} {c : Nat} {P Q : Prop} {l : List Int} {e : Int}
theorem Wg.bad(h:Wg f c P)(hl:l.length+(c+1)≤100):post (eH (e_ (l++[e]).length 8) (f (l++[e]))) (Ext l (c+1) Q):=
 dd (cW (by simp;omega)) ((h (l++[e]) (by simp;omega)).mono fun x hx=>(Ext.one (P:=False) (Nat.le_refl 1) trivial).trans hx (by omega) fun h _=>h.elim)
theorem Wg.FU(h:Wg f c P)(hl:l.length+(c+1)≤100)(hp:P→Q):post (f l) (Ext l (c+1) Q):=(h l (by omega)).mono fun x hx=>hx.mono (by omega) hp
theorem KP(hl:l.length+1≤100):post (eH (e_ (l++[e]).length 8) (some (l++[e]))) (Ext l 1 Q):=dd (cW (by simp;omega)) (bg.2 (.one (Nat.le_refl 1) trivial))
theorem Yz(hq:Q):post (some l) (Ext l 1 Q):=bg.2 (.nil hq)
end
section
variable {α : Type} {n lo hi : Int} {f : Bool → Option α} {Q : α → Prop}
theorem pG(h:post (f (decide (lo≤n∧n≤hi))) Q):post (aS (cr n lo hi) f) Q:=by
 have:cr n lo hi=some (decide (lo≤n∧n≤hi)):=by
  unfold cr;congr 1;rw[Bool.eq_iff_iff,BK,kP,ui,decide_eq_true_iff]
 rw[this];exact h
theorem I0(h:post (f (decide (lo≤n∧n≤hi))) Q):post (aS (eI n lo hi) f) Q:=pG h
end
theorem BE{E:Type}{B:Int→Option (Int⊕E)}(n:Nat)(R:E→Prop)(P:Nat→Prop)(hn:n<18446744073709551615)
  (step:∀i,i<n→post (B (i:Int)) fun x=>(x=.inl ((i:Int)+1)∧P i)∨∃e,x=.inr e∧R e) (fin:post (B (n:Int)) fun x=>∃e,x=.inr e∧((∀i,i<n→P i)→R e)):post (aK B 0) R:=by
 refine fj (fun i=>∃k:Nat,i=(k:Int)∧k≤n∧∀j,j<k→P j) (fun i=>n-i.toNat) ⟨0,rfl,Nat.zero_le _,by simp⟩ (by simp;omega) ?_
 rintro _ ⟨k,rfl,hk,hP⟩;by_cases h:k<n
 ·refine(step k h).mono ?_
  rintro x (⟨rfl,hp⟩|⟨e,rfl,he⟩)
  ·refine⟨fun s' hs=>?_,fun _ h=>by(cases h)⟩
   cases hs;refine⟨⟨k+1,by simp,by omega,fun j hj=>?_⟩,by simp;omega⟩
   rcases Nat.lt_or_ge j k with h|h
   ·exact hP j h
   ·obtain rfl:j=k:=by omega
    exact hp
  ·exact⟨fun _ h=>(by cases h),fun e' he'=>by cases he';exact he⟩
 ·obtain rfl:k=n:=by omega
  refine fin.mono ?_
  rintro x ⟨e,rfl,he⟩;exact⟨fun _ h=>(by cases h),fun e' he'=>by cases he';exact he hP⟩
structure QbJ (np bL:Nat) (t:ag):Prop where
 yW:0≤t.yW∧t.yW≤10
 aE:0≤t.aE∧t.aE<np
 dE:0≤t.dE∧t.dE<np
 Qm0:1≤bL∧bL≤3
 cap:t.cap.length=bL
 jW:∀i,i<t.cap.length→∀x,t.cap[i]?=some x→0≤x∧x≤1000
 bD:0≤t.bD∧t.bD≤1073741823
 XV:0≤t.bm∧t.bm≤t.bp
 bp:t.bp≤4096
 kC:1≤t.kC∧t.kC≤4096
 rest:0≤t.de∧t.de≤4096
 aj:0≤t.aj∧t.aj≤7
 pK:0≤t.pK∧t.pK≤100000
 ia:0≤t.ia∧t.ia≤100
 ib:0≤t.ib∧t.ib≤100
section
variable {x0 : ag} {n : ak} {l0 : List ag}
abbrev P8(x0:ag):Prop:=(0≤x0.aj∧x0.aj≤7)∧(0≤x0.pK∧x0.pK≤100000)∧(0≤x0.ia∧x0.ia≤100)∧(0≤x0.ib∧x0.ib≤100)
theorem ty8:Wg (iK x0) 1 (P8 x0):=fun l hl=>by
 unfold iK;refine pG (bA (fun h1=>pG (bA (fun h2=>pG (bA (fun h3=>pG (bA (fun h4=>Yz ?_) (fun _=>KP hl))) (fun _=>KP hl))) (fun _=>KP hl))) (fun _=>KP hl))
 exact⟨of_decide_eq_true h1,of_decide_eq_true h2,of_decide_eq_true h3,of_decide_eq_true h4⟩
abbrev P7(x0:ag):Prop:=(1≤x0.kC∧x0.kC≤4096)∧(0≤x0.de∧x0.de≤4096)∧P8 x0
theorem ty7:Wg (iJ x0) 2 (P7 x0):=fun l hl=>by
 unfold iJ;exact pG (bA (fun h1=>pG (bA (fun h2=>ty8.FU hl fun h=>⟨of_decide_eq_true h1,of_decide_eq_true h2,h⟩) (fun _=>ty8.bad hl))) (fun _=>ty8.bad hl))
abbrev P6(x0:ag):Prop:=(0≤x0.bm∧x0.bm≤x0.bp)∧x0.bp≤4096∧P7 x0
theorem ty6:Wg (iI x0) 3 (P6 x0):=fun l hl=>by
 unfold iI;refine pG (bA (fun _=>ty7.bad hl) (fun h1=>ty7.FU hl fun h=>?_))
 simp only[Ql,ntF,nq]at h1;exact⟨of_decide_eq_true h1.1,h1.2,h⟩
abbrev P5(x0:ag):Prop:=(0≤x0.bD∧x0.bD≤1073741823)∧P6 x0
theorem ty5:Wg (iH x0) 4 (P5 x0):=fun l hl=>by
 unfold iH;exact pG (bA (fun h1=>ty6.FU hl fun h=>⟨of_decide_eq_true h1,h⟩) (fun _=>ty6.bad hl))
def eN(l:List ag):Nat:=match l with
 | []=>0
 |t ::_=>t.cap.length
theorem NZ:kJ l0=some (eN l0:Int):=by
 unfold kJ eN;cases l0 with
 |nil=>rfl
 |cons t r =>
  rw[a_ (by simp [aC];omega),show(0:Int)=((0:Nat):Int)from rfl,bt (a:=t) rfl];rfl
abbrev P4(bL:Nat)(x0:ag):Prop:=(1≤bL∧bL≤3)∧x0.cap.length=bL∧(∀i,i<x0.cap.length→∀x,x0.cap[i]?=some x→0≤x∧x≤1000)∧P5 x0
theorem Qfx{c:List Int}{bL:Nat}(hc:c.length≤1048576):post (iC c bL) fun r=>r=true→(1≤bL∧bL≤3)∧c.length=bL∧∀i,i<c.length→∀x,c[i]?=some x→0≤x∧x≤1000:=by
 unfold iC;refine pG (bA (fun _=>bg.2 fun h=>by cases h) (fun h1=>?_))
 simp only[Ql,ntF,J0,aC,decide_eq_true_iff]at h1;have h2:=of_decide_eq_true h1.1;refine b_ (R:=fun e:Unit⊕Bool=>(∃u,e=.inl u∧∀i,i<c.length→∀x,c[i]?=some x→0≤x∧x≤1000)∨e=.inr false) ?_ fun e he=>?_
 ·refine BE (B:=fun s=>dn c s) c.length _ (fun i=>∀x,c[i]?=some x→0≤x∧x≤1000) (by omega) (fun i hi=>?_) ?_
  ·show post (dn c (i:Int)) _;unfold dn;have e1:c[i]?=some c[i]:=List.getElem?_eq_getElem hi;rw[bl (by simp [aC];omega),bt e1,ai,inc hi hc]
   exact pG (bA (fun h=>bg.2 (.inl ⟨rfl,fun x hx=>by rw[e1]at hx;cases hx;exact of_decide_eq_true h⟩)) (fun _=>bg.2 (.inr ⟨_,rfl,.inr rfl⟩)))
  ·show post (dn c (c.length:Int)) _;unfold dn;rw[a_ (by simp [aC])]
   exact bg.2 ⟨_,rfl,fun h=>.inl ⟨_,rfl,h⟩⟩
 ·rcases he with⟨u,rfl,h⟩|rfl
  ·have hd:(1≤bL∧bL≤3)∧c.length=bL:=by omega
   rw[en];exact bg.2 fun _=>⟨hd.1,hd.2,h⟩
  ·rw[q7];exact bg.2 fun h=>by cases h
theorem ty4(hc:x0.cap.length≤1048576):Wg (iG l0 x0) 5 (P4 (eN l0) x0):=fun l hl=>by
 unfold iG;rw[NZ,ai];exact b_ (Qfx hc) fun r hr=>bA (fun h=>ty5.FU hl fun h'=>⟨(hr h).1,(hr h).2.1,(hr h).2.2,h'⟩) (fun _=>ty5.bad hl)
abbrev P3(np bL:Nat)(x0:ag):Prop:=(0≤x0.aE∧x0.aE<np)∧(0≤x0.dE∧x0.dE<np)∧P4 bL x0
theorem ty3(hn:n.aD.length≤1048576)(hc:x0.cap.length≤1048576):Wg (iF n l0 x0) 6 (P3 n.aD.length (eN l0) x0):=fun l hl=>by
 unfold iF;have hs:dZ .i64 (aC n.aD) 1=(n.aD.length:Int)-1:=by unfold aC;exact v9 (by omega) (by omega)
 rw[hs];refine pG (bA (fun h1=>pG (bA (fun h2=>(ty4 hc).FU hl fun h=>⟨?_,?_,h⟩) (fun _=>(ty4 hc).bad hl))) (fun _=>(ty4 hc).bad hl))
 ·have:=of_decide_eq_true h1;omega
 ·have:=of_decide_eq_true h2;omega
theorem ty2(hn:n.aD.length≤1048576)(hc:x0.cap.length≤1048576):Wg (iE n l0 x0) 7 ((0≤x0.yW∧x0.yW≤10)∧P3 n.aD.length (eN l0) x0):=fun l hl=>by
 unfold iE;exact pG (bA (fun h1=>(ty3 hn hc).FU hl fun h=>⟨of_decide_eq_true h1,h⟩) (fun _=>(ty3 hn hc).bad hl))
theorem QaX{i:Nat}{s:ByteArray}(hi:i≤l0.length)(hl:l0.length≤1048576):post (mT l0 (i:Int) s) fun _=>True:=by
 unfold mT;refine b_ (R:=fun _=>True) ?_ fun e _=>by cases e <;> exact bg.2 trivial
 refine BE (B:=fun x=>eC l0 (i:Int) s x) i _ (fun _=>True) (by omega) (fun k hk=>?_) ?_
 ·show post (eC l0 (i:Int) s (k:Int)) _;unfold eC;have e1:l0[k]?=some (l0[k]'(by omega)):=List.getElem?_eq_getElem _
  rw[bl (by simp;omega),bt e1,ai,inc (n:=i) hk (by omega)]
  exact bA (fun _=>bg.2 (.inr ⟨_,rfl,trivial⟩)) (fun _=>bg.2 (.inl ⟨rfl,trivial⟩))
 ·show post (eC l0 (i:Int) s (i:Int)) _;unfold eC;rw[a_ (by simp)]
  exact bg.2 ⟨_,rfl,fun _=>trivial⟩
structure QkO (t:ag):Prop where
 name:t.name.size≤1048576
 cap:t.cap.length≤1048576
theorem Xn(hn:n.aD.length≤1048576)(hl:l0.length≤1048576){i:Nat}(hx:l0[i]?=some x0)(hI:QkO x0):post (jN n l0 (i:Int)) (Ext [] 9 (QbJ n.aD.length (eN l0) x0)):=by
 unfold jN;rw[bt hx,ai];have hi:=(List.getElem?_eq_some_iff.1 hx).1;have h1:Wg (iD n l0 (i:Int) x0) 8 ((0≤x0.yW∧x0.yW≤10)∧P3 n.aD.length (eN l0) x0):=fun l PY=>by
  unfold iD;exact b_ (QaX (by omega) hl) fun r _=>bA (fun _=>(ty2 hn hI.cap).bad PY) (fun _=>(ty2 hn hI.cap).FU PY id)
 refine b_ (KZ _ hI.name) fun r _=>bA (fun _=>h1.FU (by simp) fun h=>?_) (fun _=>h1.bad (l:=[]) (by simp))
 obtain⟨a,⟨b,c,d,e,f,g,⟨h,i,j,k,l,m,o,p⟩⟩⟩:=h;exact⟨a,b,c,d,e,f,g,h,i,j,k,l,m,o,p⟩
theorem Sz{r:List Int}{s:ByteArray}{i:Nat}(hi:i<1048576)(hr:r.length≤100)(out:List aa)(ho:out.length≤209715200){B:List aa×Int→Option ((List aa×Int)⊕(List aa))}
  (hB:∀l3 k,B (l3,k)=br (aT k (aC r)) (aS (bq r k) fun x0=>aS (dh (i:Int)) fun r2=>eH (e_ (l3++[(aa.mk x0 r2)]).length 24) (some (.inl ((l3++[(aa.mk x0 r2)]),(aY .i64 k 1))))) (some (.inr l3))):
  post (aK B (out,0)) (Ext out r.length (r=[])):=by
 refine(uS r.length 1 (fun _=>False) out (by omega) (fun k o hk ho'=>?_) (fun o=>?_)).mono fun x hx=>hx.mono (by omega) fun h=>?_
 ·have e1:r[k]?=some r[k]:=List.getElem?_eq_getElem hk;rw[hB,bl (by simp [aC];exact hk),bt e1,ai,inc hk (by omega)]
  exact b_ (u7 (i:Int) (K0 (by omega))) fun s hs=>dd (cW (by simp;omega)) (G2 rfl (by omega) (Mr (by omega)))
 ·rw[hB,a_ (by simp [aC])]
 ·cases r with
  |nil=>rfl
  |cons y ys=>exact(h 0 (by simp)).elim
theorem Ext.S7{α:Type} [Sm α] {r:List α}{c:Nat}{P:Prop}(h:Ext [] c P r):r.length≤c:=by have:=h.len;simpa using this
theorem NP(hn:n.aD.length≤1048576)(hl:l0.length≤1048576)(hI:∀t∈l0,QkO t):post (k_ n l0) (Ext [] (1+9*l0.length) ((1≤l0.length∧l0.length≤6)∧∀t∈l0,QbJ n.aD.length (eN l0) t)):=by
 have main:∀l1:List aa,l1.length≤1→post (j0 n l0 l1) (Ext l1 (9*l0.length) (∀i,i<l0.length→∀t,l0[i]?=some t→QbJ n.aD.length (eN l0) t)):=by
  intro l1 h1;refine tW ?_
  refine(uS l0.length 9 _ l1 (by omega) (fun i out hi ho=>?_) (fun out=>?_)).mono fun r h=>bg.2 h
  ·show post (fU n l0 out (i:Int)) _;unfold fU;have e1:l0[i]?=some l0[i]:=List.getElem?_eq_getElem hi;rw[bl (by simp [aC];exact hi),inc hi hl]
   refine b_ (Xn hn hl e1 (hI _ (List.getElem_mem hi))) fun r1 XR=>?_
   have:=XR.S7;refine b_ (Sz (i:=i) (s:=ByteArray.empty) (by omega) (by omega) out (by omega) (fun _ _=>rfl)) fun l4 h4=>bg.2 ⟨_,rfl,h4.mono this fun h=>?_⟩
   intro t ht;rw[e1]at ht;cases ht;exact XR.of_nil h
  ·show fU n l0 out (l0.length:Int)=_;unfold fU;rw[a_ (by simp [aC])]
 unfold k_;refine pG (bA (fun h=>(main [] (by simp)).mono fun r hr=>hr.mono (by omega) fun h'=>⟨?_,fun t ht=>?_⟩) (fun h=>dd (cW (by simp)) ((main _ (by simp)).mono fun r hr=>(Ext.one (P:=False) (Nat.le_refl 1) (Mr (s:=ByteArray.empty) (by simp [ByteArray.size_empty]))).trans hr (by omega) fun h _=>h.elim)))
 ·have:=of_decide_eq_true h;simp only[aC]at this;omega
 ·obtain⟨i,hi⟩:=List.getElem?_of_mem ht;exact h' i (List.getElem?_eq_some_iff.1 hi).1 t hi
end
def IQ(np:Nat)(s:aM):Prop:=(s.place=-1∧s.bm=0∧s.bp=0∧s.bz=0)∨(0≤s.place∧s.place<np∧0≤s.bm∧s.bm≤s.bp∧s.bp≤4096∧0≤s.bz∧s.bz≤4096)
structure UI (np bL types:Nat) (o:af):Prop where
 load:o.load.length=bL
 Qn5:∀i,i<o.load.length→∀x,o.load[i]?=some x→0≤x∧x≤1000
 pick:IQ np o.pick
 drop:IQ np o.drop
 one:¬(o.pick.place=-1∧o.drop.place=-1)
 bD:0≤o.bD∧o.bD≤1073741823
 dA:-1≤o.dA∧o.dA≤1000000
 split:1≤o.split∧o.split≤4
 whole:1<o.split→o.pick.place=-1∨o.drop.place=-1
 last:-1≤o.bI∧o.bI<types
 now:-1≤o.now∧o.now<types
section
variable {x0 : af} {types : Nat} {np : Nat} {bL : Nat}
abbrev Q5(types:Nat)(x0:af):Prop:=(-1≤x0.dA∧x0.dA≤1000000)∧(1≤x0.split∧x0.split≤4)∧(1<x0.split→x0.pick.place=-1∨x0.drop.place=-1)∧(-1≤x0.bI∧x0.bI<types)∧(-1≤x0.now∧x0.now<types)
theorem or5:Wg (fz types x0) 1 (Q5 types x0):=fun l hl=>by
 unfold fz;refine I0 (bA (fun h1=>I0 (bA (fun _=>KP hl) (fun h2=>Yz ?_))) (fun _=>KP hl))
 simp only[Ql,T9,ntF,nq,J0,jG,Hk]at h2;have h3:=of_decide_eq_true h1;have h4:=of_decide_eq_true h2.1.1.1.1.1;obtain⟨⟨⟨⟨⟨_,h5⟩,h6⟩,h7⟩,h8⟩,h9⟩:=h2;exact⟨h3,h4,fun h=>by rcases h5 with h5|h5;omega;exact h5,⟨h6,h7⟩,⟨h8,h9⟩⟩
abbrev Q6(types:Nat)(x0:af):Prop:=(0≤x0.bD∧x0.bD≤1073741823)∧Q5 types x0
theorem or6:Wg (dI types x0) 2 (Q6 types x0):=fun l hl=>by
 unfold dI;exact I0 (bA (fun h1=>or5.FU hl fun h=>⟨of_decide_eq_true h1,h⟩) (fun _=>or5.bad hl))
def Qfe(s:aM):Prop:=(s.place=-1∧s.bm=0∧s.bp=0∧s.bz=0)∨(0≤s.place∧0≤s.bm∧s.bm≤s.bp∧s.bp≤4096∧0≤s.bz∧s.bz≤4096)
theorem ZV(s:aM):post (dY s) fun r=>r=0→Qfe s:=by
 unfold dY;refine bA (fun h=>bg.2 fun _=>.inl ?_) (fun _=>bA (fun _=>bg.2 fun h=>absurd h (by decide)) (fun h=>bg.2 fun _=>.inr ?_))
 ·simp only[BK,pJ]at h;exact⟨h.1.1.1,h.1.1.2,h.1.2,h.2⟩
 ·simp only[Ql,jG,nq]at h;omega
abbrev Q4(types:Nat)(x0:af):Prop:=Qfe x0.pick∧Qfe x0.drop∧Q6 types x0
theorem or4:Wg (eX types x0) 3 (Q4 types x0):=fun l hl=>by
 unfold eX;refine b_ (ZV _) fun r4 h4=>bA (fun _=>or6.bad hl) (fun h=>b_ (ZV _) fun r8 h8=>bA (fun _=>or6.bad hl) (fun h'=>or6.FU hl fun h6=>⟨h4 (by simpa using h),h8 (by simpa using h'),h6⟩))
abbrev Q3(types:Nat)(x0:af):Prop:=¬(x0.pick.place=-1∧x0.drop.place=-1)∧Q4 types x0
theorem or3:Wg (dT types x0) 4 (Q3 types x0):=fun l hl=>by
 unfold dT;refine bA (fun _=>or4.bad hl) (fun h=>or4.FU hl fun h'=>⟨?_,h'⟩)
 simp only[T9,xC]at h;omega
abbrev Q2(np types:Nat)(x0:af):Prop:=(-1≤x0.pick.place∧x0.pick.place<np)∧(-1≤x0.drop.place∧x0.drop.place<np)∧Q3 types x0
theorem or2(hn:np≤1048576):Wg (dq np types x0) 5 (Q2 np types x0):=fun l hl=>by
 unfold dq;have hs:dZ .i64 (np:Int) 1=(np:Int)-1:=v9 (by omega) (by omega)
 rw[hs];refine I0 (bA (fun h1=>I0 (bA (fun h2=>or3.FU hl fun h=>⟨?_,?_,h⟩) (fun _=>or3.bad hl))) (fun _=>or3.bad hl))
 ·have:=of_decide_eq_true h1;omega
 ·have:=of_decide_eq_true h2;omega
theorem Xm{c:List Int}(hc:c.length≤1048576):post (k9 c bL) fun r=>r=true→c.length=bL∧∀i,i<c.length→∀x,c[i]?=some x→0≤x∧x≤1000:=by
 unfold k9;refine bA (fun _=>bg.2 fun h=>by cases h) (fun h1=>?_)
 simp only[J0,aC]at h1;have hd:c.length=bL:=by omega
 refine b_ (R:=fun e:Unit⊕Bool=>(∃u,e=.inl u∧∀i,i<c.length→∀x,c[i]?=some x→0≤x∧x≤1000)∨e=.inr false) ?_ fun e he=>?_
 ·refine BE (B:=fun s=>dS c s) c.length _ (fun i=>∀x,c[i]?=some x→0≤x∧x≤1000) (by omega) (fun i hi=>?_) ?_
  ·show post (dS c (i:Int)) _;unfold dS;have e1:c[i]?=some c[i]:=List.getElem?_eq_getElem hi;rw[bl (by simp [aC];omega),bt e1,ai,inc hi hc]
   refine bA (fun _=>bg.2 (.inr ⟨_,rfl,.inr rfl⟩)) (fun h2=>bA (fun _=>bg.2 (.inr ⟨_,rfl,.inr rfl⟩)) (fun h3=>bg.2 (.inl ⟨rfl,fun x hx=>?_⟩)))
   rw[e1]at hx;cases hx;simp only[jG,nq]at h2 h3;exact⟨h2,h3⟩
  ·show post (dS c (c.length:Int)) _;unfold dS;rw[a_ (by simp [aC])]
   exact bg.2 ⟨_,rfl,fun h=>.inl ⟨_,rfl,h⟩⟩
 ·rcases he with⟨u,rfl,h⟩|rfl
  ·rw[en];exact bg.2 fun _=>⟨hd,h⟩
  ·rw[q7];exact bg.2 fun h=>by cases h
structure QkK (o:af):Prop where
 name:o.name.size≤1048576
 load:o.load.length≤1048576
theorem Xo{l:List af}(hn:np≤1048576)(hl:l.length≤1048576){i:Nat}(hx:l[i]?=some x0)(hI:QkK x0):post (fX np bL types l (i:Int)) (Ext [] 9 (UI np bL types x0)):=by
 unfold fX;rw[bt hx,ai];have hi:=(List.getElem?_eq_some_iff.1 hx).1;have hb:Wg (fun l2=>aS (k9 x0.load bL) fun r1=>br r1 (dq np types x0 l2) (eH (e_ (l2++[17]).length 8) (dq np types x0 (l2++[17])))) 6 ((x0.load.length=bL∧∀i,i<x0.load.length→∀x,x0.load[i]?=some x→0≤x∧x≤1000)∧Q2 np types x0):=fun l PY =>
  b_ (Xm hI.load) fun r hr=>bA (fun h=>(or2 hn).FU PY fun h'=>⟨hr h,h'⟩) (fun _=>(or2 hn).bad PY)
 have h1:Wg (fy np bL types l (i:Int) x0) 7 ((x0.load.length=bL∧∀i,i<x0.load.length→∀x,x0.load[i]?=some x→0≤x∧x≤1000)∧Q2 np types x0):=fun l1 PY=>by
  unfold fy;refine b_ (R:=Ext l1 1 True) ?_ fun l2 h2=>?_
  ·refine BE (B:=fun s=>dk np bL types l (i:Int) x0 l1 s) i _ (fun _=>True) (by omega) (fun k hk=>?_) ?_
   ·show post (dk np bL types l (i:Int) x0 l1 (k:Int)) _;unfold dk;have e1:l[k]?=some (l[k]'(by omega)):=List.getElem?_eq_getElem _
    rw[bl (by simp;omega),bt e1,ai,inc (n:=i) hk (by omega)]
    exact bA (fun _=>dd (cW (by simp;omega)) (bg.2 (.inr ⟨_,rfl,.one (Nat.le_refl 1) trivial⟩))) (fun _=>bg.2 (.inl ⟨rfl,trivial⟩))
   ·show post (dk np bL types l (i:Int) x0 l1 (i:Int)) _;unfold dk;rw[a_ (by simp)]
    exact bg.2 ⟨_,rfl,fun _=>.nil trivial⟩
  ·have:=h2.len;exact(hb l2 (by omega)).mono fun r hr=>h2.trans hr (by omega) fun _ h=>h
 refine b_ (KZ _ hI.name) fun r _=>bA (fun _=>(h1.FU (l:=[]) (by simp) fun h=>?_:post _ (Ext [] 8 (UI np bL types x0))).mono fun r hr=>hr.mono (by omega) id) (fun _=>(h1.bad (l:=[]) (by simp):post _ (Ext [] 8 (UI np bL types x0))).mono fun r hr=>hr.mono (by omega) id)
 obtain⟨⟨a,b⟩,⟨c0,c⟩,⟨d0,d⟩,e,f,g,h,⟨i,j,k,m,o⟩⟩:=h;refine⟨a,b,?_,?_,e,h,i,j,k,m,o⟩
 ·rcases f with f|f
  ·exact .inl f
  ·exact .inr ⟨f.1,c,f.2⟩
 ·rcases g with g|g
  ·exact .inl g
  ·exact .inr ⟨g.1,d,g.2⟩
theorem NR{n:ak}{l:List af}(hn:n.aD.length≤1048576)(hl:l.length≤1048576)(hI:∀t∈l,QkK t):post (fJ n bL types l) (Ext [] (1+9*l.length) (l.length≤10∧∀t∈l,UI n.aD.length bL types t)):=by
 have main:∀l1:List aa,l1.length≤1→post (fV n bL types l l1) (Ext l1 (9*l.length) (∀i,i<l.length→∀t,l[i]?=some t→UI n.aD.length bL types t)):=by
  intro l1 h1;refine tW ?_
  refine(uS l.length 9 _ l1 (by omega) (fun i out hi ho=>?_) (fun out=>?_)).mono fun r h=>bg.2 h
  ·show post (eD n bL types l out (i:Int)) _;unfold eD;have e1:l[i]?=some l[i]:=List.getElem?_eq_getElem hi;rw[bl (by simp [aC];exact hi),inc hi hl]
   refine b_ (Xo hn hl e1 (hI _ (List.getElem_mem hi))) fun r1 XR=>?_
   have:=XR.S7;refine b_ (Sz (i:=i) (s:=ByteArray.empty) (by omega) (by omega) out (by omega) (fun _ _=>rfl)) fun l4 h4=>bg.2 ⟨_,rfl,h4.mono this fun h=>?_⟩
   intro t ht;rw[e1]at ht;cases ht;exact XR.of_nil h
  ·show eD n bL types l out (l.length:Int)=_;unfold eD;rw[a_ (by simp [aC])]
 unfold fJ;refine bA (fun h=>dd (cW (by simp)) ((main _ (by simp)).mono fun r hr=>(Ext.one (P:=False) (Nat.le_refl 1) (Mr (s:=ByteArray.empty) (by simp [ByteArray.size_empty]))).trans hr (by omega) fun h _=>h.elim)) (fun h=>(main [] (by simp)).mono fun r hr=>hr.mono (by omega) fun h'=>⟨?_,fun t ht=>?_⟩)
 ·simp only[nq,aC]at h;omega
 ·obtain⟨i,hi⟩:=List.getElem?_of_mem ht;exact h' i (List.getElem?_eq_some_iff.1 hi).1 t hi
end
def PA(ah:Nat)(p:aI):Prop:=0≤p.x0∧p.x0<ah∧0≤p.x1∧p.x1<ah∧p.x0≠p.x1
theorem I5{i:Nat}(hi:i<1048576):post (mV (i:Int)) fun s=>s.size≤21:=by
 unfold mV;refine b_ (R:=fun e=>e.2.size≤20) ?_ fun e he=>dd (by rw[w8];simp;omega) (bg.2 (by rw[kZ,w8];simp;omega))
 refine fj (fun s=>∃m k:Nat,s.1=(m:Int)∧m<1048576∧m<10 ^ k∧s.2.size+k≤20) (fun s=>s.1.toNat) ⟨i,7,rfl,hi,by omega,by simp [ByteArray.size_empty]⟩ (by simp;omega) ?_
 rintro⟨_,s⟩ ⟨m,k,rfl,h0,h1,h2⟩;simp only at h2;show post (mD (m:Int) s) _;unfold mD;refine bA (fun hb=>dd (by rw[w8];simp;omega) (fO ?_)) (fun _=>ef (show s.size≤20 by omega))
 simp only[kP]at hb;have hq:uw .i64 (m:Int) 10=((m / 10:Nat):Int):=by rw[QkC (by omega),Int.tdiv_eq_ediv_of_nonneg (by omega)];omega
 obtain⟨k,rfl⟩:∃j,k=j+1:=⟨k-1,by
  rcases Nat.eq_zero_or_pos k with rfl|h
  ·simp at h1;omega
  ·omega⟩
 rw[hq];refine⟨⟨m / 10,k,rfl,by omega,by rw[Nat.pow_succ]at h1;omega,?_⟩,by simp;omega⟩
 rw[kZ,w8];simp;omega
theorem QU{ah:Nat}{l:List aI}{word:ByteArray}{dB:Bool}(hl:l.length≤1048576)(hw:word.size≤20):post (ki ah l word dB) (Ext [] (1+l.length) (l.length≤16∧∀p∈l,PA ah p)):=by
 have main:∀l1:List aa,l1.length≤1→post (jn ah l word dB l1) (Ext l1 l.length (∀i,i<l.length→∀p,l[i]?=some p→PA ah p)):=by
  intro l1 h1;refine tW ?_
  refine(uS l.length 1 _ l1 (by omega) (fun i out hi ho=>?_) (fun out=>?_)).mono fun r h=>bg.2 (h.mono (by omega) id)
  ·show post (eF ah l word dB out (i:Int)) _;unfold eF;have e1:l[i]?=some l[i]:=List.getElem?_eq_getElem hi;rw[bl (by simp [aC];exact hi),inc hi hl,bt e1,ai]
   have R1:cj.size=1:=rfl;refine dd (by omega) (b_ (I5 (by omega)) fun r hr=>dd (by rw[kZ];omega) ?_)
   have hsm:∀{e:Int},Sm.sm (aa.mk e (cM (cM word cj) r)):=Mr (by rw[kZ,kZ];omega)
   generalize l[i]=p at e1;refine bA (fun _=>dd (cW (by simp;omega)) (G2 rfl (Nat.le_refl 1) hsm)) (fun h=>?_)
   refine b_ (R:=fun _=>True) ?_ fun tw _=>bA (fun _=>dd (cW (by simp;omega)) (G2 rfl (Nat.le_refl 1) hsm)) (fun _=>R7 rfl ?_)
   ·refine fj (fun s=>∃k:Nat,s.2=(k:Int)∧k≤i) (fun s=>i-s.2.toNat) ⟨0,rfl,Nat.zero_le _⟩ (by simp;omega) ?_
    rintro⟨b,_⟩ ⟨k,rfl,hk⟩;show post (fe ah l word dB out (i:Int) p r b (k:Int)) _;unfold fe;refine bA (fun hb=>?_) (fun _=>ef trivial)
    simp only[fS]at hb;have wP:k<i:=by omega
    rw[inc (n:=i) wP (by omega)]
    have leaf:∀b:Bool,post (some (Sum.inl (b,(k:Int)+1):(Bool×Int)⊕Bool)) fun x=>(∀s',x=.inl s'→(∃k:Nat,s'.2=(k:Int)∧k≤i)∧i-s'.2.toNat<i-((b,(k:Int)):Bool×Int).2.toNat)∧∀e,x=.inr e→True:=
     fun b=>fO ⟨⟨k+1,by simp,by omega⟩,by simp;omega⟩
    refine bA (fun _=>leaf _) (fun _=>?_)
    have e2:l[k]?=some (l[k]'(by omega)):=List.getElem?_eq_getElem _
    rw[bt e2,ai];exact bA (fun _=>bA (fun _=>leaf _) (fun _=>bA (fun _=>bA (fun _=>leaf _) (fun _=>leaf _)) (fun _=>leaf _))) (fun _=>bA (fun _=>bA (fun _=>leaf _) (fun _=>leaf _)) (fun _=>leaf _))
   ·intro q hq;rw[e1]at hq;cases hq;simp only[Ql,jG,Hk,xC]at h;exact⟨h.1.1.1.1,h.1.1.1.2,h.1.1.2,h.1.2,h.2⟩
  ·show eF ah l word dB out (l.length:Int)=_;unfold eF;rw[a_ (by simp [aC])]
 unfold ki;refine bA (fun h=>dd (cW (by simp)) ((main _ (by simp)).mono fun r hr=>(Ext.one (P:=False) (Nat.le_refl 1) (Mr (by omega))).trans hr (by omega) fun h _=>h.elim)) (fun h=>(main [] (by simp)).mono fun r hr=>hr.mono (by omega) fun h'=>⟨?_,fun t ht=>?_⟩)
 ·simp only[nq,aC]at h;omega
 ·obtain⟨i,hi⟩:=List.getElem?_of_mem ht;exact h' i (List.getElem?_eq_some_iff.1 hi).1 t hi
theorem tf{word:ByteArray}{r:List aa}(hw:word.size≤20)(hr:r.length≤5000000000000)(hs:∀f∈r,Sm.sm f):post (jO word r) fun x=>x.length=r.length:=by
 refine tW ?_
 refine fj (fun s=>∃k:Nat,s.2=(k:Int)∧k≤r.length∧s.1.length=k) (fun s=>r.length-s.2.toNat) ⟨0,rfl,Nat.zero_le _,rfl⟩ (by simp;omega) ?_
 rintro⟨out,_⟩ ⟨k,rfl,hk,hl⟩;show post (n_ word r out (k:Int)) _;unfold n_ n9;refine bA (fun hb=>?_) (fun hb=>ef (bg.2 ?_))
 ·simp only[fS,aC]at hb;simp only at hl;have wP:k<r.length:=by omega
  have e1:r[k]?=some r[k]:=List.getElem?_eq_getElem wP;have hsk:(r[k]).di.size≤64:=hs _ (List.getElem_mem wP);have qf:aY .i64 (k:Int) 1=(k:Int)+1:=ig (by omega) (by omega)
  have R1:cj.size=1:=rfl;rw[bt e1,ai,ai,qf];have leaf:∀f:aa,post (eH (e_ (out++[f]).length 24) (some (Sum.inl (out++[f],(k:Int)+1):(List aa×Int)⊕(List aa)))) fun x=>(∀s',x=.inl s'→(∃k:Nat,s'.2=(k:Int)∧k≤r.length∧s'.1.length=k)∧r.length-s'.2.toNat<r.length-((out,(k:Int)):List aa×Int).2.toNat)∧∀e,x=.inr e→post (some e) fun x=>x.length=r.length:=
   fun f=>dd (cW (by simp;omega)) (fO ⟨⟨k+1,by simp,by omega,by simp;omega⟩,by simp;omega⟩)
  exact bA (fun _=>leaf _) (fun _=>dd (by omega) (dd (by rw[kZ];omega) (leaf _)))
 ·simp only[jG,aC]at hb;simp only at hl;omega
structure BI (x:ae):Prop where
 bG:Mw x.bG
 types:x.types.length≤1048576
 ah:x.ah.length≤1048576
 db:x.db.length≤1048576
 before:x.before.length≤1048576
 Qhn:∀t∈x.types,QkO t
 QgZ:∀t∈x.ah,QkK t
structure cD (x:ae):Prop where
 bG:tj x.bG
 Qho:1≤x.types.length
 types:x.types.length≤6
 Sa:∀t∈x.types,QbJ x.bG.aD.length (eN x.types) t
 ah:x.ah.length≤10
 ord:∀o∈x.ah,UI x.bG.aD.length (eN x.types) x.types.length o
 db:x.db.length≤16
 Qai:∀p∈x.db,PA x.ah.length p
 before:x.before.length≤16
 KM:∀p∈x.before,PA x.ah.length p
theorem NS{x:ae}(hI:BI x):post (dg x) fun r=>r=[]→cD x:=by
 have h1:=hI.types;have h2:=hI.ah;have h3:=hI.db;have h4:=hI.before;have h5:=hI.bG.bj;unfold dg;refine b_ (zE (n:=x.bG) hI.bG) fun r hr=>?_
 have l1:=hr.S7;refine b_ (tf (show 3≤20 by omega) (by omega) hr.sms:post (gh p5 r) _) fun r1 XR=>?_
 refine b_ (NP (n:=x.bG) hI.bG.aD h1 hI.Qhn) fun r2 hr2=>?_
 have l2:=hr2.S7;refine b_ (tf (show 5≤20 by omega) (by omega) hr2.sms) fun r3 hr3=>dd (cW (by simp;omega)) ?_
 rw[NZ,ai];refine b_ (NR (n:=x.bG) (types:=x.types.length) hI.bG.aD h2 hI.QgZ) fun r5 hr5=>?_
 have l5:=hr5.S7;refine b_ (tf (show 6≤20 by omega) (by omega) hr5.sms) fun r6 hr6=>dd (cW (by simp;omega)) ?_
 have hC:post (ld (aC x.ah) x.db x.before) fun r=>r.length≤2+x.db.length+x.before.length∧(∀f∈r,Sm.sm f)∧(r=[]→(x.db.length≤16∧∀p∈x.db,PA x.ah.length p)∧(x.before.length≤16∧∀p∈x.before,PA x.ah.length p)):=by
  unfold ld;refine b_ (QU (ah:=x.ah.length) (word:=G5) (dB:=true) h3 (show 5≤20 by omega)) fun a ha=>b_ (QU (ah:=x.ah.length) (word:=El) (dB:=false) h4 (show 6≤20 by omega)) fun b hb=>?_
  have la:=ha.S7;have lb:=hb.S7;refine dd (cW (by simp;omega)) (bg.2 ⟨by simp;omega,fun f hf=>?_,fun h=>?_⟩)
  ·rcases List.mem_append.1 hf with h|h
   ·exact ha.sms f h
   ·exact hb.sms f h
  ·rw[List.append_eq_nil_iff]at h;exact⟨ha.of_nil h.1,hb.of_nil h.2⟩
 refine b_ hC fun r7 ⟨l7,s7,c7⟩=>b_ (tf (show 5≤20 by omega) (by omega) s7) fun r8 hr8=>dd (cW (by simp;omega)) (bg.2 fun h=>?_)
 simp only[List.append_eq_nil_iff]at h;obtain⟨⟨⟨e1,e3⟩,e6⟩,e8⟩:=h;have nil:∀{a b:List aa},a.length=b.length→a=[]→b=[]:=fun h h'=>List.length_eq_zero_iff.1 (by rw[←h,h'];rfl)
 obtain⟨⟨t1,t2⟩,t3⟩:=hr2.of_nil (nil hr3 e3);obtain⟨o1,o2⟩:=hr5.of_nil (nil hr6 e6);obtain⟨⟨a1,a2⟩,⟨b1,b2⟩⟩:=c7 (nil hr8 e8);exact⟨hr.of_nil (nil XR e1),t1,t2,t3,o1,o2,a1,a2,b1,b2⟩
def Mu:aM:=aM.mk 0 0 0 0
def Qhy:ag:=ag.mk ByteArray.empty 0 0 0 [] 0 0 0 0 0 0 0 0 0
def Qhx:bw:=bw.mk (ae.mk (ak.mk [] []) [] [] [] []) Qhy (ay.mk 0 0 [] []) []
def ud:aQ:=aQ.mk false 0 [] 0 0
def XJ:au:=au.mk 0 0 ud
def atS(v:ab)(o:af):aM:=if v.drop=true then o.drop else o.pick
theorem Si{v:ab}{o:af}(h:v.drop=true):atS v o=o.drop:=if_pos h
theorem Sh{v:ab}{o:af}(h:v.drop=false):atS v o=o.pick:=if_neg (by rw[h];decide)
def qj(x:ae)(v:ab):Option aM:=
 match(if 0≤v.aL then x.ah[v.aL.toNat]? else none)with
 |none=>none
 |some o=>if 0≤(atS v o).place then some (atS v o)else none
def RE(x:ae)(r:ay):Bool:=decide (0≤r.aR∧r.aR<x.types.length∧0≤r.aH∧r.aH≤4096∧r.ar.length≤20)
def rq(x:ae)(r:ay):Bool:=RE x r&&r.ar.all fun v=>(qj x v).isSome
def bh(x:ae)(r:ay):List aM:=r.ar.map fun v=>(qj x v).getD Mu
def bU(x:ae)(r:ay):ag:=x.types.getD r.aR.toNat Qhy
structure mM (r:ay):Prop where
 aR:wh r.aR
 aH:wh r.aH
 aP:r.aP.length≤1048576
 ar:r.ar.length≤1048576
section
variable {x : ae} {r : ay}
theorem QkA:(((((aT r.aR 0)||(bZ r.aR (aC x.types)))||(aT r.aH 0))||(cQ r.aH 4096))||(cQ (aC r.ar) 20))=!RE x r:=by
 unfold RE aC;rw[Bool.eq_iff_iff];simp only[XX,ntT,fS,kP,qi,decide_eq_false_iff_not];omega
theorem TQ(hx:cD x){v:ab}{s:aM}(h:qj x v=some s):0≤s.place∧s.place<x.bG.aD.length∧0≤s.bm∧s.bm≤s.bp∧s.bp≤4096∧0≤s.bz∧s.bz≤4096:=by
 unfold qj at h;split at h
 ·cases h
 ·rename_i o ho;split at ho
  ·have hm:=List.mem_of_getElem? ho;have hO:=hx.ord o hm;split at h
   ·rename_i h0;cases h;cases hd:v.drop with
    |true =>
     rw[Si hd]at h0 ⊢;rcases hO.drop with h1|h1
     ·omega
     ·exact h1
    |false =>
     rw[Sh hd]at h0 ⊢;rcases hO.pick with h1|h1
     ·omega
     ·exact h1
   ·cases h
  ·cases ho
theorem Mn(v:ab):zB x.ah v=some (match qj x v with
  |some s=>(s,0)
  |none=>(Mu,if 0≤v.aL∧v.aL<x.ah.length then 19 else 2)):=by
 unfold zB xl wq qj;rw[ai];by_cases h:0≤v.aL∧v.aL<x.ah.length
 ·rw[bl (by simp only[BK,kP,fS,aC];exact h),Dg h.1 h.2,ai,if_pos h.1,List.getElem?_eq_getElem (by omega),if_pos h]
  generalize x.ah[v.aL.toNat]'(by omega)=o
  cases hd:v.drop with
  |true =>
   rw[dc];simp only[Si hd,NK,fS];by_cases hp:o.drop.place<0
   ·rw[if_pos hp,if_neg (by omega)];rfl
   ·rw[if_neg hp,if_pos (by omega)]
  |false =>
   rw[cL];simp only[Sh hd,NK,fS];by_cases hp:o.pick.place<0
   ·rw[if_pos hp,if_neg (by omega)];rfl
   ·rw[if_neg hp,if_pos (by omega)]
 ·rw[a_ (by simp only[T9,Hk,jG,aC];omega),if_neg h]
  by_cases h0:0≤v.aL
  ·rw[if_pos h0,List.getElem?_eq_none (by omega)];rfl
  ·rw[if_neg h0];rfl
theorem Re(v:ab):kL x v=some (match qj x v with
  |some s=>(s,true)
  |none=>((if 0≤v.aL then match x.ah[v.aL.toNat]? with|some o=>atS v o|none=>Mu else Mu),false)):=by
 unfold kL qj;by_cases h:0≤v.aL∧v.aL<x.ah.length
 ·rw[a_ (by simp only[Ql,jG,Hk,aC];exact h),Dg h.1 h.2,ai,if_pos h.1,if_pos h.1,List.getElem?_eq_getElem (by omega)]
  generalize x.ah[v.aL.toNat]'(by omega)=o
  cases hd:v.drop with
  |true =>
   rw[dc];simp only[Si hd];by_cases hp:0≤o.drop.place
   ·rw[if_pos hp,show bZ o.drop.place 0=true by simpa using hp]
   ·rw[if_neg hp,show bZ o.drop.place 0=false by simpa using hp]
  |false =>
   rw[cL];simp only[Sh hd];by_cases hp:0≤o.pick.place
   ·rw[if_pos hp,show bZ o.pick.place 0=true by simpa using hp]
   ·rw[if_neg hp,show bZ o.pick.place 0=false by simpa using hp]
 ·rw[bl (by simp only[XX,fS,kP,aC];omega)]
  by_cases h0:0≤v.aL
  ·rw[if_pos h0,if_pos h0,List.getElem?_eq_none (by omega)];rfl
  ·rw[if_neg h0,if_neg h0];rfl
theorem X7{α:Type}{p:α→Bool}{l:List α}{k:Nat}{a:α}(ha:l[k]?=some a)(hp:p a=false):l.all p=false:=by
 rw[List.all_eq_false];exact⟨a,List.mem_of_getElem? ha,by simp [hp]⟩
theorem QcP:iS x r=some (rq x r):=by
 unfold iS;rw[QkA];unfold rq;by_cases h:RE x r=true
 ·have h5:r.ar.length≤20:=(of_decide_eq_true h).2.2.2.2;rw[h,Bool.not_true,cL,Bool.true_and];apply post.eq;refine b_ (R:=fun e:Unit⊕Bool=>(∃u,e=.inl u∧(r.ar.all fun v=>(qj x v).isSome)=true)∨(e=.inr false∧(r.ar.all fun v=>(qj x v).isSome)=false)) ?_ ?_
  ·refine BE (B:=fun s=>gj x r s) r.ar.length _ (fun i=>∀v,r.ar[i]?=some v→(qj x v).isSome=true) (by omega) (fun i hi=>?_) ?_
   ·show post (gj x r (i:Int)) _;unfold gj;have e1:r.ar[i]?=some r.ar[i]:=List.getElem?_eq_getElem hi;rw[bl (by simp [aC];omega),bt e1,ai,inc hi (by omega)]
    show post (aS (kL x r.ar[i]) _) _;rw[Re,ai];cases hs:qj x r.ar[i]with
    |some s=>exact bg.2 (.inl ⟨rfl,fun v hv=>by rw[e1]at hv;cases hv;rw[hs];rfl⟩)
    |none=>exact bg.2 (.inr ⟨_,rfl,.inr ⟨rfl,X7 e1 (by rw[hs];rfl)⟩⟩)
   ·show post (gj x r (r.ar.length:Int)) _;unfold gj;rw[a_ (by simp [aC])]
    refine bg.2 ⟨_,rfl,fun h=>.inl ⟨_,rfl,?_⟩⟩
    rw[List.all_eq_true];intro v hv;obtain⟨i,hi⟩:=List.getElem?_of_mem hv;exact h i (List.getElem?_eq_some_iff.1 hi).1 v hi
  ·rintro e (⟨u,rfl,h⟩|⟨rfl,h⟩)
   ·rw[en,h];exact bg.2 rfl
   ·rw[q7,h];exact bg.2 rfl
 ·have h':RE x r=false:=by simpa using h
  rw[h',Bool.not_false,dc,Bool.false_and]
theorem Sb(h:RE x r=true):bq x.types r.aR=some (bU x r)∧bU x r∈x.types:=by
 have h5:=of_decide_eq_true h;unfold bU;rw[List.getD_eq_getElem?_getD,List.getElem?_eq_getElem (by omega),Dg h5.1 h5.2.1]
 exact⟨rfl,List.getElem_mem _⟩
theorem Qjg:zq x r=some (if rq x r=true then(bw.mk x (bU x r) r (bh x r),true)else(Qhx,false)):=by
 unfold zq;rw[QkA];unfold rq;by_cases h:RE x r=true
 ·have h5:r.ar.length≤20:=(of_decide_eq_true h).2.2.2.2;rw[h,Bool.not_true,cL,Bool.true_and,(Sb h).1,ai];apply post.eq;refine b_ (R:=fun e:List aM⊕(bw×Bool)=>(e=.inl (bh x r)∧(r.ar.all fun v=>(qj x v).isSome)=true)∨(e=.inr (Qhx,false)∧(r.ar.all fun v=>(qj x v).isSome)=false)) ?_ ?_
  ·refine fj (fun s=>∃k:Nat,k≤r.ar.length∧s=((r.ar.take k).map (fun v=>(qj x v).getD Mu),(k:Int))∧∀i v,i<k→r.ar[i]?=some v→(qj x v).isSome=true) (fun s=>r.ar.length-s.2.toNat) ⟨0,Nat.zero_le _,rfl,fun i v hi=>by omega⟩ (by simp;omega) ?_
   rintro _ ⟨k,hk,rfl,hS⟩;show post (wb x r (bU x r) _ (k:Int)) _;unfold wb;refine bA (fun hb=>?_) (fun hb=>ef (.inl ⟨?_,?_⟩))
   ·simp only[fS,aC]at hb;have wP:k<r.ar.length:=by omega
    have e1:r.ar[k]?=some r.ar[k]:=List.getElem?_eq_getElem wP;rw[bt e1,ai,Mn,ai,inc wP (by omega)]
    cases hs:qj x r.ar[k]with
    |none =>
     simp only;rw[bl (by simp only[XX,wk];left;split <;> omega)]
     exact ef (.inr ⟨rfl,X7 e1 (by rw[hs];rfl)⟩)
    |some s =>
     simp only;have hp:0≤s.place:=by
      unfold qj at hs;split at hs
      ·cases hs
      ·split at hs
       ·rename_i h0;cases hs;exact h0
       ·cases hs
     rw[a_ (by simp only[Ql,J0,jG];exact⟨trivial,hp⟩)]
     refine dd (cW (by simp;omega)) (fO ⟨⟨k+1,by omega,?_,fun i v hi hv=>?_⟩,by simp;omega⟩)
     ·rw[List.take_add_one,e1,List.map_append];simp [hs]
     ·rcases Nat.lt_or_ge i k with h|h
      ·exact hS i v h hv
      ·obtain rfl:i=k:=by omega
       rw[e1]at hv;cases hv;rw[hs];rfl
   ·simp only[jG,aC]at hb;rw[List.take_of_length_le (by omega)];rfl
   ·simp only[jG,aC]at hb;rw[List.all_eq_true];intro v hv;obtain⟨i,hi⟩:=List.getElem?_of_mem hv;exact hS i v (by have:=(List.getElem?_eq_some_iff.1 hi).1;omega) hi
  ·rintro e (⟨rfl,h⟩|⟨rfl,h⟩)
   ·rw[en,h];exact bg.2 rfl
   ·rw[q7,h];exact bg.2 rfl
 ·have h':RE x r=false:=by simpa using h
  rw[h',Bool.not_false,dc,Bool.false_and];rfl
theorem wx(h:rq x r=true):RE x r=true:=by unfold rq at h;exact(BK.1 h).1
theorem tX:(bh x r).length=r.ar.length:=by simp [bh]
theorem KD(h:rq x r=true){i:Nat}{s:aM}(hs:(bh x r)[i]?=some s):∃v,r.ar[i]?=some v∧qj x v=some s:=by
 unfold bh at hs;rw[List.getElem?_map]at hs;cases hv:r.ar[i]? with
 |none=>rw[hv]at hs;cases hs
 |some v =>
  rw[hv]at hs;have h2:=List.all_eq_true.1 (BK.1 h).2 v (List.mem_of_getElem? hv);obtain⟨s',jC⟩:=Option.isSome_iff_exists.1 h2;refine⟨v,rfl,?_⟩;simp only[Option.map_some,jC,Option.getD_some]at hs;rw[←hs];exact jC
end
theorem Jg{n:ak}(h:tj n){aj a b t:Int}(ht:NA t)(h0:(goN n aj a b t).2.2=0):t≤(goN n aj a b t).1∧(goN n aj a b t).1≤t+73728∧0≤(goN n aj a b t).2.1∧(goN n aj a b t).2.1≤10000:=by
 unfold goN at h0 ⊢;split at h0
 ·rename_i h1;rw[if_pos h1];split at h0
  ·rename_i h2;rw[if_pos h2];exact⟨Int.le_refl _,by simp only;omega,by simp,by simp⟩
  ·rename_i h2;rw[if_neg h2];split at h0
   ·rename_i h3;rw[if_pos h3];have ha:=h.all _ (Bx h3).1;exact⟨NG ha t,QbO ha ht.1,ha.Qe,ha.Qf⟩
   ·simp at h0
 ·simp at h0
theorem QfS{n:ak}(h:tj n){aj a b t t':Int}(ht:t≤t')(h0:(goN n aj a b t).2.2=0):(goN n aj a b t').2.2=0∧(goN n aj a b t).1≤(goN n aj a b t').1∧(goN n aj a b t').2.1=(goN n aj a b t).2.1:=by
 unfold goN at h0 ⊢;split at h0
 ·rename_i h1;rw[if_pos h1,if_pos h1];split at h0
  ·rename_i h2;rw[if_pos h2,if_pos h2];exact⟨rfl,ht,rfl⟩
  ·rename_i h2;rw[if_neg h2,if_neg h2];split at h0
   ·rename_i h3;rw[if_pos h3,if_pos h3];exact⟨rfl,PB (h.all _ (Bx h3).1) ht,rfl⟩
   ·simp at h0
 ·simp at h0
theorem Qim{n:ak}{aj a b t t':Int}:(goN n aj a b t).2.2=(goN n aj a b t').2.2:=by
 unfold goN;split
 ·split
  ·rfl
  ·split <;> rfl
 ·rfl
structure SOK (s:aM):Prop where
 VL:0≤s.bm
 Th:s.bm≤s.bp
 bp:s.bp≤4096
 TF:0≤s.bz
 ZE:s.bz≤4096
def Uj(t:ag):aM:=aM.mk t.dE 0 t.bp 0
section
variable (n : ak) (t : ag) (aG : List aM)
def fD:Nat→Int
 |0=>t.aE
 |k+1=>(aG.getD k Mu).place
def cV(k:Nat):aM:=aG.getD k (Uj t)
def patch(ts:List aX)(i:Nat)(dep:Int)(rest:Bool):List aX:=match ts[i]? with
 |some m=>ts.set i (aX.mk m.jK m.uB dep rest)
 |none=>ts
def jh(l:au)(rest:Bool):Int:=l.ready+(if rest=true then t.de else 0)
def uY(l:au)(rest:Bool):Int:=if rest=true then 0 else l.gw
def w4(l:au)(k:Nat)(dep:Int)(rest:Bool):List aX:=if k=0 then l.dD.je else patch l.dD.je (k-1) dep rest
def shS(l:au)(k:Nat)(rest:Bool)(dep:Int)(g:Int×Int×Int):aQ:=
 aQ.mk (if k=0 then rest else l.dD.de) (if k=0 then dep else l.dD.cF)
  (if k<aG.length then w4 l k dep rest++[aX.mk g.1 (max g.1 (cV t aG k).bm) 0 false]else w4 l k dep rest)
  (if k<aG.length then l.dD.lE else g.1) (l.dD.cT+g.2.1)
def W4(l:au)(k:Nat)(rest:Bool)(dep sn:Int):au×Int:=
 if(goN n t.aj (fD t aG k) (cV t aG k).place dep).2.2≠0 then(XJ,12)
 else if(cV t aG k).bp<(goN n t.aj (fD t aG k) (cV t aG k).place dep).1 then(XJ,if k<aG.length then 14 else 15)
 else if t.kC<sn+(goN n t.aj (fD t aG k) (cV t aG k).place dep).1-dep then(XJ,16)
 else(au.mk (max (goN n t.aj (fD t aG k) (cV t aG k).place dep).1 (cV t aG k).bm+(cV t aG k).bz) (sn+(goN n t.aj (fD t aG k) (cV t aG k).place dep).1-dep)
  (shS t aG l k rest dep (goN n t.aj (fD t aG k) (cV t aG k).place dep)),0)
def wI(l:au)(k:Nat)(rest:Bool):au×Int:=W4 n t aG l k rest (jh t l rest) (uY l rest)
end
structure Ew (k:Nat) (l:au):Prop where
 Tt:0≤l.ready
 Xg:l.ready≤8192
 Xu:0≤l.gw
 Qbo:l.gw≤4096
 Qe:0≤l.dD.cT
 Qf:l.dD.cT≤10000*k
 je:l.dD.je.length=k
structure qk (n:ak) (t:ag) (aG:List aM):Prop where
 bG:tj n
 XV:0≤t.bm∧t.bm≤t.bp
 bp:t.bp≤4096
 kC:1≤t.kC∧t.kC≤4096
 rest:0≤t.de∧t.de≤4096
 few:aG.length≤20
 aG:∀s∈aG,SOK s
theorem TU{x:ae}{r:ay}(hx:cD x)(h:rq x r=true):qk x.bG (bU x r) (bh x r):=by
 have hT:=hx.Sa _ (Sb (wx h)).2;refine⟨hx.bG,hT.XV,hT.bp,hT.kC,hT.rest,by rw[tX];exact(of_decide_eq_true (wx h)).2.2.2.2,fun s hs=>?_⟩
 obtain⟨i,hi⟩:=List.getElem?_of_mem hs;obtain⟨v,_,hv⟩:=KD h hi;have:=TQ hx hv;exact⟨this.2.2.1,this.2.2.2.1,this.2.2.2.2.1,this.2.2.2.2.2.1,this.2.2.2.2.2.2⟩
section
variable {n : ak} {t : ag} {aG : List aM} {l : au} {k : Nat} {rest : Bool} {dep sn : Int}
theorem qk.cV(h:qk n t aG)(k:Nat):SOK (cV t aG k):=by
 unfold Go.Proofs.YtbilkblifgaflaaGreatDoor.cV;rw[List.getD_eq_getElem?_getD];cases hs:aG[k]? with
 |some s=>exact h.aG s (List.mem_of_getElem? hs)
 |none=>exact⟨Int.le_refl _,by have:=h.XV;show 0≤t.bp;omega,h.bp,Int.le_refl _,by show(0:Int)≤4096;omega⟩
theorem Aq(h:k<aG.length):aG[k]?=some (cV t aG k):=by
 unfold cV;rw[List.getD_eq_getElem?_getD,List.getElem?_eq_getElem h];rfl
theorem vA(h:¬k<aG.length):cV t aG k=Uj t:=by
 unfold cV;rw[List.getD_eq_getElem?_getD,List.getElem?_eq_none (by omega)];rfl
theorem Qej{ts:List aX}{i:Nat}:(patch ts i dep rest).length=ts.length:=by unfold patch;split <;> simp
theorem CE:(w4 l k dep rest).length=l.dD.je.length:=by unfold w4;split;rfl;exact Qej
theorem Qfz{ts:List aX}(h:ts.length≤1000):ft ts=some ts:=by
 unfold ft;rw[ch (cW (by omega))]
 cases ts with
 |nil=>exact Qfk
 |cons a r=>rfl
theorem QjU{p:bw}(hp:p.t.kC≤4096){Mp:Bool}{Uh:Int}{g:Int×Int×Int}{ts:List aX}{ready fin:Int}(hd:0≤dep∧dep≤20000)(hs:0≤sn∧sn≤4096)(hg:dep≤g.1∧g.1≤dep+73728∧0≤g.2.1∧g.2.1≤10000)
  (hm:0≤l.dD.cT∧l.dD.cT≤1000000):mQ p l dep sn Mp Uh g ts ready fin=some (if p.t.kC<sn+g.1-dep then(XJ,16)else(au.mk ready (sn+g.1-dep) (aQ.mk Mp Uh ts fin (l.dD.cT+g.2.1)),0)):=by
 unfold mQ;simp(disch:=omega) only[ig,v9,NK,qi];split <;> rfl
theorem QjT{p:bw}(h:qk p.x.bG p.t p.aG)(hl:Ew k l)(hk:k≤p.aG.length)(hd:0≤dep∧dep≤20000)(hs:0≤sn∧sn≤4096):mO p l k rest dep sn=some (W4 p.x.bG p.t p.aG l k rest dep sn):=by
 have QpL:=h.few;have hlen:=hl.je;have hm0:=hl.Qe;have hm1:=hl.Qf;have ry:NA dep:=⟨hd.1,by omega⟩
 have hSO:=h.cV k
 -- J3,Qhv is written QtV V7 dD
 have h3:∀(Mp:Bool) (Uh:Int) (ts:List aX),ts.length=k→
   kT p l k dep sn ts Mp Uh (cV p.t p.aG k).place=some
    (if(goN p.x.bG p.t.aj (fD p.t p.aG k) (cV p.t p.aG k).place dep).2.2≠0 then(XJ,12)
    else if(cV p.t p.aG k).bp<(goN p.x.bG p.t.aj (fD p.t p.aG k) (cV p.t p.aG k).place dep).1 then(XJ,if k<p.aG.length then 14 else 15)
    else if p.t.kC<sn+(goN p.x.bG p.t.aj (fD p.t p.aG k) (cV p.t p.aG k).place dep).1-dep then(XJ,16)
    else(au.mk (max (goN p.x.bG p.t.aj (fD p.t p.aG k) (cV p.t p.aG k).place dep).1 (cV p.t p.aG k).bm+(cV p.t p.aG k).bz) (sn+(goN p.x.bG p.t.aj (fD p.t p.aG k) (cV p.t p.aG k).place dep).1-dep)
     (aQ.mk Mp Uh (if k<p.aG.length then ts++[aX.mk (goN p.x.bG p.t.aj (fD p.t p.aG k) (cV p.t p.aG k).place dep).1 (max (goN p.x.bG p.t.aj (fD p.t p.aG k) (cV p.t p.aG k).place dep).1 (cV p.t p.aG k).bm) 0 false] else ts)
      (if k<p.aG.length then l.dD.lE else(goN p.x.bG p.t.aj (fD p.t p.aG k) (cV p.t p.aG k).place dep).1) (l.dD.cT+(goN p.x.bG p.t.aj (fD p.t p.aG k) (cV p.t p.aG k).place dep).2.1)),0)):=by
  intro Mp Uh ts hts;unfold kT;have QaP:pb p (k:Int)=some (fD p.t p.aG k):=by
   unfold pb fD;cases k with
   |zero=>rfl
   |succ j =>
    have e1:p.aG[j]?=some (p.aG[j]'(by omega)):=List.getElem?_eq_getElem _
    rw[a_ (by simp;omega),show dZ .i64 ((j+1:Nat):Int) 1=(j:Int) by rw[v9 (by omega) (by omega)];omega,bt e1,ai]
    simp only[List.getD_eq_getElem?_getD,e1];rfl
  show aS (pb p (k:Int)) (fun r1=>aS (uQ p.x.bG p.t.aj r1 (cV p.t p.aG k).place dep) _)=_
  rw[QaP,ai,go_eq h.bG _ _ _ ry,ai];generalize hg:goN p.x.bG p.t.aj (fD p.t p.aG k) (cV p.t p.aG k).place dep=g;have hbd:g.2.2=0→dep≤g.1∧g.1≤dep+73728∧0≤g.2.1∧g.2.1≤10000:=fun h0=>by
   have:=Jg h.bG (aj:=p.t.aj) (a:=fD p.t p.aG k) (b:=(cV p.t p.aG k).place) ry (by rw[hg];exact h0)
   rwa [hg]at this
  by_cases h0:g.2.2=0
  ·rw[a_ (by simpa using h0),if_neg (by simpa using h0)]
   have hb:=hbd h0;by_cases XQ:k<p.aG.length
   ·have e1:=Aq (t:=p.t) XQ;rw[a_ (by simp [aC];omega),bt e1,ai]
    generalize cV p.t p.aG k=s at *;simp only[if_pos XQ];unfold vD;rw[Bn];by_cases hw:s.bp<g.1
    ·rw[bl (by have:=hSO.Th;simp;omega),ai,bl (by decide),if_pos hw];rfl
    ·have:=hSO.Th;have:=hSO.bp;have:=hSO.TF;have:=hSO.ZE;have:=hSO.VL;rw[a_ (by simp;omega),ai,a_ (by simp [cA]),ch (cW (by simp;omega)),if_neg hw,QjU (by have:=h.kC;omega) hd hs hb ⟨hm0,by omega⟩]
     rw[ig (by omega) (by omega)]
   ·have e1:=vA (t:=p.t) XQ;rw[e1]at hSO hg ⊢;rw[bl (by simp [aC];omega)]
    simp only[if_neg XQ];by_cases hw:p.t.bp<g.1
    ·rw[bl (by simpa using hw),if_pos (show(Uj p.t).bp<g.1 from hw)];rfl
    ·rw[a_ (by simpa using hw),if_neg (show ¬(Uj p.t).bp<g.1 from hw),QjU (by have:=h.kC;omega) hd hs hb ⟨hm0,by omega⟩]
     have e2:max g.1 (Uj p.t).bm+(Uj p.t).bz=g.1:=by show max g.1 0+0=g.1;omega
     rw[e2]
  ·rw[bl (by simpa using h0),if_pos h0];rfl
 have h2:∀(Mp:Bool) (Uh:Int) (ts:List aX),ts.length=k→
   mP p l k dep sn ts Mp Uh=kT p l k dep sn ts Mp Uh (cV p.t p.aG k).place:=by
  intro Mp Uh ts hts;unfold mP;by_cases XQ:k<p.aG.length
  ·rw[a_ (by simp [aC];omega),bt (Aq (t:=p.t) XQ),ai]
  ·rw[bl (by simp [aC];omega),vA XQ];rfl
 unfold mO;rw[Qfz (by omega),ai]
 unfold W4 shS;cases k with
 |zero =>
  rw[bl (by simp),h2 _ _ _ hlen,h3 _ _ _ hlen]
  rfl
 |succ j =>
  have e1:l.dD.je[j]?=some (l.dD.je[j]'(by omega)):=List.getElem?_eq_getElem _
  have R1:dZ .i64 ((j+1:Nat):Int) 1=(j:Int):=by rw[v9 (by omega) (by omega)];omega
  rw[a_ (by simp;omega),R1,bt e1,ai,h2 _ _ _ (by simp [gZ];exact hlen),h3 _ _ _ (by simp [gZ];exact hlen)]
  have e2:gZ (gZ l.dD.je (j:Int) (aX.mk (l.dD.je[j]'(by omega)).jK (l.dD.je[j]'(by omega)).uB (l.dD.je[j]'(by omega)).cF rest)) (j:Int) (aX.mk (l.dD.je[j]'(by omega)).jK (l.dD.je[j]'(by omega)).uB dep rest)=w4 l (j+1) dep rest:=by
   unfold w4 patch gZ;rw[if_neg (by omega),Nat.add_sub_cancel,e1,Int.toNat_natCast,List.set_set]
  rw[e2];rfl
theorem QcJ{p:bw}(h:qk p.x.bG p.t p.aG)(hl:Ew k l)(hk:k≤p.aG.length):mu p l k rest=some (wI p.x.bG p.t p.aG l k rest):=by
 have h1:=hl.Tt;have h2:=hl.Xg;have h3:=h.rest;have h4:=hl.Xu;have h5:=hl.Qbo;unfold mu wI jh uY;cases rest with
 |true =>
  rw[dc,ig (by omega) (by omega),QjT h hl hk ⟨by omega,by omega⟩ ⟨by omega,by omega⟩];rfl
 |false =>
  rw[cL,QjT h hl hk ⟨by omega,by omega⟩ ⟨by omega,by omega⟩]
  simp
theorem Ei(h:qk n t aG)(hl:Ew k l)(h0:(wI n t aG l k rest).2=0):
  (goN n t.aj (fD t aG k) (cV t aG k).place (jh t l rest)).2.2=0∧(goN n t.aj (fD t aG k) (cV t aG k).place (jh t l rest)).1≤(cV t aG k).bp∧
  uY l rest+(goN n t.aj (fD t aG k) (cV t aG k).place (jh t l rest)).1-jh t l rest≤t.kC∧
  (wI n t aG l k rest).1=au.mk (max (goN n t.aj (fD t aG k) (cV t aG k).place (jh t l rest)).1 (cV t aG k).bm+(cV t aG k).bz) (uY l rest+(goN n t.aj (fD t aG k) (cV t aG k).place (jh t l rest)).1-jh t l rest)
   (shS t aG l k rest (jh t l rest) (goN n t.aj (fD t aG k) (cV t aG k).place (jh t l rest))):=by
 unfold wI W4 at h0 ⊢;split at h0
 ·simp at h0
 ·rename_i h1;split at h0
  ·simp only at h0;split at h0 <;> simp at h0
  ·rename_i h2;split at h0
   ·simp at h0
   ·rename_i h3;rw[if_neg h1,if_neg h2,if_neg h3];exact⟨by simpa using h1,by omega,by omega,rfl⟩
theorem SA(h:qk n t aG)(hl:Ew k l):NA (jh t l rest):=by
 have h1:=hl.Tt;have h2:=hl.Xg;have h3:=h.rest;unfold jh NA;split <;> omega
theorem ON(h:qk n t aG)(hl:Ew k l)(hk:k<aG.length)(h0:(wI n t aG l k rest).2=0):Ew (k+1) (wI n t aG l k rest).1:=by
 obtain⟨g0,g1,g2,g3⟩:=Ei h hl h0;have ry:=SA (rest:=rest) h hl;have hb:=Jg h.bG ry g0;have hS:=h.cV k;have:=hS.VL;have:=hS.Th;have:=hS.bp;have:=hS.TF;have:=hS.ZE;have hd:=h.kC;have hm0:=hl.Qe;have hm1:=hl.Qf;have hsn:0≤uY l rest:=by unfold uY;split;omega;exact hl.Xu
 unfold NA at ry;rw[g3];refine⟨by simp only;omega,by simp only;omega,by simp only;omega,by simp only;omega,?_,?_,?_⟩
 ·show 0≤l.dD.cT+_;omega
 ·show l.dD.cT+_≤_;rw[Int.natCast_add,Int.mul_add];omega
 ·show(if k<aG.length then _ else _:List aX).length=_
  rw[if_pos hk,List.length_append,CE,hl.je];rfl
end
end Go.Proofs.YtbilkblifgaflaaGreatDoor
