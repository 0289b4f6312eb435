/- Part MP of the proof: texts Lqa Lqb Lqc Lqd Lqe Lqi Lqj Lqk Lql. -/
import Derived.Test.YtfjiafgldchinaaGreatDoorMT
import Derived.KernelRfl
namespace Go.Proofs.YtfjiafgldchinaaGreatDoor
set_option linter.unusedSimpArgs false
set_option linter.unusedVariables false
set_option linter.unusedSectionVars false

section
variable {α : Type}
theorem QyD {B : List α × Int → Option ((List α × Int) ⊕ (List α))} (n c : Nat) (P : Nat → Prop) (init : List α) (hn : n < 18446744073709551615)
    (step : ∀ (i : Nat) (out : List α), i < n → out.length ≤ init.length + c * i → post (B (out, (i : Int))) fun x => ∃ new, x = .inl (out ++ new, (i : Int) + 1) ∧ new.length ≤ c ∧ (new = [] ↔ P i))
    (fin : ∀ out, B (out, (n : Int)) = some (.inr out)) : post (QaK B (init, 0)) fun r => r.length ≤ init.length + c * n ∧ (r = [] ↔ init = [] ∧ ∀ i, i < n → P i) := by
  refine Qct (fun s => ∃ i : Nat, s.2 = (i : Int) ∧ i ≤ n ∧ s.1.length ≤ init.length + c * i ∧ (s.1 = [] ↔ init = [] ∧ ∀ k, k < i → P k)) (fun s => n - s.2.toNat)
    ⟨0, rfl, Nat.zero_le _, by simp, by simp⟩ (by simp; omega) ?_
  rintro ⟨out, j⟩ ⟨i, hj, hi, hl, he⟩
  simp only at hj hl he
  subst hj
  by_cases h : i < n
  · refine (step i out h hl).mono ?_
    rintro x ⟨new, rfl, h1, h2⟩
    refine ⟨fun s' hs => ?_, fun _ h => by cases h⟩
    cases hs
    refine ⟨⟨i + 1, by simp, by omega, by simp [Nat.mul_add]; omega, ?_⟩, by simp; omega⟩
    simp only [List.append_eq_nil_iff, he, h2]
    constructor
    · rintro ⟨⟨h3, h4⟩, h5⟩
      exact ⟨h3, fun k hk => by rcases Nat.lt_or_ge k i with h | h; exact h4 k h; obtain rfl : k = i := by omega
                                exact h5⟩
    · rintro ⟨h3, h4⟩
      exact ⟨⟨h3, fun k hk => h4 k (by omega)⟩, h4 i (by omega)⟩
  · obtain rfl : i = n := by omega
    rw [fin]
    exact Qcg ⟨hl, he⟩
end
theorem Qek {n b:Nat} (h:n*b≤140737488355328):okN n b:=h
theorem orT {a b:Bool}:(a||b)=true↔a=true∨b=true:=Bool.or_eq_true_iff ..
theorem orF {a b:Bool}:(a||b)=false↔a=false∧b=false:=Bool.or_eq_false_iff
theorem andT {a b:Bool}:(a&&b)=true↔a=true∧b=true:=Bool.and_eq_true_iff
theorem andF {a b:Bool}:(a&&b)=false↔a=false∨b=false:=Bool.and_eq_false_iff
theorem ntT {a:Bool}:(!a)=true↔a=false:=by cases a <;> simp
theorem ntF {a:Bool}:(!a)=false↔a=true:=by cases a <;> simp

theorem QkS (l:List Int):(QpY l).size=l.length:=by simp [QpY,ByteArray.size]
theorem QAR (a:Int):(a.tdiv 10).natAbs=a.natAbs / 10:=by rw [Int.natAbs_tdiv]; rfl
theorem QGA {a:Int} (h:a.natAbs≤9223372036854775808):quoK .i64 a 10=a.tdiv 10:=by
 have:=QAR a
 exact quoI (by omega) (by omega)
def Qyu (n:Int):Prop:=-9223372036854775808≤n∧n≤9223372036854775807
theorem Qxa {n left d:Int} {s:ByteArray} {k:Nat} (hl:left.natAbs≤9223372036854775808) (h1:left.natAbs<10 ^ k) (h2:s.size+k≤20) (hk:1≤k) :
  post (Qc6 n s left d) fun x=>(∀ s',x=.inl s'→(∃ k:Nat,s'.2.1.natAbs≤9223372036854775808∧s'.2.1.natAbs<10 ^ k∧s'.1.size+k≤20∧(s'.2.2=true→1≤k∧s'.2.1≠0))∧s'.2.1.natAbs+(if s'.2.2 then 1 else 0)<left.natAbs+1)∧∀ e,x=.inr e→e.size≤20:=by
 unfold Qc6
 have hq:=QGA hl
 have ha:=QAR left
 refine Qbc (by rw [QkS]; simp; omega) (Qc4 ?_)
 simp only [hq]
 obtain ⟨k,rfl⟩:∃ j,k=j+1:=⟨k-1,by omega⟩
 have hs:(catS (QpY [cvK IntKind.u8 (addK IntKind.i64 48 d)]) s).size=1+s.size:=by unfold catS; rw [ByteArray.size_append,QkS]; rfl
 refine ⟨⟨k,by omega,by rw [ha]; rw [Nat.pow_succ] at h1; omega,by rw [hs]; omega,fun h=>?_⟩,?_⟩
 ·simp only [Qyy] at h
  refine ⟨?_,h⟩
  rcases Nat.eq_zero_or_pos k with rfl|h'
  ·exfalso; apply h; have:(left.tdiv 10).natAbs=0:=by rw [ha]; simp at h1; omega
   omega
  ·exact h'
 ·cases hb:neI (left.tdiv 10) 0 with
  | true =>
   simp only [Qyy] at hb
   simp only [if_true]
   have:(left.tdiv 10).natAbs≠0:=by omega
   omega
  | false=>simp only [Bool.false_eq_true,if_false]; omega
theorem QkY (n:Int) (hn:Qyu n):post (QbE n) fun s=>s.size≤21:=by
 unfold Qyu at hn
 refine QaP (R:=fun s=>s.size≤20) ?_ fun s hs=>?_
 ·refine Qct (fun s=>∃ k:Nat,s.2.1.natAbs≤9223372036854775808∧s.2.1.natAbs<10 ^ k∧s.1.size+k≤20∧(s.2.2=true→1≤k∧(s.2.1=0→True))) (fun s=>s.2.1.natAbs+(if s.2.2 then 1 else 0)) ⟨19,by simp only; omega,by simp only; omega,by simp [ByteArray.size_empty],by simp⟩ (by simp only; split <;> omega) ?_
  rintro ⟨s,left,again⟩ ⟨k,h0,h1,h2,h3⟩
  simp only at h0 h1 h2 h3
  cases again with
  | false=>exact Qcg (show s.size≤20 by omega)
  | true =>
   refine post.mono (Q:=fun x=>(∀ s',x=.inl s'→(∃ k:Nat,s'.2.1.natAbs≤9223372036854775808∧s'.2.1.natAbs<10 ^ k∧s'.1.size+k≤20∧(s'.2.2=true→1≤k∧s'.2.1≠0))∧s'.2.1.natAbs+(if s'.2.2 then 1 else 0)<left.natAbs+1)∧∀ e,x=.inr e→e.size≤20) ?_ ?_
   ·show post (br true (br (ltI (remK left 10) 0) _ _) _) _
    rw [QcK]
    exact QaE (fun _=>Qxa h0 h1 h2 (h3 rfl).1) (fun _=>Qxa h0 h1 h2 (h3 rfl).1)
   ·rintro x ⟨g1,g2⟩
    refine ⟨fun s' hs=>?_,g2⟩
    obtain ⟨⟨k',q1,q2,q3,q4⟩,q5⟩:=g1 s' hs
    exact ⟨⟨k',q1,q2,q3,fun h=>⟨(q4 h).1,fun _=>trivial⟩⟩,q5⟩
 ·refine QaE (fun _=>Qbc ?_ (Qaw.2 ?_)) (fun _=>Qaw.2 (by omega))
  ·show 1+s.size≤_; omega
  ·unfold catS; rw [ByteArray.size_append]; show 1+s.size≤_; omega
theorem QvE {k:Nat} (h:k<4294967296):Qyu (k:Int):=by unfold Qyu; omega

abbrev Pt:=Qai
def okA (p:Pt):Prop:=0≤p.t∧p.t≤4096∧p.t≤p.a∧p.a≤p.t+4096
def okP (l:List Pt) (i:Nat):Prop:=∀ p,l[i]?=some p→okA p∧(0<i→∀ q,l[i-1]?=some q→q.t<p.t∧q.a≤p.a)
structure QsL (l:List Pt):Prop where
 pos:1≤l.length
 most:l.length≤16
 all:∀ i,i<l.length→okP l i
def ptI (p:Pt):Prop:=Qyu p.t∧Qyu p.a
theorem QAp {l:List Pt} {i:Nat} {x0:Pt} {out new:List Qac} (hx:l[i]?=some x0) (hi:i<2000000) (hlen:l.length<2000000) (ho:out.length≤1+2*i) (hn:new.length≤1) (hw:new=[]↔okA x0) :
  post (QdB l (i:Int) x0 (out++new)) fun x=>∃ new,x=.inl (out++new,(i:Int)+1)∧new.length≤2∧(new=[]↔okP l i):=by
 have hadd:addK .i64 (i:Int) 1=(i:Int)+1:=addI (by omega) (by omega)
 unfold QdB
 have hokN:∀ f:Qac,okN (out++new++[f]).length 24:=fun f=>Qek (by simp; omega)
 have leafY:(0<i→∀ q,l[i-1]?=some q→q.t<x0.t∧q.a≤x0.a)→post (some (Sum.inl (out++new,addK .i64 (i:Int) 1):(List Qac×Int)⊕List Qac)) fun x=>∃ new,x=.inl (out++new,(i:Int)+1)∧new.length≤2∧(new=[]↔okP l i):=by
  intro hq
  rw [hadd]
  refine ⟨_,rfl,new,rfl,by omega,?_⟩
  rw [hw]
  exact ⟨fun h p hp=>by rw [hx] at hp; cases hp; exact ⟨h,hq⟩,fun h=>(h x0 hx).1⟩
 have leafN:∀ r:ByteArray,(∃ q,0<i∧l[i-1]?=some q∧¬ (q.t<x0.t∧q.a≤x0.a))→post (chk (okN (out++new++[Qac.mk 13 r]).length 24) (some (Sum.inl (out++new++[Qac.mk 13 r],addK .i64 (i:Int) 1):(List Qac×Int)⊕List Qac))) fun x=>∃ new,x=.inl (out++new,(i:Int)+1)∧new.length≤2∧(new=[]↔okP l i):=by
  rintro r ⟨q,h0,h1,h2⟩
  refine Qbc (hokN _) ?_
  rw [hadd]
  refine ⟨_,rfl,new++[_],by rw [List.append_assoc],by simp; omega,?_⟩
  constructor
  ·intro h; simp at h
  ·intro h; exact absurd ((h x0 hx).2 h0 q h1) h2
 refine QaE (fun h=>?_) (fun h=>leafY fun h0=>by simp at h; omega)
 simp only [Qwg] at h
 have h1:subK .i64 (i:Int) 1=((i-1:Nat):Int):=by rw [subI (by omega) (by omega)]; omega
 have hx1:l[i-1]?=some (l[i-1]'(by have:=(List.getElem?_eq_some_iff.1 hx).1; omega)):=List.getElem?_eq_getElem _
 rw [h1,QaR hx1,Qaj]
 have hd:=QkY (i:Int) (QvE (by omega))
 refine QaE (fun h2=>QaP hd fun r _=>leafN r ⟨_,by omega,hx1,fun hh=>?_⟩) (fun h2=>QaE (fun h3=>QaP hd fun r _=>leafN r ⟨_,by omega,hx1,fun hh=>?_⟩) (fun h3=>leafY fun _ q hq=>?_))
 ·simp only [QBT] at h2; omega
 ·simp only [Qoi] at h3; omega
 ·rw [hx1] at hq; cases hq
  simp only [QEB] at h2
  simp only [QoX] at h3
  omega
theorem QGu {x0:Pt} (hI:ptI x0):((((ltI x0.t 0)||(gtI x0.t 4096))||(ltI x0.a x0.t))||(gtI x0.a (addK .i64 x0.t 4096)))=false↔okA x0:=by
 obtain ⟨h1,h2⟩:=hI
 unfold Qyu at h1 h2
 simp only [orF,QoX,Qqt]
 unfold okA
 constructor
 ·rintro ⟨⟨⟨a,b⟩,c⟩,d⟩
  rw [addI (by omega) (by omega)] at d
  omega
 ·rintro ⟨a,b,c,d⟩
  rw [addI (by omega) (by omega)]
  omega
theorem Qo4 {l:List Pt} (hlen:l.length≤1048576) (hI:∀ p∈l,ptI p):post (Qeh l) fun r=>r.length≤1+2*l.length∧(r=[]↔QsL l):=by
 have main:∀ init:List Qac,init.length≤1→post (Qew l init) fun r=>r.length≤init.length+2*l.length∧(r=[]↔init=[]∧∀ i,i<l.length→okP l i):=by
  intro init hin
  refine QaP ?_ fun a h=>Qaw.2 h
  refine QyD l.length 2 (okP l) init (by omega) (fun i out hi ho=>?_) (fun out=>?_)
  ·have hx:=Qyt hi
   have hx':l[i]?=some l[i]:=List.getElem?_eq_getElem hi
   show post (Qc2 l out (i:Int)) _
   unfold Qc2
   rw [Qbj (by simp [lenI]; exact hi),hx,Qaj]
   have hp:=hI l[i] (List.getElem_mem hi)
   refine QaE (fun h=>QaP (QkY (i:Int) (QvE (by omega))) fun r _=>Qbc (Qek (by simp; omega)) (QAp (new:=[_]) hx' (by omega) (by omega) (by omega) (by simp) (Iff.intro (fun h=>by cases h) (fun h'=>?_)))) (fun h=>?_)
   ·rw [(QGu hp).2 h'] at h; cases h
   ·have:=QAp (out:=out) (new:=[]) hx' (by omega) (by omega) (by omega) (by simp) ⟨fun _=>(QGu hp).1 h,fun _=>rfl⟩
    rwa [List.append_nil] at this
  ·unfold Qc2
   rw [QaW (by simp [lenI])]
 unfold Qeh
 refine QaE (fun h=>Qbc (Qek (by simp)) ((main _ (by simp)).mono ?_)) (fun h=>(main _ (by simp)).mono ?_)
 ·rintro r ⟨h1,h2⟩
  refine ⟨by simpa using h1,?_⟩
  rw [h2]
  simp only [orT,Qoi,Qwg,lenI] at h
  exact ⟨fun h=>by (cases h.1),fun h'=>by have:=h'.pos; have:=h'.most; omega⟩
 ·rintro r ⟨h1,h2⟩
  refine ⟨by simp at h1 ⊢; omega,?_⟩
  rw [h2]
  simp only [orF,QoX,Qqt,lenI] at h
  exact ⟨fun h'=>⟨by omega,by omega,h'.2⟩,fun h'=>⟨rfl,h'.all⟩⟩
end Go.Proofs.YtfjiafgldchinaaGreatDoor
namespace Go.Proofs.YtfjiafgldchinaaGreatDoor
set_option linter.unusedSimpArgs false
set_option linter.unusedVariables false
set_option linter.unusedSectionVars false

def seg (p q:Pt) (t:Int):Int:=p.a+((t-p.t)*(q.a-p.a)+(q.t-p.t)-1) / (q.t-p.t)
def arrL:List Pt→Int→Int
 | [],_=>0
 | [p],t=>t+p.a-p.t
 | p :: q :: r,t=>if t<q.t then (if t<p.t then t+p.a-p.t else seg p q t) else arrL (q :: r) t
def Srt:List Pt→Prop
 | []=>True
 | [p]=>okA p
 | p :: q :: r=>okA p∧p.t<q.t∧p.a≤q.a∧Srt (q :: r)
theorem QFy:∀ {l:List Pt},(∀ i,i<l.length→okP l i)→Srt l
 | [],_=>trivial
 | [p],h=>(h 0 (by simp) p rfl).1
 | p :: q :: r,h=>by
  have h0:=h 0 (by simp) p rfl
  have h1:=(h 1 (by simp) q rfl).2 (by omega) p rfl
  refine ⟨h0.1,h1.1,h1.2,QFy fun i hi x hx=>?_⟩
  have h2:=h (i+1) (by simpa using hi) x hx
  refine ⟨h2.1,fun h3 y hy=>h2.2 (by omega) y ?_⟩
  obtain ⟨j,rfl⟩:∃ j,i=j+1:=⟨i-1,by omega⟩
  exact hy
theorem QsL.srt {l:List Pt} (h:QsL l):Srt l:=QFy h.all
theorem Srt.okA_at:∀ {l:List Pt},Srt l→∀ {i:Nat} {p:Pt},l[i]?=some p→okA p
 | [],_,_,_,h=>by simp at h
 | [p],h,0,x,hx=>by cases hx; exact h
 | [p],h,i+1,x,hx=>by simp at hx
 | p :: q :: r,h,0,x,hx=>by cases hx; exact h.1
 | p :: q :: r,h,i+1,x,hx=>Srt.okA_at (l:=q :: r) h.2.2.2 hx
theorem Srt.pair:∀ {l:List Pt},Srt l→∀ {i:Nat} {p q:Pt},l[i]?=some p→l[i+1]?=some q→p.t<q.t∧p.a≤q.a
 | [],_,_,_,_,h,_=>by simp at h
 | [p],h,i,x,y,_,hy=>by simp at hy
 | p :: q :: r,h,0,x,y,hx,hy=>by cases hx; cases hy; exact ⟨h.2.1,h.2.2.1⟩
 | p :: q :: r,h,i+1,x,y,hx,hy=>Srt.pair (l:=q :: r) h.2.2.2 hx hy
theorem Srt.lt {l:List Pt} (h:Srt l) {i:Nat}:∀ {j:Nat},i<j→∀ {p q:Pt},l[i]?=some p→l[j]?=some q→p.t<q.t
 | j+1,hij,p,q,hp,hq=>by
  rcases Nat.lt_or_ge i j with h'|h'
  ·have hj:l[j]?=some (l[j]'(by have:=(List.getElem?_eq_some_iff.1 hq).1; omega)):=List.getElem?_eq_getElem _
   have:=h.lt h' hp hj
   have:=(h.pair hj hq).1
   omega
  ·obtain rfl:i=j:=by omega
   exact (h.pair hp hq).1
theorem QwI {p q:Pt} (h:p.t<q.t):seg p q p.t=p.a:=by
 unfold seg
 rw [Int.sub_self,Int.zero_mul,Int.ediv_eq_zero_of_lt (by omega) (by omega)]; omega
theorem QuW {p q:Pt} (h:p.t<q.t):seg p q q.t=q.a:=by
 unfold seg
 rw [show (q.t-p.t)*(q.a-p.a)+(q.t-p.t)-1=(q.t-p.t-1)+(q.t-p.t)*(q.a-p.a) by omega,Int.add_mul_ediv_left _ _ (by omega),Int.ediv_eq_zero_of_lt (by omega) (by omega)]; omega
theorem Qum {p:Pt} {r:List Pt} (h:Srt (p :: r)):arrL (p :: r) p.t=p.a:=by
 cases r with
 | nil=>simp only [arrL]; omega
 | cons q r=>simp only [arrL]; rw [if_pos h.2.1,if_neg (by omega),QwI h.2.1]
theorem Qy9 {p:Pt} {r:List Pt} (h:Srt (p :: r)) {t:Int} (ht:t≤p.t):arrL (p :: r) t=t+p.a-p.t:=by
 by_cases he:t=p.t
 ·subst he; rw [Qum h]; omega
 ·cases r with
  | nil=>rfl
  | cons q r=>simp only [arrL]; have:=h.2.1; rw [if_pos (by omega),if_pos (by omega)]
theorem Qsz:∀ {l:List Pt},Srt l→∀ {p:Pt},l[l.length-1]?=some p→∀ {t:Int},p.t≤t→arrL l t=t+p.a-p.t
 | [],_,_,hp,_,_=>by simp at hp
 | [x],_,p,hp,t,_=>by cases hp; rfl
 | x :: y :: r,h,p,hp,t,ht=>by
  have hp':(y :: r)[(y :: r).length-1]?=some p:=by simpa using hp
  have:y.t≤t:=by
   rcases Nat.eq_zero_or_pos r.length with h0|h0
   ·have:r=[]:=List.length_eq_zero_iff.1 h0
    subst this; cases hp'; exact ht
   ·have:=h.2.2.2.lt (i:=0) (j:=(y :: r).length-1) (by simp; omega) rfl hp'
    omega
  simp only [arrL]
  rw [if_neg (by omega)]
  exact Qsz h.2.2.2 hp' ht
theorem Qun:∀ {l:List Pt},Srt l→∀ {j:Nat} {p q:Pt},l[j]?=some p→l[j+1]?=some q→∀ {t:Int},p.t≤t→t≤q.t→arrL l t=seg p q t
 | [],_,_,_,_,hp,_,_,_,_=>by simp at hp
 | [x],_,_,_,_,_,hq,_,_,_=>by simp at hq
 | x :: y :: r,h,0,p,q,hp,hq,t,h1,h2=>by
  cases hp; cases hq
  simp only [arrL]
  by_cases he:t<y.t
  ·rw [if_pos he,if_neg (by omega)]
  ·obtain rfl:t=y.t:=by omega
   rw [if_neg he,Qum h.2.2.2,QuW h.2.1]
 | x :: y :: r,h,j+1,p,q,hp,hq,t,h1,h2=>by
  have:y.t≤p.t:=by
   rcases Nat.eq_zero_or_pos j with rfl|h0
   ·cases hp; omega
   ·have:=h.2.2.2.lt (i:=0) (j:=j) h0 rfl hp; omega
  simp only [arrL]
  rw [if_neg (by omega)]
  exact Qun (l:=y :: r) h.2.2.2 hp hq h1 h2
theorem QuV {p q:Pt} (h1:p.t<q.t) (h2:p.a≤q.a) {t t':Int} (h:t≤t'):seg p q t≤seg p q t':=by
 unfold seg
 have:=Int.mul_le_mul_of_nonneg_right (show t-p.t≤t'-p.t by omega) (show 0≤q.a-p.a by omega)
 have:=Int.ediv_le_ediv (show 0<q.t-p.t by omega) (show (t-p.t)*(q.a-p.a)+(q.t-p.t)-1≤(t'-p.t)*(q.a-p.a)+(q.t-p.t)-1 by omega)
 omega
theorem Qw0:∀ {l:List Pt},Srt l→∀ {t t':Int},t≤t'→arrL l t≤arrL l t'
 | [],_,_,_,_=>Int.le_refl _
 | [p],_,t,t',h=>by simp only [arrL]; omega
 | p :: q :: r,h,t,t',ht=>by
  have ih:=fun {a b:Int} (hab:a≤b)=>Qw0 h.2.2.2 hab
  have hq:=Qum h.2.2.2
  have hh:=h.2.1
  simp only [arrL]
  by_cases h1:t<q.t
  ·rw [if_pos h1]
   have hs:∀ x:Int,p.t≤x→p.a≤seg p q x:=fun x hx=>by have:=QuV h.2.1 h.2.2.1 hx; rwa [QwI h.2.1] at this
   by_cases h2:t'<q.t
   ·rw [if_pos h2]
    by_cases h3:t<p.t
    ·rw [if_pos h3]
     by_cases h4:t'<p.t
     ·rw [if_pos h4]; omega
     ·rw [if_neg h4]; have:=hs t' (by omega); omega
    ·rw [if_neg h3,if_neg (by omega)]
     exact QuV h.2.1 h.2.2.1 ht
   ·rw [if_neg h2]
    have h5:=ih (show q.t≤t' by omega)
    by_cases h3:t<p.t
    ·rw [if_pos h3]; have:=h.2.2.1; omega
    ·rw [if_neg h3]
     have:=QuV h.2.1 h.2.2.1 (show t≤q.t by omega)
     rw [QuW h.2.1] at this; omega
  ·rw [if_neg h1,if_neg (by omega)]
   exact ih ht
theorem QGj {p q:Pt} (hp:p.t≤p.a) (hq:q.t≤q.a) (h1:p.t<q.t) {t:Int} (h:p.t≤t) (h':t≤q.t):t≤seg p q t:=by
 unfold seg
 have key:(t-p.a)*(q.t-p.t)≤(t-p.t)*(q.a-p.a):=by
  have e1:0≤(t-p.t)*(q.a-q.t):=Int.mul_nonneg (by omega) (by omega)
  have e2:0≤(q.t-t)*(p.a-p.t):=Int.mul_nonneg (by omega) (by omega)
  have e3:(t-p.t)*(q.a-p.a)-(t-p.a)*(q.t-p.t)=(t-p.t)*(q.a-q.t)+(q.t-t)*(p.a-p.t):=by
   simp only [Int.sub_mul,Int.mul_sub,Int.mul_comm]
   omega
  omega
 have:=(Int.le_ediv_iff_mul_le (show 0<q.t-p.t by omega)).2 (show (t-p.a)*(q.t-p.t)≤(t-p.t)*(q.a-p.a)+(q.t-p.t)-1 by omega)
 omega
theorem QwY:∀ {l:List Pt},Srt l→l≠[]→∀ (t:Int),t≤arrL l t
 | [],_,h,_=>absurd rfl h
 | [p],h,_,t=>by simp only [arrL]; have:=h.2.2.1; omega
 | p :: q :: r,h,_,t=>by
  have hq:okA q:=h.2.2.2.okA_at (i:=0) rfl
  have h1:=h.1.2.2.1
  simp only [arrL]
  by_cases h3:t<q.t
  ·rw [if_pos h3]
   by_cases h4:t<p.t
   ·rw [if_pos h4]; omega
   ·rw [if_neg h4]; exact QGj h1 hq.2.2.1 h.2.1 (by omega) (by omega)
  ·rw [if_neg h3]; exact QwY h.2.2.2 (by simp) t
theorem QwZ:∀ {l:List Pt},Srt l→∀ {t:Int},0≤t→arrL l t≤t+8192
 | [],_,t,h=>by simp only [arrL]; omega
 | [p],h,t,_=>by simp only [arrL]; have:=h.2.2.2; omega
 | p :: q :: r,h,t,h0=>by
  have hq:okA q:=h.2.2.2.okA_at (i:=0) rfl
  have h1:=h.1.2.2.2
  simp only [arrL]
  by_cases h3:t<q.t
  ·rw [if_pos h3]
   by_cases h4:t<p.t
   ·rw [if_pos h4]; omega
   ·rw [if_neg h4]
    have:=QuV h.2.1 h.2.2.1 (show t≤q.t by omega)
    rw [QuW h.2.1] at this
    have:=hq.2.2.2; have:=hq.2.1; omega
  ·rw [if_neg h3]; exact QwZ h.2.2.2 h0
end Go.Proofs.YtfjiafgldchinaaGreatDoor
namespace Go.Proofs.YtfjiafgldchinaaGreatDoor
set_option linter.unusedSimpArgs false
set_option linter.unusedVariables false
set_option linter.unusedSectionVars false

def inT (t:Int):Prop:=0≤t∧t≤1073741824
theorem QC2 {p q:Pt} (h1:okA p) (h2:okA q) (h:p.t<q.t) (h':p.a≤q.a) {t:Int} (a:p.t≤t) (b:t≤q.t) :
  0≤(t-p.t)*(q.a-p.a)∧(t-p.t)*(q.a-p.a)≤33554432∧0≤((t-p.t)*(q.a-p.a)+(q.t-p.t)-1) / (q.t-p.t)∧((t-p.t)*(q.a-p.a)+(q.t-p.t)-1) / (q.t-p.t)≤33558528:=by
 unfold okA at h1 h2
 have e1:0≤(t-p.t)*(q.a-p.a):=Int.mul_nonneg (by omega) (by omega)
 have e2:(t-p.t)*(q.a-p.a)≤4096*8192:=Int.mul_le_mul (by omega) (by omega) (by omega) (by omega)
 have e3:0≤((t-p.t)*(q.a-p.a)+(q.t-p.t)-1) / (q.t-p.t):=Int.ediv_nonneg (by omega) (by omega)
 have e4:((t-p.t)*(q.a-p.a)+(q.t-p.t)-1) / (q.t-p.t)≤(t-p.t)*(q.a-p.a)+(q.t-p.t)-1:=Int.ediv_le_self _ (by omega)
 exact ⟨e1,by omega,e3,by omega⟩
theorem QsL.at {l:List Pt} (h:QsL l) {i:Nat} {p:Pt} (hp:l[i]?=some p):okA p:=h.srt.okA_at hp
theorem QsL.bd {l:List Pt} (h:QsL l) {i:Nat} {p:Pt} (hp:l[i]?=some p):0≤p.t∧p.t≤4096∧p.t≤p.a∧p.a≤8192:=by
 have:=h.at hp; unfold okA at this; omega
theorem QsL.ptI {l:List Pt} (h:QsL l):∀ p∈l,ptI p:=fun p hp=>by
 obtain ⟨i,hi⟩:=List.getElem?_of_mem hp
 have:=h.bd hi
 unfold Go.Proofs.YtfjiafgldchinaaGreatDoor.ptI Qyu; omega
theorem QFD {a b:Int} (h:0≤a):a.tdiv b=a / b:=Int.tdiv_eq_ediv_of_nonneg h

theorem quoP {a b:Int} (h:0≤a) (h':a≤9223372036854775807) (hb:0<b):quoK .i64 a b=a / b:=by
 have h1:0≤a / b:=Int.ediv_nonneg h (by omega)
 have h2:a / b≤a:=Int.ediv_le_self _ h
 have h3:=QFD (b:=b) h
 rw [quoI (by rw [h3]; omega) (by rw [h3]; omega),h3]
theorem Qss {l:List Pt} (h:QsL l):Qeh l=some []:=by
 obtain ⟨r,h1,h2,h3⟩:=Qo4 (by have:=h.most; omega) h.ptI
 rw [h1,h3.2 h]
theorem QrJ {l:List Pt} (h:QsL l) {t:Int} (ht:inT t):QfL l t=some (arrL l t):=by
 apply post.eq
 obtain ⟨p0,r0,rfl⟩:∃ p r,l=p :: r:=by
  cases l with
  | nil=>have:=h.pos; simp at this
  | cons p r=>exact ⟨p,r,rfl⟩
 generalize hl:p0 :: r0=l at h
 have h0:l[0]?=some p0:=by rw [← hl]; rfl
 have hpos:=h.pos
 have hmost:=h.most
 have hlast:l[l.length-1]?=some (l[l.length-1]'(by omega)):=List.getElem?_eq_getElem _
 unfold inT at ht
 unfold QfL
 rw [Qss h,Qaj]
 refine QaE (fun hb=>?_) (fun _=>?_)
 ·simp only [orT,Qwg,Qoi,QDU] at hb; omega
 refine QaP (R:=fun e=>(∃ u,e=.inl u∧∀ p,l[l.length-1]?=some p→p.t≤t∨t<p0.t)∨e=.inr (arrL l t)) ?_ ?_
 ·refine Qct (fun i=>∃ k:Nat,i=(k:Int)∧k<l.length∧(∀ p,l[k]?=some p→p.t≤t∨t<p0.t)) (fun i=>l.length-i.toNat) ⟨0,rfl,by omega,fun p hp=>by rw [h0] at hp; cases hp; omega⟩ (by simp; omega) ?_
  rintro _ ⟨k,rfl,hk,hC⟩
  show post (Qdf l t (k:Int)) _
  unfold Qdf
  have hadd:addK .i64 (k:Int) 1=((k+1:Nat):Int):=by rw [addI (by omega) (by omega)]; omega
  rw [hadd]
  refine QaE (fun hb=>?_) (fun hb=>Qcg (.inl ⟨_,rfl,fun p hp=>hC p ?_⟩))
  rotate_left
  ·simp only [QoX,lenI] at hb
   rw [show k=l.length-1 by omega]; exact hp
  simp only [Qoi,lenI] at hb
  have hk1:k+1<l.length:=by omega
  have e1:l[k]?=some l[k]:=List.getElem?_eq_getElem hk
  have e2:l[k+1]?=some l[k+1]:=List.getElem?_eq_getElem hk1
  rw [QaR e1,Qaj,QaR e2,Qaj]
  generalize l[k]=p at e1
  generalize l[k+1]=q at e2
  have hp:=h.bd e1; have hq:=h.bd e2
  obtain ⟨hpq,hpa⟩:=h.srt.pair e1 e2
  refine QaE (fun hc=>?_) (fun hc=>Qc4 ⟨⟨k+1,rfl,hk1,fun x hx=>?_⟩,by simp; omega⟩)
  ·simp only [andT,QBT,Qoi] at hc
   obtain ⟨n1,n2,n3,n4⟩:=QC2 (h.at e1) (h.at e2) hpq hpa hc.1 (Int.le_of_lt hc.2)
   have key:(t-p.t)*(q.a-p.a)+q.t-p.t-1=(t-p.t)*(q.a-p.a)+(q.t-p.t)-1:=by omega
   rw [← key] at n3 n4
   simp (disch:=omega) only [addI,subI,mulI,quoP]
   refine Qbc (by omega) (Qcg (.inr ?_))
   rw [Qun h.srt e1 e2 hc.1 (Int.le_of_lt hc.2),key]
   rfl
  ·rw [e2] at hx; cases hx
   simp only [andF,QEB,QoX] at hc
   rcases hC p e1 with h'|h'
   ·left; omega
   ·right; exact h'
 ·intro e he
  rcases he with ⟨u,rfl,hu⟩|rfl
  ·rw [Qdm,show (0:Int)=((0:Nat):Int) from rfl,QaR h0,Qaj]
   have hp:=h.bd h0
   refine QaE (fun hb=>?_) (fun hb=>?_)
   ·simp only [Qwg] at hb
    have hs:subK .i64 (lenI l) 1=((l.length-1:Nat):Int):=by unfold lenI; rw [subI (by omega) (by omega)]; omega
    rw [hs,QaR hlast,Qaj]
    have hq:=h.bd hlast
    simp (disch:=omega) only [addI,subI,Qaw]
    rw [Qsz h.srt hlast (by rcases hu _ hlast with h1|h1; exact h1; omega)]
   ·simp only [Qqt] at hb
    rw [addI (by omega) (by omega),subI (by omega) (by omega),Qaw,← hl,Qy9 (by rw [hl]; exact h.srt) hb]
  ·rw [Qm6]; exact Qaw.2 rfl
theorem QzF:∀ i:Nat,i<16→(QkO (i:Int)).isSome=true:=by decide +kernel
theorem QrU {l:List Pt} (h:QsL l):QlB l=some []:=by
 have hpos:=h.pos; have hmost:=h.most
 unfold QlB
 rw [QaW (by simp only [orF,Qv9,Qqt,lenI]; omega)]
 unfold Qg8
 have hloop:QaK (fun s:List Qac×Int=>Qdt l s.1 s.2) ([],0)=some []:=?_
 ·rw [hloop,Qaj]
 refine Qep (e:=[]) l.length (fun i=>(([]:List Qac),(i:Int))) (by omega) (fun i hi=>?_) ?_
 ·have e1:l[i]?=some l[i]:=List.getElem?_eq_getElem hi
  obtain ⟨r,hr⟩:=Option.isSome_iff_exists.1 (QzF i (by omega))
  show Qdt l [] (i:Int)=_
  unfold Qdt
  rw [Qbj (by simp only [Qoi,lenI]; omega),QaR e1,Qaj,hr,Qaj]
  have hp:=h.bd e1
  have hA:=h.at e1
  unfold okA at hA
  rw [show Qfn (l[i]).t 0 4096=some true by unfold Qfn; simp only [Option.some.injEq,andT,Qqs,QBT]; omega,Qaj]
  rw [QaW (by simp only [Bool.not_true,Bool.false_or,orF,QoX,Qqt]; rw [addI (by omega) (by omega)]; omega)]
  have hadd:addK .i64 (i:Int) 1=((i+1:Nat):Int):=by rw [addI (by omega) (by omega)]; omega
  unfold Qg9
  rw [hadd]
  rcases Nat.eq_zero_or_pos i with h0|h0
  ·rw [QaW (by simp only [Qqt]; omega)]
  ·have e0:l[i-1]?=some (l[i-1]'(by omega)):=List.getElem?_eq_getElem _
   have hs:subK .i64 (i:Int) 1=((i-1:Nat):Int):=by rw [subI (by omega) (by omega)]; omega
   have hpr:=h.srt.pair e0 (by rw [show i-1+1=i by omega]; exact e1)
   rw [Qbj (by simp only [Qwg]; omega),hs,QaR e0,Qaj,QaW (by simp only [QEB]; omega),QaW (by simp only [QoX]; omega)]
 ·show Qdt l [] (l.length:Int)=_
  unfold Qdt
  rw [QaW (by simp [lenI])]
theorem QrV {l:List Pt} (h:QsL l):QlC l=some true:=by
 unfold QlC; rw [QrU h]; rfl
theorem half {i j:Nat} (h:i<100) (h':j<100):cvK .i64 (shrK .u64 (cvK .u64 (addK .i64 (i:Int) (j:Int))) 1)=(((i+j) / 2:Nat):Int):=by
 rw [addI (by omega) (by omega)]
 unfold cvK shrK
 rw [IntKind.wrap_u64,IntKind.wrap_i64]
 have e:(2:Int) ^ min (Int.toNat 1) (IntKind.u64.bits)=2:=by decide
 rw [e,Int.fdiv_eq_ediv_of_nonneg _ (by omega)]
 omega
theorem QwH {l:List Pt} (h:QsL l) {t:Int} (ht:inT t):post (QaU l t) fun r=>∃ i:Nat,r.1=(i:Int)∧i≤l.length∧(∀ k p,k<i→l[k]?=some p→p.t<t)∧(∀ k p,i≤k→l[k]?=some p→t≤p.t) ∧
  (r.2=true↔∃ p,l[i]?=some p∧p.t=t):=by
 have hmost:=h.most
 unfold inT at ht
 refine QaP (R:=fun x=>∃ i:Nat,x=(i:Int)∧i≤l.length∧(∀ k p,k<i→l[k]?=some p→p.t<t)∧(∀ k p,i≤k→l[k]?=some p→t≤p.t)) ?_ ?_
 ·refine Qct (fun s=>∃ i j:Nat,s=((i:Int),(j:Int))∧i≤j∧j≤l.length∧(∀ k p,k<i→l[k]?=some p→p.t<t)∧(∀ k p,j≤k→l[k]?=some p→t≤p.t)) (fun s=>(s.2-s.1).toNat) ⟨0,l.length,rfl,by omega,by omega,fun k p hk=>by omega,fun k p hk hp=>by have:=(List.getElem?_eq_some_iff.1 hp).1; omega⟩ (by simp [lenI]; omega) ?_
  rintro _ ⟨i,j,rfl,hij,hjl,h1,h2⟩
  show post (QaD l t (i:Int) (j:Int)) _
  unfold QaD
  rw [half (by omega) (by omega)]
  refine QaE (fun hb=>?_) (fun hb=>Qcg ?_)
  ·simp only [Qoi] at hb
   have hm:(i+j) / 2<l.length:=by omega
   have e1:l[(i+j) / 2]?=some l[(i+j) / 2]:=List.getElem?_eq_getElem hm
   rw [QaR e1,Qaj]
   generalize l[(i+j) / 2]=p at e1
   have hp:=h.bd e1
   unfold QeV
   rw [subI (by omega) (by omega),Qaj]
   refine QaE (fun hc=>Qc4 ?_) (fun hc=>Qc4 ?_)
   ·simp only [Qoi] at hc
    refine ⟨⟨(i+j) / 2+1,j,by rw [addI (by omega) (by omega)]; simp,by omega,hjl,fun k q hk hq=>?_,h2⟩,by rw [addI (by omega) (by omega)]; simp; omega⟩
    rcases Nat.lt_or_ge k ((i+j) / 2) with hk'|hk'
    ·have:=h.srt.lt hk' hq e1; omega
    ·obtain rfl:k=(i+j) / 2:=by omega
     rw [e1] at hq; cases hq; omega
   ·simp only [QoX] at hc
    refine ⟨⟨i,(i+j) / 2,rfl,by omega,by omega,h1,fun k q hk hq=>?_⟩,by simp; omega⟩
    rcases Nat.lt_or_ge ((i+j) / 2) k with hk'|hk'
    ·have:=h.srt.lt hk' e1 hq; omega
    ·obtain rfl:k=(i+j) / 2:=by omega
     rw [e1] at hq; cases hq; omega
  ·simp only [QoX] at hb
   obtain rfl:i=j:=by omega
   exact ⟨i,rfl,hjl,h1,h2⟩
 ·rintro _ ⟨i,rfl,hi,h1,h2⟩
  refine QaE (fun hb=>?_) (fun hb=>Qaw.2 ⟨i,rfl,hi,h1,h2,?_⟩)
  ·simp only [Qoi,lenI] at hb
   have hi':i<l.length:=by omega
   have e1:l[i]?=some l[i]:=List.getElem?_eq_getElem hi'
   rw [QaR e1,Qaj]
   generalize l[i]=p at e1
   have hp:=h.bd e1
   unfold QeV
   rw [subI (by omega) (by omega),Qaj,Qaw]
   refine ⟨i,rfl,hi,h1,h2,?_⟩
   simp only [QrZ,e1,Option.some.injEq,exists_eq_left']
   omega
  ·simp only [QoX,lenI] at hb
   rw [List.getElem?_eq_none (by omega)]
   simp
theorem Qra {l:List Pt} (h:QsL l) {t:Int} (ht:inT t):QjU l t=some (arrL l t):=by
 apply post.eq
 have hpos:=h.pos; have hmost:=h.most
 obtain ⟨⟨x,f⟩,hx,i,rfl,hi,h1,h2,h3⟩:=QwH h ht
 simp only at h3
 unfold QjU
 rw [hx,Qaj]
 unfold inT at ht
 refine QaE (fun hb=>?_) (fun hb=>?_)
 ·obtain ⟨p,e1,hpt⟩:=h3.1 hb
  show post (bnd (getI l (i:Int)) _) _
  rw [QaR e1,Qaj,Qaw]
  subst hpt
  rcases Nat.lt_or_ge (i+1) l.length with h'|h'
  ·have e2:l[i+1]?=some l[i+1]:=List.getElem?_eq_getElem h'
   have hlt:=(h.srt.pair e1 e2).1
   rw [Qun h.srt e1 e2 (by omega) (by omega),QwI hlt]
  ·have hil:i=l.length-1:=by have:=(List.getElem?_eq_some_iff.1 e1).1; omega
   rw [hil] at e1
   rw [Qsz h.srt e1 (by omega)]; omega
 ·have hnf:∀ p,l[i]?=some p→p.t≠t:=fun p hp he=>by
   have:=h3.2 ⟨p,hp,he⟩
   simp only at hb
   rw [this] at hb; cases hb
  have e0:l[0]?=some l[0]:=List.getElem?_eq_getElem (by omega)
  show post (br (eqI (i:Int) 0) _ _) _
  refine QaE (fun hc=>?_) (fun hc=>?_)
  ·simp only [QrZ] at hc
   obtain rfl:i=0:=by omega
   rw [show (0:Int)=((0:Nat):Int) from rfl,QaR e0,Qaj]
   have hp:=h.bd e0
   have h4:=h2 0 _ (by omega) e0
   generalize l[0]=p at e0 hp h4
   obtain ⟨r,hr⟩:∃ r,l=p :: r:=by
    cases l with
    | nil=>simp at hpos
    | cons x r=>cases e0; exact ⟨r,rfl⟩
   simp (disch:=omega) only [addI,subI,Qaw]
   rw [hr,Qy9 (by rw [← hr]; exact h.srt) h4]
  ·simp only [Qv9] at hc
   have e1:l[i-1]?=some (l[i-1]'(by omega)):=List.getElem?_eq_getElem _
   have hs:subK .i64 (i:Int) 1=((i-1:Nat):Int):=by rw [subI (by omega) (by omega)]; omega
   have hp:=h.bd e1
   have h4:=h1 (i-1) _ (by omega) e1
   show post (br (eqI (i:Int) (lenI l)) (bnd (getI l (subK .i64 (i:Int) 1)) _) _) _
   rw [hs]
   refine QaE (fun hd=>?_) (fun hd=>?_)
   ·simp only [QrZ,lenI] at hd
    obtain rfl:i=l.length:=by omega
    rw [QaR e1,Qaj]
    simp (disch:=omega) only [addI,subI,Qaw]
    rw [Qsz h.srt e1 (by omega)]
   ·simp only [Qv9,lenI] at hd
    have e2:l[i]?=some (l[i]'(by omega)):=List.getElem?_eq_getElem _
    have hq:=h.bd e2
    have h5:=h2 i _ (by omega) e2
    show post (bnd (getI l ((i-1:Nat):Int)) fun x3=>bnd (getI l (i:Int)) fun x4=>_) _
    rw [QaR e1,Qaj,QaR e2,Qaj]
    have e2':l[i-1+1]?=some (l[i]'(by omega)):=by rw [show i-1+1=i by omega]; exact e2
    generalize l[i-1]=p at e1 hp h4
    generalize l[i]=q at e2 e2' hq h5
    obtain ⟨hpq,hpa⟩:=h.srt.pair e1 e2'
    obtain ⟨n1,n2,n3,n4⟩:=QC2 (h.at e1) (h.at e2) hpq hpa (Int.le_of_lt h4) h5
    simp (disch:=omega) only [addI,subI,mulI,quoP]
    refine Qbc (by omega) (Qaw.2 ?_)
    rw [Qun h.srt e1 e2' (Int.le_of_lt h4) h5]
    rfl
theorem Qq9 {l:List Pt} (h:QsL l) {t:Int} (ht:inT t):QjT l t=some (arrL l t):=by
 unfold QjT
 rw [show Qfn t 0 1073741824=some true by unfold Qfn; unfold inT at ht; simp only [Option.some.injEq,andT,Qqs,QBT]; omega,Qaj,QcK,QrV h,Qaj,QcK,Qra h ht,Qaj]
end Go.Proofs.YtfjiafgldchinaaGreatDoor
namespace Go.Proofs.YtfjiafgldchinaaGreatDoor
set_option linter.unusedSimpArgs false
set_option linter.unusedVariables false
set_option linter.unusedSectionVars false

class Sm (α : Type) where
  sm : α → Prop
instance:Sm Qac:=⟨fun f=>f.at_.size≤64⟩
instance:Sm Int:=⟨fun _=>True⟩
section
variable {α β : Type} [Sm α]
def Ext (l0:List α) (c:Nat) (P:Prop) (r:List α):Prop:=∃ new,r=l0++new∧new.length≤c∧(new=[]→P)∧∀ x∈new,Sm.sm x
theorem Ext.nil {l0:List α} {c:Nat} {P:Prop} (h:P):Ext l0 c P l0:=⟨[],by simp,by simp,fun _=>h,by simp⟩
theorem Ext.one {l0:List α} {c:Nat} {P:Prop} {x:α} (hc:1≤c) (hx:Sm.sm x):Ext l0 c P (l0++[x]):=⟨[x],rfl,hc,fun h=>by (cases h),fun y hy=>by rw [List.mem_singleton.1 hy]; exact hx⟩
theorem Ext.trans {a b r:List α} {c d e:Nat} {P Q R:Prop} (h:Ext a c P b) (h':Ext b d Q r) (he:c+d≤e) (hr:P→Q→R):Ext a e R r:=by
 obtain ⟨n,rfl,h1,h2,h5⟩:=h
 obtain ⟨m,rfl,h3,h4,h6⟩:=h'
 refine ⟨n++m,by simp,by simp; omega,fun h=>?_,fun x hx=>by rcases List.mem_append.1 hx with h|h; exact h5 x h; exact h6 x h⟩
 rw [List.append_eq_nil_iff] at h
 exact hr (h2 h.1) (h4 h.2)
theorem Ext.len {a r:List α} {c:Nat} {P:Prop} (h:Ext a c P r):r.length≤a.length+c:=by obtain ⟨n,rfl,h1,_⟩:=h; simp; omega
theorem Ext.of_nil {r:List α} {c:Nat} {P:Prop} (h:Ext [] c P r) (hr:r=[]):P:=by
 obtain ⟨n,rfl,_,h2,_⟩:=h
 exact h2 (by simpa using hr)
theorem Ext.sms {r:List α} {c:Nat} {P:Prop} (h:Ext [] c P r):∀ x∈r,Sm.sm x:=by
 obtain ⟨n,rfl,_,_,h2⟩:=h
 simpa using h2
theorem Ext.mono {a r:List α} {c d:Nat} {P Q:Prop} (h:Ext a c P r) (hc:c≤d) (hp:P→Q):Ext a d Q r:=by
 obtain ⟨n,rfl,h1,h2,h3⟩:=h
 exact ⟨n,rfl,by omega,fun hn=>hp (h2 hn),h3⟩
def RndE (out:List α) (i:Int) (c:Nat) (P:Prop) (x:(List α×Int)⊕β):Prop:=∃ r,x=.inl (r,i)∧Ext out c P r
theorem QxU {out:List α} {i j:Int} {c:Nat} {P:Prop} (hi:j=i) (h:P):post (some (Sum.inl (out,j):(List α×Int)⊕β)) (RndE out i c P):=⟨_,rfl,out,by rw [hi],.nil h⟩
theorem Qtu {out:List α} {x:α} {i j:Int} {c:Nat} {P:Prop} (hi:j=i) (hc:1≤c) (hx:Sm.sm x):post (some (Sum.inl (out++[x],j):(List α×Int)⊕β)) (RndE out i c P):=⟨_,rfl,_,by rw [hi],.one hc hx⟩
theorem QjN {B:List α×Int→Option ((List α×Int)⊕(List α))} (n c:Nat) (P:Nat→Prop) (l0:List α) (hn:n<18446744073709551615)
  (step:∀ (i:Nat) (out:List α),i<n→out.length≤l0.length+c*i→post (B (out,(i:Int))) (RndE out ((i:Int)+1) c (P i)))
  (fin:∀ out,B (out,(n:Int))=some (.inr out)):post (QaK B (l0,0)) (Ext l0 (c*n) (∀ i,i<n→P i)):=by
 refine Qct (fun s=>∃ i:Nat,s.2=(i:Int)∧i≤n∧Ext l0 (c*i) (∀ k,k<i→P k) s.1) (fun s=>n-s.2.toNat)
  ⟨0,rfl,Nat.zero_le _,.nil (by simp)⟩ (by simp; omega) ?_
 rintro ⟨out,j⟩ ⟨i,hj,hi,hl⟩
 simp only at hj hl
 subst hj
 by_cases h:i<n
 ·refine (step i out h hl.len).mono ?_
  rintro x ⟨r,rfl,h1⟩
  refine ⟨fun s' hs=>?_,fun _ h=>by cases h⟩
  cases hs
  refine ⟨⟨i+1,by simp,by omega,hl.trans h1 (by rw [Nat.mul_add]; omega) fun h2 h3 k hk=>?_⟩,by simp; omega⟩
  rcases Nat.lt_or_ge k i with h|h
  ·exact h2 k h
  ·obtain rfl:k=i:=by omega
   exact h3
 ·obtain rfl:i=n:=by omega
  rw [fin]
  exact Qcg hl
end
theorem QA9 {e:Int} {s:ByteArray} (h:s.size≤64):Sm.sm (Qac.mk e s):=h
theorem Qnh (a b:ByteArray):(catS a b).size=a.size+b.size:=by unfold catS; exact ByteArray.size_append
theorem QvI {B:Bool×Int→Option ((Bool×Int)⊕Bool)} (n:Nat) (P:Nat→Prop) (hn:n<18446744073709551615)
  (step:∀ (k:Nat) (b:Bool),k<n→post (B (b,(k:Int))) fun x=>∃ b',x=.inl (b',(k:Int)+1)∧(b'=true↔b=true∨P k))
  (fin:∀ b,B (b,(n:Int))=some (.inr b)):post (QaK B (false,0)) fun r=>(r=true↔∃ k,k<n∧P k):=by
 refine Qct (fun s=>∃ i:Nat,s.2=(i:Int)∧i≤n∧(s.1=true↔∃ k,k<i∧P k)) (fun s=>n-s.2.toNat) ⟨0,rfl,Nat.zero_le _,by simp⟩ (by simp; omega) ?_
 rintro ⟨b,j⟩ ⟨i,hj,hi,hl⟩
 simp only at hj hl
 subst hj
 by_cases h:i<n
 ·refine (step i b h).mono ?_
  rintro x ⟨b',rfl,h1⟩
  refine ⟨fun s' hs=>?_,fun _ h=>by cases h⟩
  cases hs
  refine ⟨⟨i+1,by simp,by omega,?_⟩,by simp; omega⟩
  simp only
  rw [h1,hl]
  constructor
  ·rintro (⟨k,h2,h3⟩|h2)
   ·exact ⟨k,by omega,h3⟩
   ·exact ⟨i,by omega,h2⟩
  ·rintro ⟨k,h2,h3⟩
   rcases Nat.lt_or_ge k i with h|h
   ·exact .inl ⟨k,h,h3⟩
   ·obtain rfl:k=i:=by omega
    exact .inr h3
 ·obtain rfl:i=n:=by omega
  rw [fin]
  exact Qcg hl
theorem inc {i n:Nat} (h:i<n) (hn:n≤1048576):addK .i64 (i:Int) 1=(i:Int)+1:=addI (by omega) (by omega)
theorem dec {i:Nat} (h:0<i) (hn:i≤1048576):subK .i64 (i:Int) 1=((i-1:Nat):Int):=by rw [subI (by omega) (by omega)]; omega

theorem QCG {s:ByteArray} {i:Int} (h0:0≤i) (h1:i<s.size):∃ b,getS s i=some b:=by
 unfold getS
 rw [if_pos h0]
 exact ⟨_,getElem?_pos s i.toNat (by omega)⟩
theorem QuF (s:ByteArray) (hs:s.size≤1048576):post (QeO s) fun _=>True:=by
 unfold QeO
 refine QaE (fun _=>Qaw.2 trivial) (fun hb=>?_)
 simp only [orF,QoX,Qqt,QyH] at hb
 obtain ⟨b,hb0⟩:=QCG (s:=s) (i:=0) (by omega) (by omega)
 rw [hb0,Qaj]
 refine QaP (R:=fun _=>True) ⟨_,rfl,trivial⟩ fun r _=>QaE (fun _=>Qaw.2 trivial) fun _=>?_
 refine QaP (R:=fun _=>True) ?_ fun e _=>?_
 ·refine Qct (fun i=>∃ k:Nat,i=(k:Int)∧k≤s.size) (fun i=>s.size-i.toNat) ⟨0,rfl,Nat.zero_le _⟩ (by simp; omega) ?_
  rintro _ ⟨k,rfl,hk⟩
  show post (Qd7 s b (k:Int)) _
  unfold Qd7
  refine QaE (fun hb=>?_) (fun _=>Qcg trivial)
  simp only [Qoi,QyH] at hb
  obtain ⟨c,hc⟩:=QCG (s:=s) (i:=k) (by omega) (by omega)
  rw [hc,Qaj,inc (n:=s.size) (by omega) hs]
  have leaf:post (some (Sum.inl ((k:Int)+1):Int⊕(Unit⊕Bool))) fun x=>(∀ s',x=.inl s'→(∃ k:Nat,s'=(k:Int)∧k≤s.size)∧s.size-s'.toNat<s.size-(k:Int).toNat)∧∀ e,x=.inr e→True :=
   Qc4 ⟨⟨k+1,by simp,by omega⟩,by simp; omega⟩
  refine QaP (R:=fun _=>True) ⟨_,rfl,trivial⟩ fun r1 _=>QaE (fun _=>leaf) fun _=>?_
  exact QaP (R:=fun _=>True) ⟨_,rfl,trivial⟩ fun r2 _=>QaE (fun _=>leaf) fun _=>Qcg trivial
 ·cases e with
  | inl u=>exact Qaw.2 trivial
  | inr r=>exact Qaw.2 trivial

structure ArcI (a:Qao):Prop where
 travel:a.travel.length≤1048576
 slow:a.slow.length≤1048576
 pts:∀ p∈a.travel,ptI p
 pts2:∀ p∈a.slow,ptI p
structure NetI (n:Qak):Prop where
 places:n.places.length≤1048576
 arcs:n.arcs.length≤1048576
 names:∀ s∈n.places,s.size≤1048576
 arcI:∀ a∈n.arcs,ArcI a
def okS (l:List Pt) (i:Nat):Prop:=∀ p,l[i]?=some p→0≤p.t∧p.t≤4096∧0≤p.a∧p.a≤4096∧(0<i→∀ q,l[i-1]?=some q→q.t<p.t)
structure QCm (np:Nat) (a:Qao):Prop where
 from0:0≤a.from_
 from1:a.from_<np
 to0:0≤a.to_
 to1:a.to_<np
 prof0:0≤a.profile
 prof1:a.profile≤7
 miles0:0≤a.miles
 miles1:a.miles≤10000
 ne:a.from_≠a.to_
 travel:QsL a.travel
 slow:a.slow.length≤16
 slowAll:∀ i,i<a.slow.length→okS a.slow i
def QsM (a b:Qao):Prop:=a.from_=b.from_∧a.to_=b.to_∧a.profile=b.profile
structure QCo (n:Qak):Prop where
 places:n.places.length≤24
 arcs:n.arcs.length≤1024
 all:∀ a∈n.arcs,QCm n.places.length a
 once:∀ (i k:Nat) (a b:Qao),k<i→n.arcs[i]?=some a→n.arcs[k]?=some b→¬ QsM a b

theorem QsT {n:Qak} (hn:NetI n):post (QcC n) (Ext [] (1+n.places.length) (n.places.length≤24)):=by
 have hpl:=hn.places
 have main:∀ l0:List Qac,l0.length≤1→post (Qb2 n l0) (Ext l0 n.places.length True):=by
  intro l0 hin
  refine QaP (R:=Ext l0 n.places.length True) ?_ fun a h=>Qaw.2 h
  refine (QjN n.places.length 1 (fun _=>True) l0 (by omega) (fun i out hi ho=>?_) (fun out=>?_)).mono fun r h=>h.mono (by omega) fun _=>trivial
  ·show post (Qa1 n l0 out (i:Int)) _
   unfold Qa1
   rw [Qbj (by simp [lenI]; exact hi),inc hi hpl]
   refine QaP (QkY (i:Int) (QvE (by omega))) fun r hr=>Qbc (by show 6+r.size≤_; omega) ?_
   have e1:n.places[i]?=some n.places[i]:=List.getElem?_eq_getElem hi
   rw [QaR e1,Qaj]
   have hok:∀ f:Qac,okN (out++[f]).length 24:=fun f=>Qek (by simp; omega)
   have hsm:∀ {e:Int},Sm.sm (Qac.mk e (catS Qdb r)):=QA9 (by rw [Qnh]; show 6+r.size≤64; omega)
   refine QaP (QuF _ (hn.names _ (List.getElem_mem hi))) fun r1 _=>QaE (fun _=>?_) (fun _=>Qbc (hok _) (Qtu rfl (by omega) hsm))
   refine QaP (R:=fun _=>True) ((QvI i (fun k=>∃ x,n.places[k]?=some x∧eqS x n.places[i]=true) (by omega) (fun k b hk=>?_) (fun b=>?_)).mono fun _ _=>trivial) fun tw _=>QaE (fun _=>Qbc (hok _) (Qtu rfl (by omega) hsm)) (fun _=>QxU rfl trivial)
   ·show post (Qa2 n l0 out (i:Int) r b (k:Int)) _
    unfold Qa2
    rw [Qbj (by simp; omega),inc (n:=i) hk (by omega)]
    have e2:n.places[k]?=some (n.places[k]'(by omega)):=List.getElem?_eq_getElem _
    refine QaE (fun h=>Qaw.2 ⟨true,rfl,by simp [h]⟩) (fun h=>?_)
    rw [QaR e2,Qaj,QaR e1,Qaj,Qaw]
    exact ⟨_,rfl,by simp [h,e2]⟩
   ·show Qa2 n l0 out (i:Int) r b (i:Int)=_
    unfold Qa2
    rw [QaW (by simp)]
  ·show Qa1 n l0 out (n.places.length:Int)=_
   unfold Qa1
   rw [QaW (by simp [lenI])]
 unfold QcC
 refine QaE (fun h=>Qbc (Qek (by simp)) ((main _ (by simp)).mono fun r h'=>?_)) (fun h=>(main _ (by simp)).mono fun r h'=>h'.mono (by omega) fun _=>?_)
 ·exact (Ext.one (l0:=[]) (P:=n.places.length≤24) (Nat.le_refl 1) (QA9 (s:=QjR) (show 6≤64 by omega))).trans h' (Nat.le_refl _) fun h _=>h
 ·simp only [Qqt,lenI] at h; omega
theorem QC5 (t:Int):QfR t=some (decide (0≤t∧t≤4096)):=by
 unfold QfR
 congr 1
 rw [Bool.eq_iff_iff,andT,Qqs,QBT,decide_eq_true_iff]
theorem QxY {r:ByteArray} (hr:r.size≤21) {x0:Qao} {l l0:List Qac} (hI:ArcI x0) (hin:l0.length≤4194304):post (Qbn r x0 l l0) (Ext l0 x0.slow.length (∀ i,i<x0.slow.length→okS x0.slow i)):=by
 have hsl:=hI.slow
 have hsm:∀ {e:Int},Sm.sm (Qac.mk e (catS QaL r)):=QA9 (by rw [Qnh]; show 4+r.size≤64; omega)
 refine QaP (R:=Ext l0 x0.slow.length (∀ i,i<x0.slow.length→okS x0.slow i)) ?_ fun a h=>Qaw.2 h
 refine (QjN x0.slow.length 1 (okS x0.slow) l0 (by omega) (fun i out hi ho=>?_) (fun out=>?_)).mono fun r h=>h.mono (by omega) id
 ·show post (QbP r x0 l out (i:Int)) _
  unfold QbP
  have hok:∀ f:Qac,okN (out++[f]).length 24:=fun f=>Qek (by simp; omega)
  have e1:x0.slow[i]?=some x0.slow[i]:=List.getElem?_eq_getElem hi
  rw [Qbj (by simp [lenI]; exact hi),inc hi hsl,QaR e1,Qaj,QC5,Qaj,QC5]
  generalize x0.slow[i]=p at e1
  have no:post (chk (okN (out++[Qac.mk 2 (catS QaL r)]).length 24) (some (Sum.inl (out++[Qac.mk 2 (catS QaL r)],(i:Int)+1):(List Qac×Int)⊕(List Qac)))) (RndE out ((i:Int)+1) 1 (okS x0.slow i)):=Qbc (hok _) (Qtu rfl (by omega) hsm)
  refine QaE (fun h1=>?_) (fun _=>no)
  rw [Qaj]
  refine QaE (fun h2=>QaE (fun h3=>?_) (fun h3=>QxU rfl ?_)) (fun _=>no)
  ·simp only [Qwg] at h3
   have e2:x0.slow[i-1]?=some (x0.slow[i-1]'(by omega)):=List.getElem?_eq_getElem _
   rw [dec (by omega) (by omega),QaR e2,Qaj]
   refine QaE (fun _=>no) (fun h4=>QxU rfl ?_)
   simp only [QEB,decide_eq_true_iff] at h1 h2 h4
   intro x hx; rw [e1] at hx; cases hx
   exact ⟨h1.1,h1.2,h2.1,h2.2,fun _ q hq=>by rw [e2] at hq; cases hq; exact h4⟩
  ·simp only [Qqt,decide_eq_true_iff] at h1 h2 h3
   intro x hx; rw [e1] at hx; cases hx
   exact ⟨h1.1,h1.2,h2.1,h2.2,fun h=>by omega⟩
 ·show QbP r x0 l out (x0.slow.length:Int)=_
  unfold QbP
  rw [QaW (by simp [lenI])]
theorem Qvg {n:Qak} (hn:NetI n) {i:Nat} {a:Qao} (ha:n.arcs[i]?=some a) :
  post (Qez n (i:Int)) (Ext [] 3145735 (QCm n.places.length a∧∀ (k:Nat) (b:Qao),k<i→n.arcs[k]?=some b→¬ QsM a b)):=by
 have hi:i<n.arcs.length:=(List.getElem?_eq_some_iff.1 ha).1
 have hal:=hn.arcs
 have hI:=hn.arcI a (List.mem_of_getElem? ha)
 have hsl:=hI.slow
 have htl:=hI.travel
 unfold Qez
 refine QaP (QkY (i:Int) (QvE (by omega))) fun r hr=>Qbc (by show 4+r.size≤_; omega) ?_
 rw [QaR ha,Qaj]
 have hsm:∀ {e:Int},Sm.sm (Qac.mk e (catS QaL r)):=QA9 (by rw [Qnh]; show 4+r.size≤64; omega)
 have gen:∀ (l l0:List Qac),l0.length≤3→post (QbM r a l l0) (Ext l0 3145732 (QsL a.travel∧a.slow.length≤16∧∀ i,i<a.slow.length→okS a.slow i)):=by
  intro l l0 hin
  unfold QbM
  refine QaP (Qo4 htl hI.pts) fun r1 hr1=>?_
  refine QaP (R:=Ext l0 2097153 (QsL a.travel)) ?_ fun l4 h4=>?_
  ·refine (QjN r1.length 1 (fun _=>False) l0 (by omega) (fun k out hk ho=>?_) (fun out=>?_)).mono fun x hx=>?_
   ·show post (QbO r a l r1 out (k:Int)) _
    unfold QbO
    have e1:r1[k]?=some r1[k]:=List.getElem?_eq_getElem hk
    have hadd:addK .i64 (k:Int) 1=(k:Int)+1:=addI (by omega) (by omega)
    rw [Qbj (by simp [lenI]; exact hk),hadd,QaR e1,Qaj]
    exact Qbc (Qek (by simp; omega)) (Qtu rfl (by omega) hsm)
   ·show QbO r a l r1 out (r1.length:Int)=_
    unfold QbO
    rw [QaW (by simp [lenI])]
   ·refine hx.mono (by omega) fun h=>hr1.2.1 ?_
    cases r1 with
    | nil=>rfl
    | cons y ys=>exact (h 0 (by simp)).elim
  ·have h4l:=h4.len
   refine QaE (fun h=>Qbc (Qek (by simp; omega)) ?_) (fun h=>?_)
   ·refine ((QxY hr hI (by simp; omega)).mono fun _ h=>h.mono hsl id:post (Qbn r a l _) (Ext _ 1048576 _)).mono fun x hx=>?_
    refine h4.trans ((Ext.one (P:=False) (Nat.le_refl 1) hsm).trans hx (e:=1048577) (by omega) (fun h _=>h)) (by omega) fun h1 h2=>h2.elim
   ·refine ((QxY hr hI (by omega)).mono fun _ h=>h.mono hsl id:post (Qbn r a l _) (Ext _ 1048576 _)).mono fun x hx=>?_
    simp only [Qqt,lenI] at h
    exact h4.trans hx (by omega) fun h1 h2=>⟨h1,by omega,h2⟩
 have gen2:∀ (l l0:List Qac),l0.length≤2→post (QcN n (i:Int) r a l l0) (Ext l0 3145733 ((∀ (k:Nat) (b:Qao),k<i→n.arcs[k]?=some b→¬ QsM a b)∧QsL a.travel∧a.slow.length≤16∧∀ i,i<a.slow.length→okS a.slow i)):=by
  intro l l0 hin
  unfold QcN
  refine QaP (QvI i (fun k=>∃ b,n.arcs[k]?=some b∧QsM a b) (by omega) (fun k b hk=>?_) (fun b=>?_)) fun tw htw=>QaE (fun h=>Qbc (Qek (by simp; omega)) ?_) (fun h=>?_)
  ·show post (QbN n (i:Int) r a l l0 b (k:Int)) _
   unfold QbN
   have e1:n.arcs[k]?=some (n.arcs[k]'(by omega)):=List.getElem?_eq_getElem _
   rw [Qbj (by simp; omega),inc (n:=i) hk (by omega),QaR e1,Qaj,Qaw]
   refine ⟨_,rfl,?_⟩
   simp only [orT,andT,QrZ,e1,Option.some.injEq,exists_eq_left',QsM,and_assoc]
  ·show QbN n (i:Int) r a l l0 b (i:Int)=_
   unfold QbN
   rw [QaW (by simp)]
  ·exact (gen l _ (by simp; omega)).mono fun x hx=>(Ext.one (P:=False) (Nat.le_refl 1) hsm).trans hx (by omega) fun h _=>h.elim
  ·refine (gen l _ (by omega)).mono fun x hx=>hx.mono (by omega) fun h'=>⟨fun k b hk hb hs=>?_,h'⟩
   rw [htw.2 ⟨k,hk,b,hb,hs⟩] at h; cases h
 have fin:∀ (l:List Qac),l.length≤1→post (QcM n (i:Int) r a l) (Ext l 3145734 (0≤a.profile∧a.profile≤7∧0≤a.miles∧a.miles≤10000∧a.from_≠a.to_∧(∀ (k:Nat) (b:Qao),k<i→n.arcs[k]?=some b→¬ QsM a b)∧QsL a.travel∧a.slow.length≤16∧∀ i,i<a.slow.length→okS a.slow i)):=by
  intro l hl
  unfold QcM
  refine QaE (fun h=>Qbc (Qek (by simp; omega)) ?_) (fun h=>?_)
  ·exact (gen2 l _ (by simp; omega)).mono fun x hx=>(Ext.one (P:=False) (Nat.le_refl 1) hsm).trans hx (by omega) fun h _=>h.elim
  ·simp only [orF,QoX,Qqt,Qv9] at h
   exact (gen2 l _ (by omega)).mono fun x hx=>hx.mono (by omega) fun h'=>⟨h.1.1.1.1,h.1.1.1.2,h.1.1.2,h.1.2,h.2,h'⟩
 refine QaE (fun h=>Qbc (Qek (by simp)) ?_) (fun h=>?_)
 ·exact (fin _ (by simp)).mono fun x hx=>(Ext.one (l0:=[]) (P:=False) (Nat.le_refl 1) hsm).trans hx (by omega) fun h _=>h.elim
 ·simp only [orF,QoX,Qys,lenI] at h
  exact (fin _ (by simp)).mono fun x hx=>hx.mono (by omega) fun ⟨h1,h2,h3,h4,h5,h6,h7,h8,h9⟩=>⟨⟨h.1.1.1,h.1.1.2,h.1.2,h.2,h1,h2,h3,h4,h5,h7,h8,h9⟩,h6⟩
theorem Qtq {n:Qak} (hn:NetI n):post (Qgf n) (Ext [] (1048578+3145735*n.arcs.length) (QCo n)):=by
 have hal:=hn.arcs
 have hpl:=hn.places
 unfold Qgf
 refine QaP (QsT hn) fun r hr=>?_
 have hrl:=hr.len
 have main:∀ l0:List Qac,l0.length≤1048578→post (Qex n l0) (Ext l0 (3145735*n.arcs.length) (∀ i,i<n.arcs.length→∀ a,n.arcs[i]?=some a→QCm n.places.length a∧∀ (k:Nat) (b:Qao),k<i→n.arcs[k]?=some b→¬ QsM a b)):=by
  intro l0 hin
  refine Qpo ?_
  refine (QjN n.arcs.length 3145735 _ l0 (by omega) (fun i out hi ho=>?_) (fun out=>?_)).mono fun r h=>Qaw.2 h
  ·show post (Qcx n l0 out (i:Int)) _
   unfold Qcx
   have e1:n.arcs[i]?=some n.arcs[i]:=List.getElem?_eq_getElem hi
   rw [Qbj (by simp [lenI]; exact hi),inc hi hal]
   refine QaP (Qvg hn e1) fun r1 hr1=>?_
   obtain ⟨new,h1,h2,h3,h4⟩:=hr1
   rw [List.nil_append] at h1
   subst h1
   refine Qbc (Qek (by simp; omega)) (Qaw.2 ⟨_,rfl,_,rfl,h2,fun h a ha=>?_,h4⟩)
   rw [e1] at ha; cases ha
   exact h3 h
  ·show Qcx n l0 out (n.arcs.length:Int)=_
   unfold Qcx
   rw [QaW (by simp [lenI])]
 refine QaE (fun h=>Qbc (Qek (by simp at hrl ⊢; omega)) ((main _ (by simp at hrl ⊢; omega)).mono fun x hx=>?_)) (fun h=>(main _ (by simp at hrl; omega)).mono fun x hx=>?_)
 ·exact hr.trans ((Ext.one (P:=False) (Nat.le_refl 1) (QA9 (s:=Qpp) (show 4≤64 by omega))).trans hx (Nat.le_refl _) (R:=False) fun h _=>h) (by omega) fun _ h=>h.elim
 ·simp only [Qqt,lenI] at h
  refine hr.trans hx (by omega) fun h1 h2=>⟨h1,by omega,fun a ha=>?_,fun i k a b hk ha hb=>(h2 i (List.getElem?_eq_some_iff.1 ha).1 a ha).2 k b hk hb⟩
  obtain ⟨i,hi⟩:=List.getElem?_of_mem ha
  exact (h2 i (List.getElem?_eq_some_iff.1 hi).1 a hi).1
end Go.Proofs.YtfjiafgldchinaaGreatDoor
namespace Go.Proofs.YtfjiafgldchinaaGreatDoor
set_option linter.unusedSimpArgs false
set_option linter.unusedVariables false
set_option linter.unusedSectionVars false

def Qgb (l:List Pt) (t:Int):Int:=l.foldr (fun p s=>(if p.t≤t then p.a else 0)+s) 0
theorem QuY (l m:List Pt) (t:Int):Qgb (l++m) t=Qgb l t+Qgb m t:=by
 induction l with
 | nil=>simp [Qgb]
 | cons p l ih=>simp only [Qgb,List.cons_append,List.foldr_cons] at ih ⊢; omega
theorem Qnv {l:List Pt} {t:Int} {i:Nat} {p:Pt} (h:l[i]?=some p):Qgb (l.take (i+1)) t=Qgb (l.take i) t+(if p.t≤t then p.a else 0):=by
 rw [List.take_add_one,h,QuY]; simp [Qgb]
theorem QD6 {l:List Pt} (h:∀ i,i<l.length→okS l i) {i:Nat} {p:Pt} (hp:l[i]?=some p):0≤p.t∧p.t≤4096∧0≤p.a∧p.a≤4096:=by
 have:=h i (List.getElem?_eq_some_iff.1 hp).1 p hp
 exact ⟨this.1,this.2.1,this.2.2.1,this.2.2.2.1⟩
theorem QtC {l:List Pt} (h:∀ i,i<l.length→okS l i) (t:Int):∀ i:Nat,i≤l.length→0≤Qgb (l.take i) t∧Qgb (l.take i) t≤4096*i
 | 0,_=>by simp [Qgb]
 | i+1,hi=>by
  have e1:l[i]?=some (l[i]'(by omega)):=List.getElem?_eq_getElem _
  have ih:=QtC h t i (by omega)
  have:=QD6 h e1
  rw [Qnv e1]
  split <;> omega
def arrA (a:Qao) (t:Int):Int:=arrL a.travel t+Qgb a.slow t
theorem QsL.ne {l:List Pt} (h:QsL l):l≠[]:=fun e=>by have:=h.pos; rw [e] at this; simp at this
theorem QtD {l:List Pt} (h:∀ i,i<l.length→okS l i) (hl:l.length≤16) (t:Int):0≤Qgb l t∧Qgb l t≤65536:=by
 have:=QtC h t l.length (Nat.le_refl _)
 rw [List.take_length] at this; omega
theorem QER {np:Nat} {a:Qao} (h:QCm np a) (t:Int):t≤arrA a t:=by
 have:=QwY h.travel.srt h.travel.ne t
 have:=QtD h.slowAll h.slow t
 unfold arrA; omega
theorem QES {np:Nat} {a:Qao} (h:QCm np a) {t:Int} (ht:0≤t):arrA a t≤t+73728:=by
 have:=QwZ h.travel.srt ht
 have:=QtD h.slowAll h.slow t
 unfold arrA; omega
theorem QwM {l:List Pt} (h:∀ i,i<l.length→okS l i) {t t':Int} (ht:t≤t'):Qgb l t≤Qgb l t':=by
 have:∀ i:Nat,i≤l.length→Qgb (l.take i) t≤Qgb (l.take i) t':=by
  intro i
  induction i with
  | zero=>intro _; simp [Qgb]
  | succ i ih =>
   intro hi
   have e1:l[i]?=some (l[i]'(by omega)):=List.getElem?_eq_getElem _
   have:=QD6 h e1
   rw [Qnv e1,Qnv e1]
   have:=ih (by omega)
   split <;> split <;> omega
 have:=this l.length (Nat.le_refl _)
 rwa [List.take_length] at this
theorem QBh {np:Nat} {a:Qao} (h:QCm np a) {t t':Int} (ht:t≤t'):arrA a t≤arrA a t':=by
 have:=Qw0 h.travel.srt ht
 have:=QwM h.slowAll ht
 unfold arrA; omega
theorem QxX {l:List Pt} {t r:Int} (h:∀ i,i<l.length→okS l i) (hl:l.length≤16) (hr:0≤r) (hr':r≤2147483648) {B:Int×Int→Option ((Int×Int)⊕Int)}
  (hB:∀ out i,B (out,i)=br (ltI i (lenI l)) (bnd (getI l i) fun x0=>br (leI x0.t t) (some (.inl ((addK .i64 out x0.a),(addK .i64 i 1)))) (some (.inl (out,(addK .i64 i 1))))) (some (.inr out))) :
  QaK B (r,0)=some (r+Qgb l t):=by
 have e:QaK B ((fun i:Nat=>(r+Qgb (l.take i) t,(i:Int))) 0)=some (r+Qgb l t):=by
  refine Qep l.length (fun i:Nat=>(r+Qgb (l.take i) t,(i:Int))) (by omega) (fun i hi=>?_) ?_
  ·have e1:l[i]?=some l[i]:=List.getElem?_eq_getElem hi
   have hb:=QtC h t i (by omega)
   have hp:=QD6 h e1
   show B (_,_)=some (.inl (_,_))
   rw [hB,Qbj (by simp [lenI]; exact hi),QaR e1,Qaj,Qnv e1,show addK .i64 (i:Int) 1=((i+1:Nat):Int) by rw [addI (by omega) (by omega)]; omega]
   by_cases hc:l[i].t≤t
   ·rw [Qbj (by simpa using hc),if_pos hc,addI (by omega) (by omega),Int.add_assoc]
   ·rw [QaW (by simp; omega),if_neg hc,Int.add_zero]
  ·show B (_,_)=_
   rw [hB,QaW (by simp [lenI]),List.take_length]
 simpa [Qgb] using e
theorem Qza {np:Nat} {a:Qao} (h:QCm np a) {t:Int} (ht:inT t):Qg6 a t=some (arrA a t):=by
 have h1:=QwY h.travel.srt h.travel.ne t
 have h2:=QwZ h.travel.srt ht.1
 unfold inT at ht
 unfold Qg6
 rw [Qq9 h.travel ht,Qaj,QxX h.slowAll h.slow (by omega) (by omega) (fun out i=>rfl),Qaj]
 rfl
theorem QtY {np:Nat} {a:Qao} (h:QCm np a) {t:Int} (ht:inT t):QfM a t=some (arrA a t):=by
 have h1:=QwY h.travel.srt h.travel.ne t
 have h2:=QwZ h.travel.srt ht.1
 unfold inT at ht
 unfold QfM
 rw [QrJ h.travel ht,Qaj,QxX h.slowAll h.slow (by omega) (by omega) (fun out i=>rfl),Qaj]
 rfl

theorem Qxd {α E:Type} {l:List α} (p:α→Bool) (Y:α→E) (N:E) (hl:l.length≤1048576) {B:Int→Option (Int⊕E)}
  (hB:∀ i,B i=br (ltI i (lenI l)) (bnd (getI l i) fun x=>br (p x) (some (.inr (Y x))) (some (.inl (addK .i64 i 1)))) (some (.inr N))) :
  QaK B 0=some (match l.find? p with|some x=>Y x|none=>N):=by
 apply post.eq
 refine Qct (fun i=>∃ k:Nat,i=(k:Int)∧k≤l.length∧(l.drop k).find? p=l.find? p) (fun i=>l.length-i.toNat) ⟨0,rfl,Nat.zero_le _,rfl⟩ (by simp; omega) ?_
 rintro _ ⟨k,rfl,hk,hf⟩
 rw [hB]
 refine QaE (fun hb=>?_) (fun hb=>Qcg ?_)
 ·simp only [Qoi,lenI] at hb
  have hk':k<l.length:=by omega
  have e1:l[k]?=some l[k]:=List.getElem?_eq_getElem hk'
  rw [List.drop_eq_getElem_cons hk',List.find?_cons] at hf
  rw [QaR e1,Qaj,inc hk' hl]
  refine QaE (fun hc=>Qcg ?_) (fun hc=>Qc4 ⟨⟨k+1,by simp,by omega,?_⟩,by simp; omega⟩)
  ·rw [hc] at hf; simp only at hf; rw [← hf]
  ·rw [hc] at hf; simpa using hf
 ·simp only [QoX,lenI] at hb
  rw [List.drop_eq_nil_of_le (by omega)] at hf
  rw [← hf]; rfl
def QBL (profile from_ to_:Int) (a:Qao):Bool:=decide (a.from_=from_∧a.to_=to_∧a.profile=profile)
def Qyq (n:Qak) (profile from_ to_:Int):Qao×Bool:=match n.arcs.find? (QBL profile from_ to_) with
 | some a=>(a,true)
 | none=>(Qao.mk 0 0 0 0 [] [],false)
theorem QE6 {n:Qak} (h:n.arcs.length≤1048576) (profile from_ to_:Int):Qlr n profile from_ to_=some (Qyq n profile from_ to_):=by
 unfold Qlr Qyq
 have:=Qxd (QBL profile from_ to_) (fun a=>(Sum.inr (a,true):Unit⊕(Qao×Bool))) (.inl ()) h (B:=fun s=>QfW n profile from_ to_ s) (fun i=>by
  unfold QfW
  congr 2
  funext x
  unfold QlZ
  rw [Qaj]
  congr 1
  unfold QBL
  rw [Bool.eq_iff_iff]
  simp [and_assoc])
 rw [QbW this]
 cases n.arcs.find? (QBL profile from_ to_) <;> rfl
theorem QvK {n:Qak} (h:n.arcs.length≤1048576) (profile from_ to_:Int):Qg1 n profile from_ to_=some (Qyq n profile from_ to_):=by
 unfold Qg1 Qyq
 have:=Qxd (QBL profile from_ to_) (fun a=>(Sum.inr (a,true):Unit⊕(Qao×Bool))) (.inl ()) h (B:=fun s=>Qea n profile from_ to_ s) (fun i=>by
  unfold Qea
  congr 2
  funext x
  congr 1
  unfold QBL
  rw [Bool.eq_iff_iff]
  simp [and_assoc])
 rw [QbW this]
 cases n.arcs.find? (QBL profile from_ to_) <;> rfl
theorem QsB {n:Qak} {profile from_ to_:Int} (h:(Qyq n profile from_ to_).2=true):(Qyq n profile from_ to_).1∈n.arcs∧QBL profile from_ to_ (Qyq n profile from_ to_).1=true:=by
 unfold Qyq at h ⊢
 cases hf:n.arcs.find? (QBL profile from_ to_) with
 | none=>rw [hf] at h; cases h
 | some a=>exact ⟨List.mem_of_find?_eq_some hf,List.find?_some hf⟩
def Qh7 (n:Qak) (i:Int):Bool:=decide (0≤i∧i<n.places.length)
theorem QAj (n:Qak) (i:Int):Qhx n i=some (Qh7 n i):=by
 unfold Qhx Qh7 lenI
 congr 1
 rw [Bool.eq_iff_iff]; simp
theorem QqR (n:Qak) (i:Int):Qe0 n i=some (Qh7 n i):=by
 unfold Qe0 Qh7 lenI
 congr 1
 rw [Bool.eq_iff_iff]; simp
def goN (n:Qak) (profile from_ to_ t:Int):Int×Int×Int :=
 if Qh7 n from_=true∧Qh7 n to_=true then
  if from_=to_ then (t,0,0) else
  if (Qyq n profile from_ to_).2=true then (arrA (Qyq n profile from_ to_).1 t,(Qyq n profile from_ to_).1.miles,0) else (0,0,12)
 else (0,0,11)
theorem go_eq {n:Qak} (h:QCo n) (profile from_ to_:Int) {t:Int} (ht:inT t):QmV n profile from_ to_ t=some (goN n profile from_ to_ t):=by
 unfold QmV goN
 rw [QAj,Qaj,QAj,Qaj,QE6 (by have:=h.arcs; omega),Qaj]
 simp only [QCu,QrZ]
 by_cases h1:Qh7 n from_=true
 ·by_cases h2:Qh7 n to_=true
  ·rw [if_pos h1,if_pos h2,if_pos (And.intro h1 h2)]
   by_cases h3:from_=to_
   ·rw [if_pos h3,if_pos h3]
   ·rw [if_neg h3,if_neg h3]
    by_cases h4:(Qyq n profile from_ to_).2=true
    ·rw [if_pos h4,if_pos h4,Qza (h.all _ (QsB h4).1) ht,Qaj]
    ·rw [if_neg h4,if_neg h4]
  ·rw [if_pos h1,if_neg h2,if_neg (fun h:Qh7 n from_=true∧Qh7 n to_=true=>h2 h.2)]
 ·rw [if_neg h1,if_neg (fun h:Qh7 n from_=true∧Qh7 n to_=true=>h1 h.1)]
theorem Quj {n:Qak} (h:QCo n) (profile from_ to_:Int) {t:Int} (ht:inT t):Qey n profile from_ to_ t=some (goN n profile from_ to_ t):=by
 unfold Qey goN
 rw [QqR,Qaj,QqR,Qaj,QvK (by have:=h.arcs; omega),Qaj]
 simp only [QCu,QrZ]
 by_cases h1:Qh7 n from_=true
 ·by_cases h2:Qh7 n to_=true
  ·rw [if_pos h1,if_pos h2,if_pos (And.intro h1 h2)]
   by_cases h3:from_=to_
   ·rw [if_pos h3,if_pos h3]
   ·rw [if_neg h3,if_neg h3]
    by_cases h4:(Qyq n profile from_ to_).2=true
    ·rw [if_pos h4,if_pos h4,QtY (h.all _ (QsB h4).1) ht,Qaj]
    ·rw [if_neg h4,if_neg h4]
  ·rw [if_pos h1,if_neg h2,if_neg (fun h:Qh7 n from_=true∧Qh7 n to_=true=>h2 h.2)]
 ·rw [if_neg h1,if_neg (fun h:Qh7 n from_=true∧Qh7 n to_=true=>h1 h.1)]

end Go.Proofs.YtfjiafgldchinaaGreatDoor
namespace Go.Proofs.YtfjiafgldchinaaGreatDoor
set_option linter.unusedSimpArgs false
set_option linter.unusedVariables false
set_option linter.unusedSectionVars false

def Stg (f:List Int→Option (List Int)) (c:Nat) (P:Prop):Prop:=∀ l:List Int,l.length+c≤100→post (f l) (Ext l c P)
section
variable {f : List Int → Option (List Int)} {c : Nat} {P Q : Prop} {l : List Int} {e : Int}
theorem Stg.bad (h:Stg f c P) (hl:l.length+(c+1)≤100):post (chk (okN (l++[e]).length 8) (f (l++[e]))) (Ext l (c+1) Q) :=
 Qbc (Qek (by simp; omega)) ((h (l++[e]) (by simp; omega)).mono fun x hx=>(Ext.one (P:=False) (Nat.le_refl 1) trivial).trans hx (by omega) fun h _=>h.elim)
theorem Stg.good (h:Stg f c P) (hl:l.length+(c+1)≤100) (hp:P→Q):post (f l) (Ext l (c+1) Q):=(h l (by omega)).mono fun x hx=>hx.mono (by omega) hp
theorem Qt9 (hl:l.length+1≤100):post (chk (okN (l++[e]).length 8) (some (l++[e]))) (Ext l 1 Q):=Qbc (Qek (by simp; omega)) (Qaw.2 (.one (Nat.le_refl 1) trivial))
theorem Qzp (hq:Q):post (some l) (Ext l 1 Q):=Qaw.2 (.nil hq)
end
section
variable {α : Type} {n lo hi : Int} {f : Bool → Option α} {Q : α → Prop}
theorem Qhc (h:post (f (decide (lo≤n∧n≤hi))) Q):post (bnd (QaH n lo hi) f) Q:=by
 have:QaH n lo hi=some (decide (lo≤n∧n≤hi)):=by
  unfold QaH
  congr 1
  rw [Bool.eq_iff_iff,andT,Qqs,QBT,decide_eq_true_iff]
 rw [this]; exact h
theorem QsS (h:post (f (decide (lo≤n∧n≤hi))) Q):post (bnd (Qbp n lo hi) f) Q:=Qhc h
end
theorem QqO {E:Type} {B:Int→Option (Int⊕E)} (n:Nat) (R:E→Prop) (P:Nat→Prop) (hn:n<18446744073709551615)
  (step:∀ i,i<n→post (B (i:Int)) fun x=>(x=.inl ((i:Int)+1)∧P i)∨∃ e,x=.inr e∧R e) (fin:post (B (n:Int)) fun x=>∃ e,x=.inr e∧((∀ i,i<n→P i)→R e)):post (QaK B 0) R:=by
 refine Qct (fun i=>∃ k:Nat,i=(k:Int)∧k≤n∧∀ j,j<k→P j) (fun i=>n-i.toNat) ⟨0,rfl,Nat.zero_le _,by simp⟩ (by simp; omega) ?_
 rintro _ ⟨k,rfl,hk,hP⟩
 by_cases h:k<n
 ·refine (step k h).mono ?_
  rintro x (⟨rfl,hp⟩|⟨e,rfl,he⟩)
  ·refine ⟨fun s' hs=>?_,fun _ h=>by (cases h)⟩
   cases hs
   refine ⟨⟨k+1,by simp,by omega,fun j hj=>?_⟩,by simp; omega⟩
   rcases Nat.lt_or_ge j k with h|h
   ·exact hP j h
   ·obtain rfl:j=k:=by omega
    exact hp
  ·exact ⟨fun _ h=>(by cases h),fun e' he'=>by cases he'; exact he⟩
 ·obtain rfl:k=n:=by omega
  refine fin.mono ?_
  rintro x ⟨e,rfl,he⟩
  exact ⟨fun _ h=>(by cases h),fun e' he'=>by cases he'; exact he hP⟩

structure QDf (np dims:Nat) (t:Qag):Prop where
 count:0≤t.count∧t.count≤10
 from_:0≤t.from_∧t.from_<np
 to_:0≤t.to_∧t.to_<np
 dims1:1≤dims∧dims≤3
 cap:t.cap.length=dims
 caps:∀ i,i<t.cap.length→∀ x,t.cap[i]?=some x→0≤x∧x≤1000
 skills:0≤t.skills∧t.skills≤1073741823
 opn:0≤t.open_∧t.open_≤t.close
 close:t.close≤4096
 drive:1≤t.drive∧t.drive≤4096
 rest:0≤t.rest_∧t.rest_≤4096
 profile:0≤t.profile∧t.profile≤7
 fixed:0≤t.fixed∧t.fixed≤100000
 perMile:0≤t.perMile∧t.perMile≤100
 perTick:0≤t.perTick∧t.perTick≤100
section
variable {x0 : Qag} {n : Qak} {l0 : List Qag}
abbrev P8 (x0:Qag):Prop:=(0≤x0.profile∧x0.profile≤7)∧(0≤x0.fixed∧x0.fixed≤100000)∧(0≤x0.perMile∧x0.perMile≤100)∧(0≤x0.perTick∧x0.perTick≤100)
theorem ty8:Stg (QdK x0) 1 (P8 x0):=fun l hl=>by
 unfold QdK
 refine Qhc (QaE (fun h1=>Qhc (QaE (fun h2=>Qhc (QaE (fun h3=>Qhc (QaE (fun h4=>Qzp ?_) (fun _=>Qt9 hl))) (fun _=>Qt9 hl))) (fun _=>Qt9 hl))) (fun _=>Qt9 hl))
 exact ⟨of_decide_eq_true h1,of_decide_eq_true h2,of_decide_eq_true h3,of_decide_eq_true h4⟩
abbrev P7 (x0:Qag):Prop:=(1≤x0.drive∧x0.drive≤4096)∧(0≤x0.rest_∧x0.rest_≤4096)∧P8 x0
theorem ty7:Stg (QdJ x0) 2 (P7 x0):=fun l hl=>by
 unfold QdJ
 exact Qhc (QaE (fun h1=>Qhc (QaE (fun h2=>ty8.good hl fun h=>⟨of_decide_eq_true h1,of_decide_eq_true h2,h⟩) (fun _=>ty8.bad hl))) (fun _=>ty8.bad hl))
abbrev P6 (x0:Qag):Prop:=(0≤x0.open_∧x0.open_≤x0.close)∧x0.close≤4096∧P7 x0
theorem ty6:Stg (QdI x0) 3 (P6 x0):=fun l hl=>by
 unfold QdI
 refine Qhc (QaE (fun _=>ty7.bad hl) (fun h1=>ty7.good hl fun h=>?_))
 simp only [orF,ntF,Qqt] at h1
 exact ⟨of_decide_eq_true h1.1,h1.2,h⟩
abbrev P5 (x0:Qag):Prop:=(0≤x0.skills∧x0.skills≤1073741823)∧P6 x0
theorem ty5:Stg (QdH x0) 4 (P5 x0):=fun l hl=>by
 unfold QdH
 exact Qhc (QaE (fun h1=>ty6.good hl fun h=>⟨of_decide_eq_true h1,h⟩) (fun _=>ty6.bad hl))
def Qdc (l:List Qag):Nat:=match l with
 | []=>0
 | t :: _=>t.cap.length
theorem QCA:QeQ l0=some (Qdc l0:Int):=by
 unfold QeQ Qdc
 cases l0 with
 | nil=>rfl
 | cons t r =>
  rw [QaW (by simp [lenI]; omega),show (0:Int)=((0:Nat):Int) from rfl,QaR (a:=t) rfl]; rfl
abbrev P4 (dims:Nat) (x0:Qag):Prop:=(1≤dims∧dims≤3)∧x0.cap.length=dims∧(∀ i,i<x0.cap.length→∀ x,x0.cap[i]?=some x→0≤x∧x≤1000)∧P5 x0
theorem QDk {c:List Int} {dims:Nat} (hc:c.length≤1048576):post (QdC c dims) fun r=>r=true→(1≤dims∧dims≤3)∧c.length=dims∧∀ i,i<c.length→∀ x,c[i]?=some x→0≤x∧x≤1000:=by
 unfold QdC
 refine Qhc (QaE (fun _=>Qaw.2 fun h=>by cases h) (fun h1=>?_))
 simp only [orF,ntF,QvF,lenI,decide_eq_true_iff] at h1
 have h2:=of_decide_eq_true h1.1
 refine QaP (R:=fun e:Unit⊕Bool=>(∃ u,e=.inl u∧∀ i,i<c.length→∀ x,c[i]?=some x→0≤x∧x≤1000)∨e=.inr false) ?_ fun e he=>?_
 ·refine QqO (B:=fun s=>Qbo c s) c.length _ (fun i=>∀ x,c[i]?=some x→0≤x∧x≤1000) (by omega) (fun i hi=>?_) ?_
  ·show post (Qbo c (i:Int)) _
   unfold Qbo
   have e1:c[i]?=some c[i]:=List.getElem?_eq_getElem hi
   rw [Qbj (by simp [lenI]; omega),QaR e1,Qaj,inc hi hc]
   exact Qhc (QaE (fun h=>Qaw.2 (.inl ⟨rfl,fun x hx=>by rw [e1] at hx; cases hx; exact of_decide_eq_true h⟩)) (fun _=>Qaw.2 (.inr ⟨_,rfl,.inr rfl⟩)))
  ·show post (Qbo c (c.length:Int)) _
   unfold Qbo
   rw [QaW (by simp [lenI])]
   exact Qaw.2 ⟨_,rfl,fun h=>.inl ⟨_,rfl,h⟩⟩
 ·rcases he with ⟨u,rfl,h⟩|rfl
  ·have hd:(1≤dims∧dims≤3)∧c.length=dims:=by omega
   rw [Qdm]; exact Qaw.2 fun _=>⟨hd.1,hd.2,h⟩
  ·rw [Qm6]; exact Qaw.2 fun h=>by cases h
theorem ty4 (hc:x0.cap.length≤1048576):Stg (QdG l0 x0) 5 (P4 (Qdc l0) x0):=fun l hl=>by
 unfold QdG
 rw [QCA,Qaj]
 exact QaP (QDk hc) fun r hr=>QaE (fun h=>ty5.good hl fun h'=>⟨(hr h).1,(hr h).2.1,(hr h).2.2,h'⟩) (fun _=>ty5.bad hl)
abbrev P3 (np dims:Nat) (x0:Qag):Prop:=(0≤x0.from_∧x0.from_<np)∧(0≤x0.to_∧x0.to_<np)∧P4 dims x0
theorem ty3 (hn:n.places.length≤1048576) (hc:x0.cap.length≤1048576):Stg (QdF n l0 x0) 6 (P3 n.places.length (Qdc l0) x0):=fun l hl=>by
 unfold QdF
 have hs:subK .i64 (lenI n.places) 1=(n.places.length:Int)-1:=by unfold lenI; exact subI (by omega) (by omega)
 rw [hs]
 refine Qhc (QaE (fun h1=>Qhc (QaE (fun h2=>(ty4 hc).good hl fun h=>⟨?_,?_,h⟩) (fun _=>(ty4 hc).bad hl))) (fun _=>(ty4 hc).bad hl))
 ·have:=of_decide_eq_true h1; omega
 ·have:=of_decide_eq_true h2; omega
theorem ty2 (hn:n.places.length≤1048576) (hc:x0.cap.length≤1048576):Stg (QdE n l0 x0) 7 ((0≤x0.count∧x0.count≤10)∧P3 n.places.length (Qdc l0) x0):=fun l hl=>by
 unfold QdE
 exact Qhc (QaE (fun h1=>(ty3 hn hc).good hl fun h=>⟨of_decide_eq_true h1,h⟩) (fun _=>(ty3 hn hc).bad hl))
theorem QzJ {i:Nat} {s:ByteArray} (hi:i≤l0.length) (hl:l0.length≤1048576):post (Qgh l0 (i:Int) s) fun _=>True:=by
 unfold Qgh
 refine QaP (R:=fun _=>True) ?_ fun e _=>by cases e <;> exact Qaw.2 trivial
 refine QqO (B:=fun x=>Qb3 l0 (i:Int) s x) i _ (fun _=>True) (by omega) (fun k hk=>?_) ?_
 ·show post (Qb3 l0 (i:Int) s (k:Int)) _
  unfold Qb3
  have e1:l0[k]?=some (l0[k]'(by omega)):=List.getElem?_eq_getElem _
  rw [Qbj (by simp; omega),QaR e1,Qaj,inc (n:=i) hk (by omega)]
  exact QaE (fun _=>Qaw.2 (.inr ⟨_,rfl,trivial⟩)) (fun _=>Qaw.2 (.inl ⟨rfl,trivial⟩))
 ·show post (Qb3 l0 (i:Int) s (i:Int)) _
  unfold Qb3
  rw [QaW (by simp)]
  exact Qaw.2 ⟨_,rfl,fun _=>trivial⟩
structure TypI (t:Qag):Prop where
 name:t.name.size≤1048576
 cap:t.cap.length≤1048576
theorem QwB (hn:n.places.length≤1048576) (hl:l0.length≤1048576) {i:Nat} (hx:l0[i]?=some x0) (hI:TypI x0):post (Qgi n l0 (i:Int)) (Ext [] 9 (QDf n.places.length (Qdc l0) x0)):=by
 unfold Qgi
 rw [QaR hx,Qaj]
 have hi:=(List.getElem?_eq_some_iff.1 hx).1
 have h1:Stg (QdD n l0 (i:Int) x0) 8 ((0≤x0.count∧x0.count≤10)∧P3 n.places.length (Qdc l0) x0):=fun l hl'=>by
  unfold QdD
  exact QaP (QzJ (by omega) hl) fun r _=>QaE (fun _=>(ty2 hn hI.cap).bad hl') (fun _=>(ty2 hn hI.cap).good hl' id)
 refine QaP (QuF _ hI.name) fun r _=>QaE (fun _=>h1.good (by simp) fun h=>?_) (fun _=>h1.bad (l:=[]) (by simp))
 obtain ⟨a,⟨b,c,d,e,f,g,⟨h,i,j,k,l,m,o,p⟩⟩⟩:=h
 exact ⟨a,b,c,d,e,f,g,h,i,j,k,l,m,o,p⟩
theorem Qvh {r:List Int} {s:ByteArray} {i:Nat} (hi:i<1048576) (hr:r.length≤100) (out:List Qac) (ho:out.length≤209715200) {B:List Qac×Int→Option ((List Qac×Int)⊕(List Qac))}
  (hB:∀ l3 k,B (l3,k)=br (ltI k (lenI r)) (bnd (getI r k) fun x0=>bnd (QbE (i:Int)) fun r2=>chk (okN (l3++[(Qac.mk x0 r2)]).length 24) (some (.inl ((l3++[(Qac.mk x0 r2)]),(addK .i64 k 1))))) (some (.inr l3))) :
  post (QaK B (out,0)) (Ext out r.length (r=[])):=by
 refine (QjN r.length 1 (fun _=>False) out (by omega) (fun k o hk ho'=>?_) (fun o=>?_)).mono fun x hx=>hx.mono (by omega) fun h=>?_
 ·have e1:r[k]?=some r[k]:=List.getElem?_eq_getElem hk
  rw [hB,Qbj (by simp [lenI]; exact hk),QaR e1,Qaj,inc hk (by omega)]
  exact QaP (QkY (i:Int) (QvE (by omega))) fun s hs=>Qbc (Qek (by simp; omega)) (Qtu rfl (by omega) (QA9 (by omega)))
 ·rw [hB,QaW (by simp [lenI])]
 ·cases r with
  | nil=>rfl
  | cons y ys=>exact (h 0 (by simp)).elim
theorem Ext.len0 {α:Type} [Sm α] {r:List α} {c:Nat} {P:Prop} (h:Ext [] c P r):r.length≤c:=by have:=h.len; simpa using this
theorem Qv5 (hn:n.places.length≤1048576) (hl:l0.length≤1048576) (hI:∀ t∈l0,TypI t):post (Qgg n l0) (Ext [] (1+9*l0.length) ((1≤l0.length∧l0.length≤6)∧∀ t∈l0,QDf n.places.length (Qdc l0) t)):=by
 have main:∀ l1:List Qac,l1.length≤1→post (QeA n l0 l1) (Ext l1 (9*l0.length) (∀ i,i<l0.length→∀ t,l0[i]?=some t→QDf n.places.length (Qdc l0) t)):=by
  intro l1 h1
  refine Qpo ?_
  refine (QjN l0.length 9 _ l1 (by omega) (fun i out hi ho=>?_) (fun out=>?_)).mono fun r h=>Qaw.2 h
  ·show post (Qcy n l0 out (i:Int)) _
   unfold Qcy
   have e1:l0[i]?=some l0[i]:=List.getElem?_eq_getElem hi
   rw [Qbj (by simp [lenI]; exact hi),inc hi hl]
   refine QaP (QwB hn hl e1 (hI _ (List.getElem_mem hi))) fun r1 hr1=>?_
   have:=hr1.len0
   refine QaP (Qvh (i:=i) (s:=ByteArray.empty) (by omega) (by omega) out (by omega) (fun _ _=>rfl)) fun l4 h4=>Qaw.2 ⟨_,rfl,h4.mono this fun h=>?_⟩
   intro t ht
   rw [e1] at ht; cases ht
   exact hr1.of_nil h
  ·show Qcy n l0 out (l0.length:Int)=_
   unfold Qcy
   rw [QaW (by simp [lenI])]
 unfold Qgg
 refine Qhc (QaE (fun h=>(main [] (by simp)).mono fun r hr=>hr.mono (by omega) fun h'=>⟨?_,fun t ht=>?_⟩) (fun h=>Qbc (Qek (by simp)) ((main _ (by simp)).mono fun r hr=>(Ext.one (P:=False) (Nat.le_refl 1) (QA9 (s:=ByteArray.empty) (by simp [ByteArray.size_empty]))).trans hr (by omega) fun h _=>h.elim)))
 ·have:=of_decide_eq_true h; simp only [lenI] at this; omega
 ·obtain ⟨i,hi⟩:=List.getElem?_of_mem ht
  exact h' i (List.getElem?_eq_some_iff.1 hi).1 t hi
end
end Go.Proofs.YtfjiafgldchinaaGreatDoor
namespace Go.Proofs.YtfjiafgldchinaaGreatDoor
set_option linter.unusedSimpArgs false
set_option linter.unusedVariables false
set_option linter.unusedSectionVars false

def Qyi (np:Nat) (s:Qar):Prop:=(s.place=-1∧s.open_=0∧s.close=0∧s.service=0)∨(0≤s.place∧s.place<np∧0≤s.open_∧s.open_≤s.close∧s.close≤4096∧0≤s.service∧s.service≤4096)
structure QEy (np dims types:Nat) (o:Qaf):Prop where
 load:o.load.length=dims
 loads:∀ i,i<o.load.length→∀ x,o.load[i]?=some x→0≤x∧x≤1000
 pick:Qyi np o.pick
 drop:Qyi np o.drop
 one:¬ (o.pick.place=-1∧o.drop.place=-1)
 skills:0≤o.skills∧o.skills≤1073741823
 penalty:-1≤o.penalty∧o.penalty≤1000000
 split:1≤o.split∧o.split≤4
 whole:1<o.split→o.pick.place=-1∨o.drop.place=-1
 last:-1≤o.last_∧o.last_<types
 now:-1≤o.now∧o.now<types
section
variable {x0 : Qaf} {types : Nat} {np : Nat} {dims : Nat}
abbrev Q5 (types:Nat) (x0:Qaf):Prop:=(-1≤x0.penalty∧x0.penalty≤1000000)∧(1≤x0.split∧x0.split≤4)∧(1<x0.split→x0.pick.place=-1∨x0.drop.place=-1)∧(-1≤x0.last_∧x0.last_<types)∧(-1≤x0.now∧x0.now<types)
theorem or5:Stg (QdO types x0) 1 (Q5 types x0):=fun l hl=>by
 unfold QdO
 refine QsS (QaE (fun h1=>QsS (QaE (fun _=>Qt9 hl) (fun h2=>Qzp ?_))) (fun _=>Qt9 hl))
 simp only [orF,andF,ntF,Qqt,QvF,QoX,Qys] at h2
 have h3:=of_decide_eq_true h1
 have h4:=of_decide_eq_true h2.1.1.1.1.1
 obtain ⟨⟨⟨⟨⟨_,h5⟩,h6⟩,h7⟩,h8⟩,h9⟩:=h2
 exact ⟨h3,h4,fun h=>by rcases h5 with h5|h5; omega; exact h5,⟨h6,h7⟩,⟨h8,h9⟩⟩
abbrev Q6 (types:Nat) (x0:Qaf):Prop:=(0≤x0.skills∧x0.skills≤1073741823)∧Q5 types x0
theorem or6:Stg (QdP types x0) 2 (Q6 types x0):=fun l hl=>by
 unfold QdP
 exact QsS (QaE (fun h1=>or5.good hl fun h=>⟨of_decide_eq_true h1,h⟩) (fun _=>or5.bad hl))
def QFX (s:Qar):Prop:=(s.place=-1∧s.open_=0∧s.close=0∧s.service=0)∨(0≤s.place∧0≤s.open_∧s.open_≤s.close∧s.close≤4096∧0≤s.service∧s.service≤4096)
theorem QAZ (s:Qar):post (Qdx s) fun r=>r=0→QFX s:=by
 unfold Qdx
 refine QaE (fun h=>Qaw.2 fun _=>.inl ?_) (fun _=>QaE (fun _=>Qaw.2 fun h=>absurd h (by decide)) (fun h=>Qaw.2 fun _=>.inr ?_))
 ·simp only [andT,QrZ] at h; exact ⟨h.1.1.1,h.1.1.2,h.1.2,h.2⟩
 ·simp only [orF,QoX,Qqt] at h; omega
abbrev Q4 (types:Nat) (x0:Qaf):Prop:=QFX x0.pick∧QFX x0.drop∧Q6 types x0
theorem or4:Stg (QdN types x0) 3 (Q4 types x0):=fun l hl=>by
 unfold QdN
 refine QaP (QAZ _) fun r4 h4=>QaE (fun _=>or6.bad hl) (fun h=>QaP (QAZ _) fun r8 h8=>QaE (fun _=>or6.bad hl) (fun h'=>or6.good hl fun h6=>⟨h4 (by simpa using h),h8 (by simpa using h'),h6⟩))
abbrev Q3 (types:Nat) (x0:Qaf):Prop:=¬ (x0.pick.place=-1∧x0.drop.place=-1)∧Q4 types x0
theorem or3:Stg (QdM types x0) 4 (Q3 types x0):=fun l hl=>by
 unfold QdM
 refine QaE (fun _=>or4.bad hl) (fun h=>or4.good hl fun h'=>⟨?_,h'⟩)
 simp only [andF,Qv9] at h; omega
abbrev Q2 (np types:Nat) (x0:Qaf):Prop:=(-1≤x0.pick.place∧x0.pick.place<np)∧(-1≤x0.drop.place∧x0.drop.place<np)∧Q3 types x0
theorem or2 (hn:np≤1048576):Stg (QbF np types x0) 5 (Q2 np types x0):=fun l hl=>by
 unfold QbF
 have hs:subK .i64 (np:Int) 1=(np:Int)-1:=subI (by omega) (by omega)
 rw [hs]
 refine QsS (QaE (fun h1=>QsS (QaE (fun h2=>or3.good hl fun h=>⟨?_,?_,h⟩) (fun _=>or3.bad hl))) (fun _=>or3.bad hl))
 ·have:=of_decide_eq_true h1; omega
 ·have:=of_decide_eq_true h2; omega
theorem QwA {c:List Int} (hc:c.length≤1048576):post (Qeg c dims) fun r=>r=true→c.length=dims∧∀ i,i<c.length→∀ x,c[i]?=some x→0≤x∧x≤1000:=by
 unfold Qeg
 refine QaE (fun _=>Qaw.2 fun h=>by cases h) (fun h1=>?_)
 simp only [QvF,lenI] at h1
 have hd:c.length=dims:=by omega
 refine QaP (R:=fun e:Unit⊕Bool=>(∃ u,e=.inl u∧∀ i,i<c.length→∀ x,c[i]?=some x→0≤x∧x≤1000)∨e=.inr false) ?_ fun e he=>?_
 ·refine QqO (B:=fun s=>Qb0 c s) c.length _ (fun i=>∀ x,c[i]?=some x→0≤x∧x≤1000) (by omega) (fun i hi=>?_) ?_
  ·show post (Qb0 c (i:Int)) _
   unfold Qb0
   have e1:c[i]?=some c[i]:=List.getElem?_eq_getElem hi
   rw [Qbj (by simp [lenI]; omega),QaR e1,Qaj,inc hi hc]
   refine QaE (fun _=>Qaw.2 (.inr ⟨_,rfl,.inr rfl⟩)) (fun h2=>QaE (fun _=>Qaw.2 (.inr ⟨_,rfl,.inr rfl⟩)) (fun h3=>Qaw.2 (.inl ⟨rfl,fun x hx=>?_⟩)))
   rw [e1] at hx; cases hx
   simp only [QoX,Qqt] at h2 h3
   exact ⟨h2,h3⟩
  ·show post (Qb0 c (c.length:Int)) _
   unfold Qb0
   rw [QaW (by simp [lenI])]
   exact Qaw.2 ⟨_,rfl,fun h=>.inl ⟨_,rfl,h⟩⟩
 ·rcases he with ⟨u,rfl,h⟩|rfl
  ·rw [Qdm]; exact Qaw.2 fun _=>⟨hd,h⟩
  ·rw [Qm6]; exact Qaw.2 fun h=>by cases h
structure OrdI (o:Qaf):Prop where
 name:o.name.size≤1048576
 load:o.load.length≤1048576
theorem QwC {l:List Qaf} (hn:np≤1048576) (hl:l.length≤1048576) {i:Nat} (hx:l[i]?=some x0) (hI:OrdI x0):post (Qgk np dims types l (i:Int)) (Ext [] 9 (QEy np dims types x0)):=by
 unfold Qgk
 rw [QaR hx,Qaj]
 have hi:=(List.getElem?_eq_some_iff.1 hx).1
 have hb:Stg (fun l2=>bnd (Qeg x0.load dims) fun r1=>br r1 (QbF np types x0 l2) (chk (okN (l2++[17]).length 8) (QbF np types x0 (l2++[17])))) 6 ((x0.load.length=dims∧∀ i,i<x0.load.length→∀ x,x0.load[i]?=some x→0≤x∧x≤1000)∧Q2 np types x0):=fun l hl' =>
  QaP (QwA hI.load) fun r hr=>QaE (fun h=>(or2 hn).good hl' fun h'=>⟨hr h,h'⟩) (fun _=>(or2 hn).bad hl')
 have h1:Stg (QdL np dims types l (i:Int) x0) 7 ((x0.load.length=dims∧∀ i,i<x0.load.length→∀ x,x0.load[i]?=some x→0≤x∧x≤1000)∧Q2 np types x0):=fun l1 hl'=>by
  unfold QdL
  refine QaP (R:=Ext l1 1 True) ?_ fun l2 h2=>?_
  ·refine QqO (B:=fun s=>Qb4 np dims types l (i:Int) x0 l1 s) i _ (fun _=>True) (by omega) (fun k hk=>?_) ?_
   ·show post (Qb4 np dims types l (i:Int) x0 l1 (k:Int)) _
    unfold Qb4
    have e1:l[k]?=some (l[k]'(by omega)):=List.getElem?_eq_getElem _
    rw [Qbj (by simp; omega),QaR e1,Qaj,inc (n:=i) hk (by omega)]
    exact QaE (fun _=>Qbc (Qek (by simp; omega)) (Qaw.2 (.inr ⟨_,rfl,.one (Nat.le_refl 1) trivial⟩))) (fun _=>Qaw.2 (.inl ⟨rfl,trivial⟩))
   ·show post (Qb4 np dims types l (i:Int) x0 l1 (i:Int)) _
    unfold Qb4
    rw [QaW (by simp)]
    exact Qaw.2 ⟨_,rfl,fun _=>.nil trivial⟩
  ·have:=h2.len
   exact (hb l2 (by omega)).mono fun r hr=>h2.trans hr (by omega) fun _ h=>h
 refine QaP (QuF _ hI.name) fun r _=>QaE (fun _=>(h1.good (l:=[]) (by simp) fun h=>?_:post _ (Ext [] 8 (QEy np dims types x0))).mono fun r hr=>hr.mono (by omega) id) (fun _=>(h1.bad (l:=[]) (by simp):post _ (Ext [] 8 (QEy np dims types x0))).mono fun r hr=>hr.mono (by omega) id)
 obtain ⟨⟨a,b⟩,⟨c0,c⟩,⟨d0,d⟩,e,f,g,h,⟨i,j,k,m,o⟩⟩:=h
 refine ⟨a,b,?_,?_,e,h,i,j,k,m,o⟩
 ·rcases f with f|f
  ·exact .inl f
  ·exact .inr ⟨f.1,c,f.2⟩
 ·rcases g with g|g
  ·exact .inl g
  ·exact .inr ⟨g.1,d,g.2⟩
theorem Qv6 {n:Qak} {l:List Qaf} (hn:n.places.length≤1048576) (hl:l.length≤1048576) (hI:∀ t∈l,OrdI t):post (Qgj n dims types l) (Ext [] (1+9*l.length) (l.length≤10∧∀ t∈l,QEy n.places.length dims types t)):=by
 have main:∀ l1:List Qac,l1.length≤1→post (QeC n dims types l l1) (Ext l1 (9*l.length) (∀ i,i<l.length→∀ t,l[i]?=some t→QEy n.places.length dims types t)):=by
  intro l1 h1
  refine Qpo ?_
  refine (QjN l.length 9 _ l1 (by omega) (fun i out hi ho=>?_) (fun out=>?_)).mono fun r h=>Qaw.2 h
  ·show post (Qcz n dims types l out (i:Int)) _
   unfold Qcz
   have e1:l[i]?=some l[i]:=List.getElem?_eq_getElem hi
   rw [Qbj (by simp [lenI]; exact hi),inc hi hl]
   refine QaP (QwC hn hl e1 (hI _ (List.getElem_mem hi))) fun r1 hr1=>?_
   have:=hr1.len0
   refine QaP (Qvh (i:=i) (s:=ByteArray.empty) (by omega) (by omega) out (by omega) (fun _ _=>rfl)) fun l4 h4=>Qaw.2 ⟨_,rfl,h4.mono this fun h=>?_⟩
   intro t ht
   rw [e1] at ht; cases ht
   exact hr1.of_nil h
  ·show Qcz n dims types l out (l.length:Int)=_
   unfold Qcz
   rw [QaW (by simp [lenI])]
 unfold Qgj
 refine QaE (fun h=>Qbc (Qek (by simp)) ((main _ (by simp)).mono fun r hr=>(Ext.one (P:=False) (Nat.le_refl 1) (QA9 (s:=ByteArray.empty) (by simp [ByteArray.size_empty]))).trans hr (by omega) fun h _=>h.elim)) (fun h=>(main [] (by simp)).mono fun r hr=>hr.mono (by omega) fun h'=>⟨?_,fun t ht=>?_⟩)
 ·simp only [Qqt,lenI] at h; omega
 ·obtain ⟨i,hi⟩:=List.getElem?_of_mem ht
  exact h' i (List.getElem?_eq_some_iff.1 hi).1 t hi
end
def Qyh (orders:Nat) (p:Qau):Prop:=0≤p.x0∧p.x0<orders∧0≤p.x1∧p.x1<orders∧p.x0≠p.x1
theorem Quo {i:Nat} (hi:i<1048576):post (Qeb (i:Int)) fun s=>s.size≤21:=by
 unfold Qeb
 refine QaP (R:=fun e=>e.2.size≤20) ?_ fun e he=>Qbc (by rw [QkS]; simp; omega) (Qaw.2 (by rw [Qnh,QkS]; simp; omega))
 refine Qct (fun s=>∃ m k:Nat,s.1=(m:Int)∧m<1048576∧m<10 ^ k∧s.2.size+k≤20) (fun s=>s.1.toNat) ⟨i,7,rfl,hi,by omega,by simp [ByteArray.size_empty]⟩ (by simp; omega) ?_
 rintro ⟨_,s⟩ ⟨m,k,rfl,h0,h1,h2⟩
 simp only at h2
 show post (Qc7 (m:Int) s) _
 unfold Qc7
 refine QaE (fun hb=>Qbc (by rw [QkS]; simp; omega) (Qc4 ?_)) (fun _=>Qcg (show s.size≤20 by omega))
 simp only [Qqs] at hb
 have hq:quoK .i64 (m:Int) 10=((m / 10:Nat):Int):=by rw [QGA (by omega),Int.tdiv_eq_ediv_of_nonneg (by omega)]; omega
 obtain ⟨k,rfl⟩:∃ j,k=j+1:=⟨k-1,by
  rcases Nat.eq_zero_or_pos k with rfl|h
  ·simp at h1; omega
  ·omega⟩
 rw [hq]
 refine ⟨⟨m / 10,k,rfl,by omega,by rw [Nat.pow_succ] at h1; omega,?_⟩,by simp; omega⟩
 rw [Qnh,QkS]
 simp; omega
theorem Qub {orders:Nat} {l:List Qau} {word:ByteArray} {turned:Bool} (hl:l.length≤1048576) (hw:word.size≤20):post (QfN orders l word turned) (Ext [] (1+l.length) (l.length≤16∧∀ p∈l,Qyh orders p)):=by
 have main:∀ l1:List Qac,l1.length≤1→post (Qei orders l word turned l1) (Ext l1 l.length (∀ i,i<l.length→∀ p,l[i]?=some p→Qyh orders p)):=by
  intro l1 h1
  refine Qpo ?_
  refine (QjN l.length 1 _ l1 (by omega) (fun i out hi ho=>?_) (fun out=>?_)).mono fun r h=>Qaw.2 (h.mono (by omega) id)
  ·show post (Qcd orders l word turned out (i:Int)) _
   unfold Qcd
   have e1:l[i]?=some l[i]:=List.getElem?_eq_getElem hi
   rw [Qbj (by simp [lenI]; exact hi),inc hi hl,QaR e1,Qaj]
   have hs1:Qcu.size=1:=rfl
   refine Qbc (by omega) (QaP (Quo (by omega)) fun r hr=>Qbc (by rw [Qnh]; omega) ?_)
   have hsm:∀ {e:Int},Sm.sm (Qac.mk e (catS (catS word Qcu) r)):=QA9 (by rw [Qnh,Qnh]; omega)
   generalize l[i]=p at e1
   refine QaE (fun _=>Qbc (Qek (by simp; omega)) (Qtu rfl (Nat.le_refl 1) hsm)) (fun h=>?_)
   refine QaP (R:=fun _=>True) ?_ fun tw _=>QaE (fun _=>Qbc (Qek (by simp; omega)) (Qtu rfl (Nat.le_refl 1) hsm)) (fun _=>QxU rfl ?_)
   ·refine Qct (fun s=>∃ k:Nat,s.2=(k:Int)∧k≤i) (fun s=>i-s.2.toNat) ⟨0,rfl,Nat.zero_le _⟩ (by simp; omega) ?_
    rintro ⟨b,_⟩ ⟨k,rfl,hk⟩
    show post (Qdg orders l word turned out (i:Int) p r b (k:Int)) _
    unfold Qdg
    refine QaE (fun hb=>?_) (fun _=>Qcg trivial)
    simp only [Qoi] at hb
    have hk':k<i:=by omega
    rw [inc (n:=i) hk' (by omega)]
    have leaf:∀ b:Bool,post (some (Sum.inl (b,(k:Int)+1):(Bool×Int)⊕Bool)) fun x=>(∀ s',x=.inl s'→(∃ k:Nat,s'.2=(k:Int)∧k≤i)∧i-s'.2.toNat<i-((b,(k:Int)):Bool×Int).2.toNat)∧∀ e,x=.inr e→True :=
     fun b=>Qc4 ⟨⟨k+1,by simp,by omega⟩,by simp; omega⟩
    refine QaE (fun _=>leaf _) (fun _=>?_)
    have e2:l[k]?=some (l[k]'(by omega)):=List.getElem?_eq_getElem _
    rw [QaR e2,Qaj]
    exact QaE (fun _=>QaE (fun _=>leaf _) (fun _=>QaE (fun _=>QaE (fun _=>leaf _) (fun _=>leaf _)) (fun _=>leaf _))) (fun _=>QaE (fun _=>QaE (fun _=>leaf _) (fun _=>leaf _)) (fun _=>leaf _))
   ·intro q hq
    rw [e1] at hq; cases hq
    simp only [orF,QoX,Qys,Qv9] at h
    exact ⟨h.1.1.1.1,h.1.1.1.2,h.1.1.2,h.1.2,h.2⟩
  ·show Qcd orders l word turned out (l.length:Int)=_
   unfold Qcd
   rw [QaW (by simp [lenI])]
 unfold QfN
 refine QaE (fun h=>Qbc (Qek (by simp)) ((main _ (by simp)).mono fun r hr=>(Ext.one (P:=False) (Nat.le_refl 1) (QA9 (by omega))).trans hr (by omega) fun h _=>h.elim)) (fun h=>(main [] (by simp)).mono fun r hr=>hr.mono (by omega) fun h'=>⟨?_,fun t ht=>?_⟩)
 ·simp only [Qqt,lenI] at h; omega
 ·obtain ⟨i,hi⟩:=List.getElem?_of_mem ht
  exact h' i (List.getElem?_eq_some_iff.1 hi).1 t hi
theorem Qrb {word:ByteArray} {r:List Qac} (hw:word.size≤20) (hr:r.length≤5000000000000) (hs:∀ f∈r,Sm.sm f):post (Qe7 word r) fun x=>x.length=r.length:=by
 refine Qpo ?_
 refine Qct (fun s=>∃ k:Nat,s.2=(k:Int)∧k≤r.length∧s.1.length=k) (fun s=>r.length-s.2.toNat) ⟨0,rfl,Nat.zero_le _,rfl⟩ (by simp; omega) ?_
 rintro ⟨out,_⟩ ⟨k,rfl,hk,hl⟩
 show post (QdQ word r out (k:Int)) _
 unfold QdQ QeE
 refine QaE (fun hb=>?_) (fun hb=>Qcg (Qaw.2 ?_))
 ·simp only [Qoi,lenI] at hb
  simp only at hl
  have hk':k<r.length:=by omega
  have e1:r[k]?=some r[k]:=List.getElem?_eq_getElem hk'
  have hsk:(r[k]).at_.size≤64:=hs _ (List.getElem_mem hk')
  have hadd:addK .i64 (k:Int) 1=(k:Int)+1:=addI (by omega) (by omega)
  have hs1:Qcu.size=1:=rfl
  rw [QaR e1,Qaj,Qaj,hadd]
  have leaf:∀ f:Qac,post (chk (okN (out++[f]).length 24) (some (Sum.inl (out++[f],(k:Int)+1):(List Qac×Int)⊕(List Qac)))) fun x=>(∀ s',x=.inl s'→(∃ k:Nat,s'.2=(k:Int)∧k≤r.length∧s'.1.length=k)∧r.length-s'.2.toNat<r.length-((out,(k:Int)):List Qac×Int).2.toNat)∧∀ e,x=.inr e→post (some e) fun x=>x.length=r.length :=
   fun f=>Qbc (Qek (by simp; omega)) (Qc4 ⟨⟨k+1,by simp,by omega,by simp; omega⟩,by simp; omega⟩)
  exact QaE (fun _=>leaf _) (fun _=>Qbc (by omega) (Qbc (by rw [Qnh]; omega) (leaf _)))
 ·simp only [QoX,lenI] at hb
  simp only at hl
  omega
structure QFI (x:Qab):Prop where
 net:NetI x.net
 types:x.types.length≤1048576
 orders:x.orders.length≤1048576
 apart:x.apart.length≤1048576
 before:x.before.length≤1048576
 typI:∀ t∈x.types,TypI t
 ordI:∀ t∈x.orders,OrdI t
structure QaV (x:Qab):Prop where
 net:QCo x.net
 types1:1≤x.types.length
 types:x.types.length≤6
 typ:∀ t∈x.types,QDf x.net.places.length (Qdc x.types) t
 orders:x.orders.length≤10
 ord:∀ o∈x.orders,QEy x.net.places.length (Qdc x.types) x.types.length o
 apart:x.apart.length≤16
 aparts:∀ p∈x.apart,Qyh x.orders.length p
 before:x.before.length≤16
 befores:∀ p∈x.before,Qyh x.orders.length p
theorem Qv7 {x:Qab} (hI:QFI x):post (Qgm x) fun r=>r=[]→QaV x:=by
 have h1:=hI.types; have h2:=hI.orders; have h3:=hI.apart; have h4:=hI.before; have h5:=hI.net.arcs
 unfold Qgm
 refine QaP (Qtq (n:=x.net) hI.net) fun r hr=>?_
 have l1:=hr.len0
 refine QaP (Qrb (show 3≤20 by omega) (by omega) hr.sms:post (Qfz QvM r) _) fun r1 hr1=>?_
 refine QaP (Qv5 (n:=x.net) hI.net.places h1 hI.typI) fun r2 hr2=>?_
 have l2:=hr2.len0
 refine QaP (Qrb (show 5≤20 by omega) (by omega) hr2.sms) fun r3 hr3=>Qbc (Qek (by simp; omega)) ?_
 rw [QCA,Qaj]
 refine QaP (Qv6 (n:=x.net) (types:=x.types.length) hI.net.places h2 hI.ordI) fun r5 hr5=>?_
 have l5:=hr5.len0
 refine QaP (Qrb (show 6≤20 by omega) (by omega) hr5.sms) fun r6 hr6=>Qbc (Qek (by simp; omega)) ?_
 have hC:post (Qgl (lenI x.orders) x.apart x.before) fun r=>r.length≤2+x.apart.length+x.before.length∧(∀ f∈r,Sm.sm f)∧(r=[]→(x.apart.length≤16∧∀ p∈x.apart,Qyh x.orders.length p)∧(x.before.length≤16∧∀ p∈x.before,Qyh x.orders.length p)):=by
  unfold Qgl
  refine QaP (Qub (orders:=x.orders.length) (word:=Qtx) (turned:=true) h3 (show 5≤20 by omega)) fun a ha=>QaP (Qub (orders:=x.orders.length) (word:=Qr8) (turned:=false) h4 (show 6≤20 by omega)) fun b hb=>?_
  have la:=ha.len0
  have lb:=hb.len0
  refine Qbc (Qek (by simp; omega)) (Qaw.2 ⟨by simp; omega,fun f hf=>?_,fun h=>?_⟩)
  ·rcases List.mem_append.1 hf with h|h
   ·exact ha.sms f h
   ·exact hb.sms f h
  ·rw [List.append_eq_nil_iff] at h
   exact ⟨ha.of_nil h.1,hb.of_nil h.2⟩
 refine QaP hC fun r7 ⟨l7,s7,c7⟩=>QaP (Qrb (show 5≤20 by omega) (by omega) s7) fun r8 hr8=>Qbc (Qek (by simp; omega)) (Qaw.2 fun h=>?_)
 simp only [List.append_eq_nil_iff] at h
 obtain ⟨⟨⟨e1,e3⟩,e6⟩,e8⟩:=h
 have nil:∀ {a b:List Qac},a.length=b.length→a=[]→b=[]:=fun h h'=>List.length_eq_zero_iff.1 (by rw [← h,h']; rfl)
 obtain ⟨⟨t1,t2⟩,t3⟩:=hr2.of_nil (nil hr3 e3)
 obtain ⟨o1,o2⟩:=hr5.of_nil (nil hr6 e6)
 obtain ⟨⟨a1,a2⟩,⟨b1,b2⟩⟩:=c7 (nil hr8 e8)
 exact ⟨hr.of_nil (nil hr1 e1),t1,t2,t3,o1,o2,a1,a2,b1,b2⟩
end Go.Proofs.YtfjiafgldchinaaGreatDoor
namespace Go.Proofs.YtfjiafgldchinaaGreatDoor
set_option linter.unusedSimpArgs false
set_option linter.unusedVariables false
set_option linter.unusedSectionVars false

def QBa:Qar:=Qar.mk 0 0 0 0
def QGD:Qag:=Qag.mk ByteArray.empty 0 0 0 [] 0 0 0 0 0 0 0 0 0
def QtP:Qap:=Qap.mk false 0 [] 0 0
def zLab:QaJ:=QaJ.mk 0 0 QtP
def atS (v:Qaa) (o:Qaf):Qar:=if v.drop=true then o.drop else o.pick
theorem QF4 {v:Qaa} {o:Qaf} (h:v.drop=true):atS v o=o.drop:=if_pos h
theorem QF3 {v:Qaa} {o:Qaf} (h:v.drop=false):atS v o=o.pick:=if_neg (by rw [h]; decide)
def Qq7 (x:Qab) (v:Qaa):Option Qar :=
 match (if 0≤v.order then x.orders[v.order.toNat]? else none) with
 | none=>none
 | some o=>if 0≤(atS v o).place then some (atS v o) else none
def preR (x:Qab) (r:Qam):Bool:=decide (0≤r.type_∧r.type_<x.types.length∧0≤r.start∧r.start≤4096∧r.visits.length≤20)
def QtX (x:Qab) (r:Qam):Bool:=preR x r&&r.visits.all fun v=>(Qq7 x v).isSome
def QaI (x:Qab) (r:Qam):List Qar:=r.visits.map fun v=>(Qq7 x v).getD QBa
def typS (x:Qab) (r:Qam):Qag:=x.types.getD r.type_.toNat QGD
structure QDd (r:Qam):Prop where
 type_:Qyu r.type_
 start:Qyu r.start
 rests:r.rests.length≤1048576
 visits:r.visits.length≤1048576
section
variable {x : Qab} {r : Qam}
theorem QGU:(((((ltI r.type_ 0)||(geI r.type_ (lenI x.types)))||(ltI r.start 0))||(gtI r.start 4096))||(gtI (lenI r.visits) 20))=!preR x r:=by
 unfold preR lenI
 rw [Bool.eq_iff_iff]
 simp only [orT,ntT,Qoi,Qqs,Qwg,decide_eq_false_iff_not]
 omega
theorem QAN (hx:QaV x) {v:Qaa} {s:Qar} (h:Qq7 x v=some s):0≤s.place∧s.place<x.net.places.length∧0≤s.open_∧s.open_≤s.close∧s.close≤4096∧0≤s.service∧s.service≤4096:=by
 unfold Qq7 at h
 split at h
 ·cases h
 ·rename_i o ho
  split at ho
  ·have hm:=List.mem_of_getElem? ho
   have hO:=hx.ord o hm
   split at h
   ·rename_i h0
    cases h
    cases hd:v.drop with
    | true =>
     rw [QF4 hd] at h0 ⊢
     rcases hO.drop with h1|h1
     ·omega
     ·exact h1
    | false =>
     rw [QF3 hd] at h0 ⊢
     rcases hO.pick with h1|h1
     ·omega
     ·exact h1
   ·cases h
  ·cases ho
theorem QvG (v:Qaa):Qo0 x.orders v=some (match Qq7 x v with
  | some s=>(s,0)
  | none=>(QBa,if 0≤v.order∧v.order<x.orders.length then 19 else 2)):=by
 unfold Qo0 QkW QjM Qq7
 rw [Qaj]
 by_cases h:0≤v.order∧v.order<x.orders.length
 ·rw [Qbj (by simp only [andT,Qqs,Qoi,lenI]; exact h),Qr0 h.1 h.2,Qaj,if_pos h.1,List.getElem?_eq_getElem (by omega),if_pos h]
  generalize x.orders[v.order.toNat]'(by omega)=o
  cases hd:v.drop with
  | true =>
   rw [QcK]
   simp only [QF4 hd,QCu,Qoi]
   by_cases hp:o.drop.place<0
   ·rw [if_pos hp,if_neg (by omega)]; rfl
   ·rw [if_neg hp,if_pos (by omega)]
  | false =>
   rw [Qca]
   simp only [QF3 hd,QCu,Qoi]
   by_cases hp:o.pick.place<0
   ·rw [if_pos hp,if_neg (by omega)]; rfl
   ·rw [if_neg hp,if_pos (by omega)]
 ·rw [QaW (by simp only [andF,Qys,QoX,lenI]; omega),if_neg h]
  by_cases h0:0≤v.order
  ·rw [if_pos h0,List.getElem?_eq_none (by omega)]; rfl
  ·rw [if_neg h0]; rfl
theorem Quk (v:Qaa):Qdr x v=some (match Qq7 x v with
  | some s=>(s,true)
  | none=>((if 0≤v.order then match x.orders[v.order.toNat]? with|some o=>atS v o|none=>QBa else QBa),false)):=by
 unfold Qdr Qq7
 by_cases h:0≤v.order∧v.order<x.orders.length
 ·rw [QaW (by simp only [orF,QoX,Qys,lenI]; exact h),Qr0 h.1 h.2,Qaj,if_pos h.1,if_pos h.1,List.getElem?_eq_getElem (by omega)]
  generalize x.orders[v.order.toNat]'(by omega)=o
  cases hd:v.drop with
  | true =>
   rw [QcK]
   simp only [QF4 hd]
   by_cases hp:0≤o.drop.place
   ·rw [if_pos hp,show geI o.drop.place 0=true by simpa using hp]
   ·rw [if_neg hp,show geI o.drop.place 0=false by simpa using hp]
  | false =>
   rw [Qca]
   simp only [QF3 hd]
   by_cases hp:0≤o.pick.place
   ·rw [if_pos hp,show geI o.pick.place 0=true by simpa using hp]
   ·rw [if_neg hp,show geI o.pick.place 0=false by simpa using hp]
 ·rw [Qbj (by simp only [orT,Qoi,Qqs,lenI]; omega)]
  by_cases h0:0≤v.order
  ·rw [if_pos h0,if_pos h0,List.getElem?_eq_none (by omega)]; rfl
  ·rw [if_neg h0,if_neg h0]; rfl
theorem QDi {α:Type} {p:α→Bool} {l:List α} {k:Nat} {a:α} (ha:l[k]?=some a) (hp:p a=false):l.all p=false:=by
 rw [List.all_eq_false]
 exact ⟨a,List.mem_of_getElem? ha,by simp [hp]⟩
theorem QCZ:QcB x r=some (QtX x r):=by
 unfold QcB
 rw [QGU]
 unfold QtX
 by_cases h:preR x r=true
 ·have h5:r.visits.length≤20:=(of_decide_eq_true h).2.2.2.2
  rw [h,Bool.not_true,Qca,Bool.true_and]
  apply post.eq
  refine QaP (R:=fun e:Unit⊕Bool=>(∃ u,e=.inl u∧(r.visits.all fun v=>(Qq7 x v).isSome)=true)∨(e=.inr false∧(r.visits.all fun v=>(Qq7 x v).isSome)=false)) ?_ ?_
  ·refine QqO (B:=fun s=>Qbt x r s) r.visits.length _ (fun i=>∀ v,r.visits[i]?=some v→(Qq7 x v).isSome=true) (by omega) (fun i hi=>?_) ?_
   ·show post (Qbt x r (i:Int)) _
    unfold Qbt
    have e1:r.visits[i]?=some r.visits[i]:=List.getElem?_eq_getElem hi
    rw [Qbj (by simp [lenI]; omega),QaR e1,Qaj,inc hi (by omega)]
    show post (bnd (Qdr x r.visits[i]) _) _
    rw [Quk,Qaj]
    cases hs:Qq7 x r.visits[i] with
    | some s=>exact Qaw.2 (.inl ⟨rfl,fun v hv=>by rw [e1] at hv; cases hv; rw [hs]; rfl⟩)
    | none=>exact Qaw.2 (.inr ⟨_,rfl,.inr ⟨rfl,QDi e1 (by rw [hs]; rfl)⟩⟩)
   ·show post (Qbt x r (r.visits.length:Int)) _
    unfold Qbt
    rw [QaW (by simp [lenI])]
    refine Qaw.2 ⟨_,rfl,fun h=>.inl ⟨_,rfl,?_⟩⟩
    rw [List.all_eq_true]
    intro v hv
    obtain ⟨i,hi⟩:=List.getElem?_of_mem hv
    exact h i (List.getElem?_eq_some_iff.1 hi).1 v hi
  ·rintro e (⟨u,rfl,h⟩|⟨rfl,h⟩)
   ·rw [Qdm,h]; exact Qaw.2 rfl
   ·rw [Qm6,h]; exact Qaw.2 rfl
 ·have h':preR x r=false:=by simpa using h
  rw [h',Bool.not_false,QcK,Bool.false_and]
theorem QC6 (h:preR x r=true):getI x.types r.type_=some (typS x r)∧typS x r∈x.types:=by
 have h5:=of_decide_eq_true h
 unfold typS
 rw [List.getD_eq_getElem?_getD,List.getElem?_eq_getElem (by omega),Qr0 h5.1 h5.2.1]
 exact ⟨rfl,List.getElem_mem _⟩
theorem Qp9 (h:QtX x r=true):preR x r=true:=by unfold QtX at h; exact (andT.1 h).1
theorem QiR:(QaI x r).length=r.visits.length:=by simp [QaI]
theorem QwP (h:QtX x r=true) {i:Nat} {s:Qar} (hs:(QaI x r)[i]?=some s):∃ v,r.visits[i]?=some v∧Qq7 x v=some s:=by
 unfold QaI at hs
 rw [List.getElem?_map] at hs
 cases hv:r.visits[i]? with
 | none=>rw [hv] at hs; cases hs
 | some v =>
  rw [hv] at hs
  have h2:=List.all_eq_true.1 (andT.1 h).2 v (List.mem_of_getElem? hv)
  obtain ⟨s',hs'⟩:=Option.isSome_iff_exists.1 h2
  refine ⟨v,rfl,?_⟩
  simp only [Option.map_some,hs',Option.getD_some] at hs
  rw [← hs]; exact hs'
end
end Go.Proofs.YtfjiafgldchinaaGreatDoor
namespace Go.Proofs.YtfjiafgldchinaaGreatDoor
set_option linter.unusedSimpArgs false
set_option linter.unusedVariables false
set_option linter.unusedSectionVars false

theorem QtT {n:Qak} (h:QCo n) {profile a b t:Int} (ht:inT t) (h0:(goN n profile a b t).2.2=0):t≤(goN n profile a b t).1∧(goN n profile a b t).1≤t+73728∧0≤(goN n profile a b t).2.1∧(goN n profile a b t).2.1≤10000:=by
 unfold goN at h0 ⊢
 split at h0
 ·rename_i h1
  rw [if_pos h1]
  split at h0
  ·rename_i h2
   rw [if_pos h2]; exact ⟨Int.le_refl _,by simp only; omega,by simp,by simp⟩
  ·rename_i h2
   rw [if_neg h2]
   split at h0
   ·rename_i h3
    rw [if_pos h3]
    have ha:=h.all _ (QsB h3).1
    exact ⟨QER ha t,QES ha ht.1,ha.miles0,ha.miles1⟩
   ·simp at h0
 ·simp at h0
theorem QDB {n:Qak} (h:QCo n) {profile a b t t':Int} (ht:t≤t') (h0:(goN n profile a b t).2.2=0):(goN n profile a b t').2.2=0∧(goN n profile a b t).1≤(goN n profile a b t').1∧(goN n profile a b t').2.1=(goN n profile a b t).2.1:=by
 unfold goN at h0 ⊢
 split at h0
 ·rename_i h1
  rw [if_pos h1,if_pos h1]
  split at h0
  ·rename_i h2
   rw [if_pos h2,if_pos h2]; exact ⟨rfl,ht,rfl⟩
  ·rename_i h2
   rw [if_neg h2,if_neg h2]
   split at h0
   ·rename_i h3
    rw [if_pos h3,if_pos h3]
    exact ⟨rfl,QBh (h.all _ (QsB h3).1) ht,rfl⟩
   ·simp at h0
 ·simp at h0
structure SOK (s:Qar):Prop where
 open0:0≤s.open_
 open1:s.open_≤s.close
 close:s.close≤4096
 serv0:0≤s.service
 serv1:s.service≤4096
def endS (t:Qag):Qar:=Qar.mk t.to_ 0 t.close 0
section
variable (n : Qak) (t : Qag) (stops : List Qar)
def Qrd:Nat→Int
 | 0=>t.from_
 | k+1=>(stops.getD k QBa).place
def stopK (k:Nat):Qar:=stops.getD k (endS t)
def QD9 (ts:List QaF) (i:Nat) (dep:Int) (rest:Bool):List QaF:=match ts[i]? with
 | some m=>ts.set i (QaF.mk m.arrive m.begin dep rest)
 | none=>ts
def depS (l:QaJ) (rest:Bool):Int:=l.ready+(if rest=true then t.rest_ else 0)
def sinS (l:QaJ) (rest:Bool):Int:=if rest=true then 0 else l.since
def Qo9 (l:QaJ) (k:Nat) (dep:Int) (rest:Bool):List QaF:=if k=0 then l.sheet.times else QD9 l.sheet.times (k-1) dep rest
def shS (l:QaJ) (k:Nat) (rest:Bool) (dep:Int) (g:Int×Int×Int):Qap :=
 Qap.mk (if k=0 then rest else l.sheet.rest_) (if k=0 then dep else l.sheet.depart)
  (if k<stops.length then Qo9 l k dep rest++[QaF.mk g.1 (max g.1 (stopK t stops k).open_) 0 false] else Qo9 l k dep rest)
  (if k<stops.length then l.sheet.end_ else g.1) (l.sheet.miles+g.2.1)
def nxtD (l:QaJ) (k:Nat) (rest:Bool) (dep sn:Int):QaJ×Int :=
 if (goN n t.profile (Qrd t stops k) (stopK t stops k).place dep).2.2≠0 then (zLab,12)
 else if (stopK t stops k).close<(goN n t.profile (Qrd t stops k) (stopK t stops k).place dep).1 then (zLab,if k<stops.length then 14 else 15)
 else if t.drive<sn+(goN n t.profile (Qrd t stops k) (stopK t stops k).place dep).1-dep then (zLab,16)
 else (QaJ.mk (max (goN n t.profile (Qrd t stops k) (stopK t stops k).place dep).1 (stopK t stops k).open_+(stopK t stops k).service) (sn+(goN n t.profile (Qrd t stops k) (stopK t stops k).place dep).1-dep)
  (shS t stops l k rest dep (goN n t.profile (Qrd t stops k) (stopK t stops k).place dep)),0)
def nxt (l:QaJ) (k:Nat) (rest:Bool):QaJ×Int:=nxtD n t stops l k rest (depS t l rest) (sinS l rest)
end
structure LabI (k:Nat) (l:QaJ):Prop where
 ready0:0≤l.ready
 ready1:l.ready≤8192
 since0:0≤l.since
 since1:l.since≤4096
 miles0:0≤l.sheet.miles
 miles1:l.sheet.miles≤10000*k
 times:l.sheet.times.length=k
structure Qqi (n:Qak) (t:Qag) (stops:List Qar):Prop where
 net:QCo n
 opn:0≤t.open_∧t.open_≤t.close
 close:t.close≤4096
 drive:1≤t.drive∧t.drive≤4096
 rest:0≤t.rest_∧t.rest_≤4096
 few:stops.length≤20
 stops:∀ s∈stops,SOK s
theorem QEq {x:Qab} {r:Qam} (hx:QaV x) (h:QtX x r=true):Qqi x.net (typS x r) (QaI x r):=by
 have hT:=hx.typ _ (QC6 (Qp9 h)).2
 refine ⟨hx.net,hT.opn,hT.close,hT.drive,hT.rest,by rw [QiR]; exact (of_decide_eq_true (Qp9 h)).2.2.2.2,fun s hs=>?_⟩
 obtain ⟨i,hi⟩:=List.getElem?_of_mem hs
 obtain ⟨v,_,hv⟩:=QwP h hi
 have:=QAN hx hv
 exact ⟨this.2.2.1,this.2.2.2.1,this.2.2.2.2.1,this.2.2.2.2.2.1,this.2.2.2.2.2.2⟩
section
variable {n : Qak} {t : Qag} {stops : List Qar} {l : QaJ} {k : Nat} {rest : Bool} {dep sn : Int}
theorem Qqi.stopK (h:Qqi n t stops) (k:Nat):SOK (stopK t stops k):=by
 unfold Go.Proofs.YtfjiafgldchinaaGreatDoor.stopK
 rw [List.getD_eq_getElem?_getD]
 cases hs:stops[k]? with
 | some s=>exact h.stops s (List.mem_of_getElem? hs)
 | none=>exact ⟨Int.le_refl _,by have:=h.opn; show 0≤t.close; omega,h.close,Int.le_refl _,by show (0:Int)≤4096; omega⟩
theorem QEm (h:k<stops.length):stops[k]?=some (stopK t stops k):=by
 unfold stopK; rw [List.getD_eq_getElem?_getD,List.getElem?_eq_getElem h]; rfl
theorem Qq6 (h:¬ k<stops.length):stopK t stops k=endS t:=by
 unfold stopK; rw [List.getD_eq_getElem?_getD,List.getElem?_eq_none (by omega)]; rfl
theorem QCa {ts:List QaF} {i:Nat}:(QD9 ts i dep rest).length=ts.length:=by unfold QD9; split <;> simp
theorem Qpa:(Qo9 l k dep rest).length=l.sheet.times.length:=by unfold Qo9; split; rfl; exact QCa
theorem Qwr (h:Qqi n t stops) (hl:LabI k l) (h0:(nxt n t stops l k rest).2=0) :
  (goN n t.profile (Qrd t stops k) (stopK t stops k).place (depS t l rest)).2.2=0∧(goN n t.profile (Qrd t stops k) (stopK t stops k).place (depS t l rest)).1≤(stopK t stops k).close ∧
  sinS l rest+(goN n t.profile (Qrd t stops k) (stopK t stops k).place (depS t l rest)).1-depS t l rest≤t.drive ∧
  (nxt n t stops l k rest).1=QaJ.mk (max (goN n t.profile (Qrd t stops k) (stopK t stops k).place (depS t l rest)).1 (stopK t stops k).open_+(stopK t stops k).service) (sinS l rest+(goN n t.profile (Qrd t stops k) (stopK t stops k).place (depS t l rest)).1-depS t l rest)
   (shS t stops l k rest (depS t l rest) (goN n t.profile (Qrd t stops k) (stopK t stops k).place (depS t l rest))):=by
 unfold nxt nxtD at h0 ⊢
 split at h0
 ·simp at h0
 ·rename_i h1
  split at h0
  ·simp only at h0; split at h0 <;> simp at h0
  ·rename_i h2
   split at h0
   ·simp at h0
   ·rename_i h3
    rw [if_neg h1,if_neg h2,if_neg h3]
    exact ⟨by simpa using h1,by omega,by omega,rfl⟩
theorem Qyl (h:Qqi n t stops) (hl:LabI k l):inT (depS t l rest):=by
 have h1:=hl.ready0; have h2:=hl.ready1; have h3:=h.rest
 unfold depS inT
 split <;> omega
theorem QxL (h:Qqi n t stops) (hl:LabI k l) (hk:k<stops.length) (h0:(nxt n t stops l k rest).2=0):LabI (k+1) (nxt n t stops l k rest).1:=by
 obtain ⟨g0,g1,g2,g3⟩:=Qwr h hl h0
 have hin:=Qyl (rest:=rest) h hl
 have hb:=QtT h.net hin g0
 have hS:=h.stopK k
 have:=hS.open0; have:=hS.open1; have:=hS.close; have:=hS.serv0; have:=hS.serv1
 have hd:=h.drive
 have hm0:=hl.miles0; have hm1:=hl.miles1
 have hsn:0≤sinS l rest:=by unfold sinS; split; omega; exact hl.since0
 unfold inT at hin
 rw [g3]
 refine ⟨by simp only; omega,by simp only; omega,by simp only; omega,by simp only; omega,?_,?_,?_⟩
 ·show 0≤l.sheet.miles+_; omega
 ·show l.sheet.miles+_≤_; rw [Int.natCast_add,Int.mul_add]; omega
 ·show (if k<stops.length then _ else _:List QaF).length=_
  rw [if_pos hk,List.length_append,Qpa,hl.times]; rfl
end
end Go.Proofs.YtfjiafgldchinaaGreatDoor
