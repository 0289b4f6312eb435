/- Part MP of the proof: texts Yqa Yqb Yqc Yqd Yqe Yqi Yqj Yqk Yql. -/
import Derived.Test.YtpkkaboonnedfaaGreatDoorMT
import Derived.KernelRfl
namespace Go.Proofs.YtpkkaboonnedfaaGreatDoor
set_option linter.unusedSimpArgs false
set_option linter.unusedVariables false
set_option linter.unusedSectionVars false

section
variable {α : Type}
theorem Qz3 {B : List α × Int → Option ((List α × Int) ⊕ (List α))} (n c : Nat) (P : Nat → Prop) (init : List α) (hn : n < 18446744073709551615)
    (step : ∀ (i : Nat) (out : List α), i < n → out.length ≤ init.length + c * i → post (B (out, (i : Int))) fun x => ∃ new, x = .inl (out ++ new, (i : Int) + 1) ∧ new.length ≤ c ∧ (new = [] ↔ P i))
    (fin : ∀ out, B (out, (n : Int)) = some (.inr out)) : post (QaT B (init, 0)) fun r => r.length ≤ init.length + c * n ∧ (r = [] ↔ init = [] ∧ ∀ i, i < n → P i) := by
  refine QeM (fun s => ∃ i : Nat, s.2 = (i : Int) ∧ i ≤ n ∧ s.1.length ≤ init.length + c * i ∧ (s.1 = [] ↔ init = [] ∧ ∀ k, k < i → P k)) (fun s => n - s.2.toNat)
    ⟨0, rfl, Nat.zero_le _, by simp, by simp⟩ (by simp; omega) ?_
  rintro ⟨out, j⟩ ⟨i, hj, hi, hl, he⟩
  simp only at hj hl he
  subst hj
  by_cases h : i < n
  · refine (step i out h hl).mono ?_
    rintro x ⟨new, rfl, h1, h2⟩
    refine ⟨fun s' hs => ?_, fun _ h => by cases h⟩
    cases hs
    refine ⟨⟨i + 1, by simp, by omega, by simp [Nat.mul_add]; omega, ?_⟩, by simp; omega⟩
    simp only [List.append_eq_nil_iff, he, h2]
    constructor
    · rintro ⟨⟨h3, h4⟩, h5⟩
      exact ⟨h3, fun k hk => by rcases Nat.lt_or_ge k i with h | h; exact h4 k h; obtain rfl : k = i := by omega
                                exact h5⟩
    · rintro ⟨h3, h4⟩
      exact ⟨⟨h3, fun k hk => h4 k (by omega)⟩, h4 i (by omega)⟩
  · obtain rfl : i = n := by omega
    rw [fin]
    exact QdT ⟨hl, he⟩
end
theorem QeN {n b:Nat} (h:n*b≤140737488355328):okN n b:=h
theorem orT {a b:Bool}:(a||b)=true↔a=true∨b=true:=Bool.or_eq_true_iff ..
theorem orF {a b:Bool}:(a||b)=false↔a=false∧b=false:=Bool.or_eq_false_iff
theorem andT {a b:Bool}:(a&&b)=true↔a=true∧b=true:=Bool.and_eq_true_iff
theorem andF {a b:Bool}:(a&&b)=false↔a=false∨b=false:=Bool.and_eq_false_iff
theorem ntT {a:Bool}:(!a)=true↔a=false:=by cases a <;> simp
theorem ntF {a:Bool}:(!a)=false↔a=true:=by cases a <;> simp

theorem QmX (l:List Int):(QsI l).size=l.length:=by simp [QsI,ByteArray.size]
theorem QCl (a:Int):(a.tdiv 10).natAbs=a.natAbs / 10:=by rw [Int.natAbs_tdiv]; rfl
theorem QHJ {a:Int} (h:a.natAbs≤9223372036854775808):quoK .i64 a 10=a.tdiv 10:=by
 have:=QCl a
 exact quoI (by omega) (by omega)
def QAk (n:Int):Prop:=-9223372036854775808≤n∧n≤9223372036854775807
theorem QyQ {n left d:Int} {s:ByteArray} {k:Nat} (hl:left.natAbs≤9223372036854775808) (h1:left.natAbs<10 ^ k) (h2:s.size+k≤20) (hk:1≤k) :
  post (QdL n s left d) fun x=>(∀ s',x=.inl s'→(∃ k:Nat,s'.2.1.natAbs≤9223372036854775808∧s'.2.1.natAbs<10 ^ k∧s'.1.size+k≤20∧(s'.2.2=true→1≤k∧s'.2.1≠0))∧s'.2.1.natAbs+(if s'.2.2 then 1 else 0)<left.natAbs+1)∧∀ e,x=.inr e→e.size≤20:=by
 unfold QdL
 have hq:=QHJ hl
 have ha:=QCl left
 refine QbG (by rw [QmX]; simp; omega) (Qhj ?_)
 simp only [hq]
 obtain ⟨k,rfl⟩:∃ j,k=j+1:=⟨k-1,by omega⟩
 have hs:(catS (QsI [cvK IntKind.u8 (addK IntKind.i64 48 d)]) s).size=1+s.size:=by unfold catS; rw [ByteArray.size_append,QmX]; rfl
 refine ⟨⟨k,by omega,by rw [ha]; rw [Nat.pow_succ] at h1; omega,by rw [hs]; omega,fun h=>?_⟩,?_⟩
 ·simp only [Qzf] at h
  refine ⟨?_,h⟩
  rcases Nat.eq_zero_or_pos k with rfl|h'
  ·exfalso; apply h; have:(left.tdiv 10).natAbs=0:=by rw [ha]; simp at h1; omega
   omega
  ·exact h'
 ·cases hb:neI (left.tdiv 10) 0 with
  | true =>
   simp only [Qzf] at hb
   simp only [if_true]
   have:(left.tdiv 10).natAbs≠0:=by omega
   omega
  | false=>simp only [Bool.false_eq_true,if_false]; omega
theorem Qm0 (n:Int) (hn:QAk n):post (Qb3 n) fun s=>s.size≤21:=by
 unfold QAk at hn
 refine Qbc (R:=fun s=>s.size≤20) ?_ fun s hs=>?_
 ·refine QeM (fun s=>∃ k:Nat,s.2.1.natAbs≤9223372036854775808∧s.2.1.natAbs<10 ^ k∧s.1.size+k≤20∧(s.2.2=true→1≤k∧(s.2.1=0→True))) (fun s=>s.2.1.natAbs+(if s.2.2 then 1 else 0)) ⟨19,by simp only; omega,by simp only; omega,by simp [ByteArray.size_empty],by simp⟩ (by simp only; split <;> omega) ?_
  rintro ⟨s,left,again⟩ ⟨k,h0,h1,h2,h3⟩
  simp only at h0 h1 h2 h3
  cases again with
  | false=>exact QdT (show s.size≤20 by omega)
  | true =>
   refine post.mono (Q:=fun x=>(∀ s',x=.inl s'→(∃ k:Nat,s'.2.1.natAbs≤9223372036854775808∧s'.2.1.natAbs<10 ^ k∧s'.1.size+k≤20∧(s'.2.2=true→1≤k∧s'.2.1≠0))∧s'.2.1.natAbs+(if s'.2.2 then 1 else 0)<left.natAbs+1)∧∀ e,x=.inr e→e.size≤20) ?_ ?_
   ·show post (br true (br (ltI (remK left 10) 0) _ _) _) _
    rw [QjV]
    exact Qa0 (fun _=>QyQ h0 h1 h2 (h3 rfl).1) (fun _=>QyQ h0 h1 h2 (h3 rfl).1)
   ·rintro x ⟨g1,g2⟩
    refine ⟨fun s' hs=>?_,g2⟩
    obtain ⟨⟨k',q1,q2,q3,q4⟩,q5⟩:=g1 s' hs
    exact ⟨⟨k',q1,q2,q3,fun h=>⟨(q4 h).1,fun _=>trivial⟩⟩,q5⟩
 ·refine Qa0 (fun _=>QbG ?_ (QaH.2 ?_)) (fun _=>QaH.2 (by omega))
  ·show 1+s.size≤_; omega
  ·unfold catS; rw [ByteArray.size_append]; show 1+s.size≤_; omega
theorem Qxx {k:Nat} (h:k<4294967296):QAk (k:Int):=by unfold QAk; omega

abbrev Pt:=Qao
def okA (p:Pt):Prop:=0≤p.t∧p.t≤4096∧p.t≤p.a∧p.a≤p.t+4096
def okP (l:List Pt) (i:Nat):Prop:=∀ p,l[i]?=some p→okA p∧(0<i→∀ q,l[i-1]?=some q→q.t<p.t∧q.a≤p.a)
structure QuX (l:List Pt):Prop where
 pos:1≤l.length
 most:l.length≤16
 all:∀ i,i<l.length→okP l i
def ptI (p:Pt):Prop:=QAk p.t∧QAk p.a
theorem QB1 {l:List Pt} {i:Nat} {x0:Pt} {out new:List Qab} (hx:l[i]?=some x0) (hi:i<2000000) (hlen:l.length<2000000) (ho:out.length≤1+2*i) (hn:new.length≤1) (hw:new=[]↔okA x0) :
  post (Qet l (i:Int) x0 (out++new)) fun x=>∃ new,x=.inl (out++new,(i:Int)+1)∧new.length≤2∧(new=[]↔okP l i):=by
 have hadd:addK .i64 (i:Int) 1=(i:Int)+1:=addI (by omega) (by omega)
 unfold Qet
 have hokN:∀ f:Qab,okN (out++new++[f]).length 24:=fun f=>QeN (by simp; omega)
 have leafY:(0<i→∀ q,l[i-1]?=some q→q.t<x0.t∧q.a≤x0.a)→post (some (Sum.inl (out++new,addK .i64 (i:Int) 1):(List Qab×Int)⊕List Qab)) fun x=>∃ new,x=.inl (out++new,(i:Int)+1)∧new.length≤2∧(new=[]↔okP l i):=by
  intro hq
  rw [hadd]
  refine ⟨_,rfl,new,rfl,by omega,?_⟩
  rw [hw]
  exact ⟨fun h p hp=>by rw [hx] at hp; cases hp; exact ⟨h,hq⟩,fun h=>(h x0 hx).1⟩
 have leafN:∀ r:ByteArray,(∃ q,0<i∧l[i-1]?=some q∧¬ (q.t<x0.t∧q.a≤x0.a))→post (chk (okN (out++new++[Qab.mk 13 r]).length 24) (some (Sum.inl (out++new++[Qab.mk 13 r],addK .i64 (i:Int) 1):(List Qab×Int)⊕List Qab))) fun x=>∃ new,x=.inl (out++new,(i:Int)+1)∧new.length≤2∧(new=[]↔okP l i):=by
  rintro r ⟨q,h0,h1,h2⟩
  refine QbG (hokN _) ?_
  rw [hadd]
  refine ⟨_,rfl,new++[_],by rw [List.append_assoc],by simp; omega,?_⟩
  constructor
  ·intro h; simp at h
  ·intro h; exact absurd ((h x0 hx).2 h0 q h1) h2
 refine Qa0 (fun h=>?_) (fun h=>leafY fun h0=>by simp at h; omega)
 simp only [QyZ] at h
 have h1:subK .i64 (i:Int) 1=((i-1:Nat):Int):=by rw [subI (by omega) (by omega)]; omega
 have hx1:l[i-1]?=some (l[i-1]'(by have:=(List.getElem?_eq_some_iff.1 hx).1; omega)):=List.getElem?_eq_getElem _
 rw [h1,QaX hx1,Qaj]
 have hd:=Qm0 (i:Int) (Qxx (by omega))
 refine Qa0 (fun h2=>Qbc hd fun r _=>leafN r ⟨_,by omega,hx1,fun hh=>?_⟩) (fun h2=>Qa0 (fun h3=>Qbc hd fun r _=>leafN r ⟨_,by omega,hx1,fun hh=>?_⟩) (fun h3=>leafY fun _ q hq=>?_))
 ·simp only [Qx8] at h2; omega
 ·simp only [Qsh] at h3; omega
 ·rw [hx1] at hq; cases hq
  simp only [QGP] at h2
  simp only [QsA] at h3
  omega
theorem QHE {x0:Pt} (hI:ptI x0):((((ltI x0.t 0)||(gtI x0.t 4096))||(ltI x0.a x0.t))||(gtI x0.a (addK .i64 x0.t 4096)))=false↔okA x0:=by
 obtain ⟨h1,h2⟩:=hI
 unfold QAk at h1 h2
 simp only [orF,QsA,QvR]
 unfold okA
 constructor
 ·rintro ⟨⟨⟨a,b⟩,c⟩,d⟩
  rw [addI (by omega) (by omega)] at d
  omega
 ·rintro ⟨a,b,c,d⟩
  rw [addI (by omega) (by omega)]
  omega
theorem Qry {l:List Pt} (hlen:l.length≤1048576) (hI:∀ p∈l,ptI p):post (Qfq l) fun r=>r.length≤1+2*l.length∧(r=[]↔QuX l):=by
 have main:∀ init:List Qab,init.length≤1→post (QfR l init) fun r=>r.length≤init.length+2*l.length∧(r=[]↔init=[]∧∀ i,i<l.length→okP l i):=by
  intro init hin
  refine Qbc ?_ fun a h=>QaH.2 h
  refine Qz3 l.length 2 (okP l) init (by omega) (fun i out hi ho=>?_) (fun out=>?_)
  ·have hx:=QtR hi
   have hx':l[i]?=some l[i]:=List.getElem?_eq_getElem hi
   show post (QdE l out (i:Int)) _
   unfold QdE
   rw [QaY (by simp [lenI]; exact hi),hx,Qaj]
   have hp:=hI l[i] (List.getElem_mem hi)
   refine Qa0 (fun h=>Qbc (Qm0 (i:Int) (Qxx (by omega))) fun r _=>QbG (QeN (by simp; omega)) (QB1 (new:=[_]) hx' (by omega) (by omega) (by omega) (by simp) (Iff.intro (fun h=>by cases h) (fun h'=>?_)))) (fun h=>?_)
   ·rw [(QHE hp).2 h'] at h; cases h
   ·have:=QB1 (out:=out) (new:=[]) hx' (by omega) (by omega) (by omega) (by simp) ⟨fun _=>(QHE hp).1 h,fun _=>rfl⟩
    rwa [List.append_nil] at this
  ·unfold QdE
   rw [QaO (by simp [lenI])]
 unfold Qfq
 refine Qa0 (fun h=>QbG (QeN (by simp)) ((main _ (by simp)).mono ?_)) (fun h=>(main _ (by simp)).mono ?_)
 ·rintro r ⟨h1,h2⟩
  refine ⟨by simpa using h1,?_⟩
  rw [h2]
  simp only [orT,Qsh,QyZ,lenI] at h
  exact ⟨fun h=>by (cases h.1),fun h'=>by have:=h'.pos; have:=h'.most; omega⟩
 ·rintro r ⟨h1,h2⟩
  refine ⟨by simp at h1 ⊢; omega,?_⟩
  rw [h2]
  simp only [orF,QsA,QvR,lenI] at h
  exact ⟨fun h'=>⟨by omega,by omega,h'.2⟩,fun h'=>⟨rfl,h'.all⟩⟩
end Go.Proofs.YtpkkaboonnedfaaGreatDoor
namespace Go.Proofs.YtpkkaboonnedfaaGreatDoor
set_option linter.unusedSimpArgs false
set_option linter.unusedVariables false
set_option linter.unusedSectionVars false

def seg (p q:Pt) (t:Int):Int:=p.a+((t-p.t)*(q.a-p.a)+(q.t-p.t)-1) / (q.t-p.t)
def arrL:List Pt→Int→Int
 | [],_=>0
 | [p],t=>t+p.a-p.t
 | p :: q :: r,t=>if t<q.t then (if t<p.t then t+p.a-p.t else seg p q t) else arrL (q :: r) t
def Srt:List Pt→Prop
 | []=>True
 | [p]=>okA p
 | p :: q :: r=>okA p∧p.t<q.t∧p.a≤q.a∧Srt (q :: r)
theorem QGB:∀ {l:List Pt},(∀ i,i<l.length→okP l i)→Srt l
 | [],_=>trivial
 | [p],h=>(h 0 (by simp) p rfl).1
 | p :: q :: r,h=>by
  have h0:=h 0 (by simp) p rfl
  have h1:=(h 1 (by simp) q rfl).2 (by omega) p rfl
  refine ⟨h0.1,h1.1,h1.2,QGB fun i hi x hx=>?_⟩
  have h2:=h (i+1) (by simpa using hi) x hx
  refine ⟨h2.1,fun h3 y hy=>h2.2 (by omega) y ?_⟩
  obtain ⟨j,rfl⟩:∃ j,i=j+1:=⟨i-1,by omega⟩
  exact hy
theorem QuX.srt {l:List Pt} (h:QuX l):Srt l:=QGB h.all
theorem Srt.okA_at:∀ {l:List Pt},Srt l→∀ {i:Nat} {p:Pt},l[i]?=some p→okA p
 | [],_,_,_,h=>by simp at h
 | [p],h,0,x,hx=>by cases hx; exact h
 | [p],h,i+1,x,hx=>by simp at hx
 | p :: q :: r,h,0,x,hx=>by cases hx; exact h.1
 | p :: q :: r,h,i+1,x,hx=>Srt.okA_at (l:=q :: r) h.2.2.2 hx
theorem Srt.pair:∀ {l:List Pt},Srt l→∀ {i:Nat} {p q:Pt},l[i]?=some p→l[i+1]?=some q→p.t<q.t∧p.a≤q.a
 | [],_,_,_,_,h,_=>by simp at h
 | [p],h,i,x,y,_,hy=>by simp at hy
 | p :: q :: r,h,0,x,y,hx,hy=>by cases hx; cases hy; exact ⟨h.2.1,h.2.2.1⟩
 | p :: q :: r,h,i+1,x,y,hx,hy=>Srt.pair (l:=q :: r) h.2.2.2 hx hy
theorem Srt.lt {l:List Pt} (h:Srt l) {i:Nat}:∀ {j:Nat},i<j→∀ {p q:Pt},l[i]?=some p→l[j]?=some q→p.t<q.t
 | j+1,hij,p,q,hp,hq=>by
  rcases Nat.lt_or_ge i j with h'|h'
  ·have hj:l[j]?=some (l[j]'(by have:=(List.getElem?_eq_some_iff.1 hq).1; omega)):=List.getElem?_eq_getElem _
   have:=h.lt h' hp hj
   have:=(h.pair hj hq).1
   omega
  ·obtain rfl:i=j:=by omega
   exact (h.pair hp hq).1
theorem QCd {p q:Pt} (h:p.t<q.t):seg p q p.t=p.a:=by
 unfold seg
 rw [Int.sub_self,Int.zero_mul,Int.ediv_eq_zero_of_lt (by omega) (by omega)]; omega
theorem Qzt {p q:Pt} (h:p.t<q.t):seg p q q.t=q.a:=by
 unfold seg
 rw [show (q.t-p.t)*(q.a-p.a)+(q.t-p.t)-1=(q.t-p.t-1)+(q.t-p.t)*(q.a-p.a) by omega,Int.add_mul_ediv_left _ _ (by omega),Int.ediv_eq_zero_of_lt (by omega) (by omega)]; omega
theorem QyG {p:Pt} {r:List Pt} (h:Srt (p :: r)):arrL (p :: r) p.t=p.a:=by
 cases r with
 | nil=>simp only [arrL]; omega
 | cons q r=>simp only [arrL]; rw [if_pos h.2.1,if_neg (by omega),QCd h.2.1]
theorem QAB {p:Pt} {r:List Pt} (h:Srt (p :: r)) {t:Int} (ht:t≤p.t):arrL (p :: r) t=t+p.a-p.t:=by
 by_cases he:t=p.t
 ·subst he; rw [QyG h]; omega
 ·cases r with
  | nil=>rfl
  | cons q r=>simp only [arrL]; have:=h.2.1; rw [if_pos (by omega),if_pos (by omega)]
theorem QuN:∀ {l:List Pt},Srt l→∀ {p:Pt},l[l.length-1]?=some p→∀ {t:Int},p.t≤t→arrL l t=t+p.a-p.t
 | [],_,_,hp,_,_=>by simp at hp
 | [x],_,p,hp,t,_=>by cases hp; rfl
 | x :: y :: r,h,p,hp,t,ht=>by
  have hp':(y :: r)[(y :: r).length-1]?=some p:=by simpa using hp
  have:y.t≤t:=by
   rcases Nat.eq_zero_or_pos r.length with h0|h0
   ·have:r=[]:=List.length_eq_zero_iff.1 h0
    subst this; cases hp'; exact ht
   ·have:=h.2.2.2.lt (i:=0) (j:=(y :: r).length-1) (by simp; omega) rfl hp'
    omega
  simp only [arrL]
  rw [if_neg (by omega)]
  exact QuN h.2.2.2 hp' ht
theorem Qwq:∀ {l:List Pt},Srt l→∀ {j:Nat} {p q:Pt},l[j]?=some p→l[j+1]?=some q→∀ {t:Int},p.t≤t→t≤q.t→arrL l t=seg p q t
 | [],_,_,_,_,hp,_,_,_,_=>by simp at hp
 | [x],_,_,_,_,_,hq,_,_,_=>by simp at hq
 | x :: y :: r,h,0,p,q,hp,hq,t,h1,h2=>by
  cases hp; cases hq
  simp only [arrL]
  by_cases he:t<y.t
  ·rw [if_pos he,if_neg (by omega)]
  ·obtain rfl:t=y.t:=by omega
   rw [if_neg he,QyG h.2.2.2,Qzt h.2.1]
 | x :: y :: r,h,j+1,p,q,hp,hq,t,h1,h2=>by
  have:y.t≤p.t:=by
   rcases Nat.eq_zero_or_pos j with rfl|h0
   ·cases hp; omega
   ·have:=h.2.2.2.lt (i:=0) (j:=j) h0 rfl hp; omega
  simp only [arrL]
  rw [if_neg (by omega)]
  exact Qwq (l:=y :: r) h.2.2.2 hp hq h1 h2
theorem QFj {p q:Pt} (h1:p.t<q.t) (h2:p.a≤q.a) {t t':Int} (h:t≤t'):seg p q t≤seg p q t':=by
 unfold seg
 have:=Int.mul_le_mul_of_nonneg_right (show t-p.t≤t'-p.t by omega) (show 0≤q.a-p.a by omega)
 have:=Int.ediv_le_ediv (show 0<q.t-p.t by omega) (show (t-p.t)*(q.a-p.a)+(q.t-p.t)-1≤(t'-p.t)*(q.a-p.a)+(q.t-p.t)-1 by omega)
 omega
theorem QHr {p q:Pt} (hp:p.t≤p.a) (hq:q.t≤q.a) (h1:p.t<q.t) {t:Int} (h:p.t≤t) (h':t≤q.t):t≤seg p q t:=by
 unfold seg
 have key:(t-p.a)*(q.t-p.t)≤(t-p.t)*(q.a-p.a):=by
  have e1:0≤(t-p.t)*(q.a-q.t):=Int.mul_nonneg (by omega) (by omega)
  have e2:0≤(q.t-t)*(p.a-p.t):=Int.mul_nonneg (by omega) (by omega)
  have e3:(t-p.t)*(q.a-p.a)-(t-p.a)*(q.t-p.t)=(t-p.t)*(q.a-q.t)+(q.t-t)*(p.a-p.t):=by
   simp only [Int.sub_mul,Int.mul_sub,Int.mul_comm]
   omega
  omega
 have:=(Int.le_ediv_iff_mul_le (show 0<q.t-p.t by omega)).2 (show (t-p.a)*(q.t-p.t)≤(t-p.t)*(q.a-p.a)+(q.t-p.t)-1 by omega)
 omega
theorem QyF:∀ {l:List Pt},Srt l→l≠[]→∀ (t:Int),t≤arrL l t
 | [],_,h,_=>absurd rfl h
 | [p],h,_,t=>by simp only [arrL]; have:=h.2.2.1; omega
 | p :: q :: r,h,_,t=>by
  have hq:okA q:=h.2.2.2.okA_at (i:=0) rfl
  have h1:=h.1.2.2.1
  simp only [arrL]
  by_cases h3:t<q.t
  ·rw [if_pos h3]
   by_cases h4:t<p.t
   ·rw [if_pos h4]; omega
   ·rw [if_neg h4]; exact QHr h1 hq.2.2.1 h.2.1 (by omega) (by omega)
  ·rw [if_neg h3]; exact QyF h.2.2.2 (by simp) t
theorem QyH:∀ {l:List Pt},Srt l→∀ {t:Int},0≤t→arrL l t≤t+8192
 | [],_,t,h=>by simp only [arrL]; omega
 | [p],h,t,_=>by simp only [arrL]; have:=h.2.2.2; omega
 | p :: q :: r,h,t,h0=>by
  have hq:okA q:=h.2.2.2.okA_at (i:=0) rfl
  have h1:=h.1.2.2.2
  simp only [arrL]
  by_cases h3:t<q.t
  ·rw [if_pos h3]
   by_cases h4:t<p.t
   ·rw [if_pos h4]; omega
   ·rw [if_neg h4]
    have:=QFj h.2.1 h.2.2.1 (show t≤q.t by omega)
    rw [Qzt h.2.1] at this
    have:=hq.2.2.2; have:=hq.2.1; omega
  ·rw [if_neg h3]; exact QyH h.2.2.2 h0
end Go.Proofs.YtpkkaboonnedfaaGreatDoor
namespace Go.Proofs.YtpkkaboonnedfaaGreatDoor
set_option linter.unusedSimpArgs false
set_option linter.unusedVariables false
set_option linter.unusedSectionVars false

def inT (t:Int):Prop:=0≤t∧t≤1073741824
theorem QEf {p q:Pt} (h1:okA p) (h2:okA q) (h:p.t<q.t) (h':p.a≤q.a) {t:Int} (a:p.t≤t) (b:t≤q.t) :
  0≤(t-p.t)*(q.a-p.a)∧(t-p.t)*(q.a-p.a)≤33554432∧0≤((t-p.t)*(q.a-p.a)+(q.t-p.t)-1) / (q.t-p.t)∧((t-p.t)*(q.a-p.a)+(q.t-p.t)-1) / (q.t-p.t)≤33558528:=by
 unfold okA at h1 h2
 have e1:0≤(t-p.t)*(q.a-p.a):=Int.mul_nonneg (by omega) (by omega)
 have e2:(t-p.t)*(q.a-p.a)≤4096*8192:=Int.mul_le_mul (by omega) (by omega) (by omega) (by omega)
 have e3:0≤((t-p.t)*(q.a-p.a)+(q.t-p.t)-1) / (q.t-p.t):=Int.ediv_nonneg (by omega) (by omega)
 have e4:((t-p.t)*(q.a-p.a)+(q.t-p.t)-1) / (q.t-p.t)≤(t-p.t)*(q.a-p.a)+(q.t-p.t)-1:=Int.ediv_le_self _ (by omega)
 exact ⟨e1,by omega,e3,by omega⟩
theorem QuX.at {l:List Pt} (h:QuX l) {i:Nat} {p:Pt} (hp:l[i]?=some p):okA p:=h.srt.okA_at hp
theorem QuX.bd {l:List Pt} (h:QuX l) {i:Nat} {p:Pt} (hp:l[i]?=some p):0≤p.t∧p.t≤4096∧p.t≤p.a∧p.a≤8192:=by
 have:=h.at hp; unfold okA at this; omega
theorem QuX.ptI {l:List Pt} (h:QuX l):∀ p∈l,ptI p:=fun p hp=>by
 obtain ⟨i,hi⟩:=List.getElem?_of_mem hp
 have:=h.bd hi
 unfold Go.Proofs.YtpkkaboonnedfaaGreatDoor.ptI QAk; omega
theorem QGF {a b:Int} (h:0≤a):a.tdiv b=a / b:=Int.tdiv_eq_ediv_of_nonneg h

theorem quoP {a b:Int} (h:0≤a) (h':a≤9223372036854775807) (hb:0<b):quoK .i64 a b=a / b:=by
 have h1:0≤a / b:=Int.ediv_nonneg h (by omega)
 have h2:a / b≤a:=Int.ediv_le_self _ h
 have h3:=QGF (b:=b) h
 rw [quoI (by rw [h3]; omega) (by rw [h3]; omega),h3]
theorem QuI {l:List Pt} (h:QuX l):Qfq l=some []:=by
 obtain ⟨r,h1,h2,h3⟩:=Qry (by have:=h.most; omega) h.ptI
 rw [h1,h3.2 h]
theorem Qt2 {l:List Pt} (h:QuX l) {t:Int} (ht:inT t):QgX l t=some (arrL l t):=by
 apply post.eq
 obtain ⟨p0,r0,rfl⟩:∃ p r,l=p :: r:=by
  cases l with
  | nil=>have:=h.pos; simp at this
  | cons p r=>exact ⟨p,r,rfl⟩
 generalize hl:p0 :: r0=l at h
 have h0:l[0]?=some p0:=by rw [← hl]; rfl
 have hpos:=h.pos
 have hmost:=h.most
 have hlast:l[l.length-1]?=some (l[l.length-1]'(by omega)):=List.getElem?_eq_getElem _
 unfold inT at ht
 unfold QgX
 rw [QuI h,Qaj]
 refine Qa0 (fun hb=>?_) (fun _=>?_)
 ·simp only [orT,QyZ,Qsh,QE1] at hb; omega
 refine Qbc (R:=fun e=>(∃ u,e=.inl u∧∀ p,l[l.length-1]?=some p→p.t≤t∨t<p0.t)∨e=.inr (arrL l t)) ?_ ?_
 ·refine QeM (fun i=>∃ k:Nat,i=(k:Int)∧k<l.length∧(∀ p,l[k]?=some p→p.t≤t∨t<p0.t)) (fun i=>l.length-i.toNat) ⟨0,rfl,by omega,fun p hp=>by rw [h0] at hp; cases hp; omega⟩ (by simp; omega) ?_
  rintro _ ⟨k,rfl,hk,hC⟩
  show post (QdY l t (k:Int)) _
  unfold QdY
  have hadd:addK .i64 (k:Int) 1=((k+1:Nat):Int):=by rw [addI (by omega) (by omega)]; omega
  rw [hadd]
  refine Qa0 (fun hb=>?_) (fun hb=>QdT (.inl ⟨_,rfl,fun p hp=>hC p ?_⟩))
  rotate_left
  ·simp only [QsA,lenI] at hb
   rw [show k=l.length-1 by omega]; exact hp
  simp only [Qsh,lenI] at hb
  have hk1:k+1<l.length:=by omega
  have e1:l[k]?=some l[k]:=List.getElem?_eq_getElem hk
  have e2:l[k+1]?=some l[k+1]:=List.getElem?_eq_getElem hk1
  rw [QaX e1,Qaj,QaX e2,Qaj]
  generalize l[k]=p at e1
  generalize l[k+1]=q at e2
  have hp:=h.bd e1; have hq:=h.bd e2
  obtain ⟨hpq,hpa⟩:=h.srt.pair e1 e2
  refine Qa0 (fun hc=>?_) (fun hc=>Qhj ⟨⟨k+1,rfl,hk1,fun x hx=>?_⟩,by simp; omega⟩)
  ·simp only [andT,Qx8,Qsh] at hc
   obtain ⟨n1,n2,n3,n4⟩:=QEf (h.at e1) (h.at e2) hpq hpa hc.1 (Int.le_of_lt hc.2)
   have key:(t-p.t)*(q.a-p.a)+q.t-p.t-1=(t-p.t)*(q.a-p.a)+(q.t-p.t)-1:=by omega
   rw [← key] at n3 n4
   simp (disch:=omega) only [addI,subI,mulI,quoP]
   refine QbG (by omega) (QdT (.inr ?_))
   rw [Qwq h.srt e1 e2 hc.1 (Int.le_of_lt hc.2),key]
   rfl
  ·rw [e2] at hx; cases hx
   simp only [andF,QGP,QsA] at hc
   rcases hC p e1 with h'|h'
   ·left; omega
   ·right; exact h'
 ·intro e he
  rcases he with ⟨u,rfl,hu⟩|rfl
  ·rw [Qgh,show (0:Int)=((0:Nat):Int) from rfl,QaX h0,Qaj]
   have hp:=h.bd h0
   refine Qa0 (fun hb=>?_) (fun hb=>?_)
   ·simp only [QyZ] at hb
    have hs:subK .i64 (lenI l) 1=((l.length-1:Nat):Int):=by unfold lenI; rw [subI (by omega) (by omega)]; omega
    rw [hs,QaX hlast,Qaj]
    have hq:=h.bd hlast
    simp (disch:=omega) only [addI,subI,QaH]
    rw [QuN h.srt hlast (by rcases hu _ hlast with h1|h1; exact h1; omega)]
   ·simp only [QvR] at hb
    rw [addI (by omega) (by omega),subI (by omega) (by omega),QaH,← hl,QAB (by rw [hl]; exact h.srt) hb]
  ·rw [Qjn]; exact QaH.2 rfl
theorem QBk:∀ i:Nat,i<16→(QmU (i:Int)).isSome=true:=by decide +kernel
theorem Quc {l:List Pt} (h:QuX l):QnR l=some []:=by
 have hpos:=h.pos; have hmost:=h.most
 unfold QnR
 rw [QaO (by simp only [orF,QCy,QvR,lenI]; omega)]
 unfold QiE
 have hloop:QaT (fun s:List Qab×Int=>Qei l s.1 s.2) ([],0)=some []:=?_
 ·rw [hloop,Qaj]
 refine QcJ (e:=[]) l.length (fun i=>(([]:List Qab),(i:Int))) (by omega) (fun i hi=>?_) ?_
 ·have e1:l[i]?=some l[i]:=List.getElem?_eq_getElem hi
  obtain ⟨r,hr⟩:=Option.isSome_iff_exists.1 (QBk i (by omega))
  show Qei l [] (i:Int)=_
  unfold Qei
  rw [QaY (by simp only [Qsh,lenI]; omega),QaX e1,Qaj,hr,Qaj]
  have hp:=h.bd e1
  have hA:=h.at e1
  unfold okA at hA
  rw [show QgE (l[i]).t 0 4096=some true by unfold QgE; simp only [Option.some.injEq,andT,Qs7,Qx8]; omega,Qaj]
  rw [QaO (by simp only [Bool.not_true,Bool.false_or,orF,QsA,QvR]; rw [addI (by omega) (by omega)]; omega)]
  have hadd:addK .i64 (i:Int) 1=((i+1:Nat):Int):=by rw [addI (by omega) (by omega)]; omega
  unfold QiF
  rw [hadd]
  rcases Nat.eq_zero_or_pos i with h0|h0
  ·rw [QaO (by simp only [QvR]; omega)]
  ·have e0:l[i-1]?=some (l[i-1]'(by omega)):=List.getElem?_eq_getElem _
   have hs:subK .i64 (i:Int) 1=((i-1:Nat):Int):=by rw [subI (by omega) (by omega)]; omega
   have hpr:=h.srt.pair e0 (by rw [show i-1+1=i by omega]; exact e1)
   rw [QaY (by simp only [QyZ]; omega),hs,QaX e0,Qaj,QaO (by simp only [QGP]; omega),QaO (by simp only [QsA]; omega)]
 ·show Qei l [] (l.length:Int)=_
  unfold Qei
  rw [QaO (by simp [lenI])]
theorem Qud {l:List Pt} (h:QuX l):QnS l=some true:=by
 unfold QnS; rw [Quc h]; rfl
theorem half {i j:Nat} (h:i<100) (h':j<100):cvK .i64 (shrK .u64 (cvK .u64 (addK .i64 (i:Int) (j:Int))) 1)=(((i+j) / 2:Nat):Int):=by
 rw [addI (by omega) (by omega)]
 unfold cvK shrK
 rw [IntKind.wrap_u64,IntKind.wrap_i64]
 have e:(2:Int) ^ min (Int.toNat 1) (IntKind.u64.bits)=2:=by decide
 rw [e,Int.fdiv_eq_ediv_of_nonneg _ (by omega)]
 omega
theorem Qyp {l:List Pt} (h:QuX l) {t:Int} (ht:inT t):post (Qa6 l t) fun r=>∃ i:Nat,r.1=(i:Int)∧i≤l.length∧(∀ k p,k<i→l[k]?=some p→p.t<t)∧(∀ k p,i≤k→l[k]?=some p→t≤p.t) ∧
  (r.2=true↔∃ p,l[i]?=some p∧p.t=t):=by
 have hmost:=h.most
 unfold inT at ht
 refine Qbc (R:=fun x=>∃ i:Nat,x=(i:Int)∧i≤l.length∧(∀ k p,k<i→l[k]?=some p→p.t<t)∧(∀ k p,i≤k→l[k]?=some p→t≤p.t)) ?_ ?_
 ·refine QeM (fun s=>∃ i j:Nat,s=((i:Int),(j:Int))∧i≤j∧j≤l.length∧(∀ k p,k<i→l[k]?=some p→p.t<t)∧(∀ k p,j≤k→l[k]?=some p→t≤p.t)) (fun s=>(s.2-s.1).toNat) ⟨0,l.length,rfl,by omega,by omega,fun k p hk=>by omega,fun k p hk hp=>by have:=(List.getElem?_eq_some_iff.1 hp).1; omega⟩ (by simp [lenI]; omega) ?_
  rintro _ ⟨i,j,rfl,hij,hjl,h1,h2⟩
  show post (QaK l t (i:Int) (j:Int)) _
  unfold QaK
  rw [half (by omega) (by omega)]
  refine Qa0 (fun hb=>?_) (fun hb=>QdT ?_)
  ·simp only [Qsh] at hb
   have hm:(i+j) / 2<l.length:=by omega
   have e1:l[(i+j) / 2]?=some l[(i+j) / 2]:=List.getElem?_eq_getElem hm
   rw [QaX e1,Qaj]
   generalize l[(i+j) / 2]=p at e1
   have hp:=h.bd e1
   unfold Qgg
   rw [subI (by omega) (by omega),Qaj]
   refine Qa0 (fun hc=>Qhj ?_) (fun hc=>Qhj ?_)
   ·simp only [Qsh] at hc
    refine ⟨⟨(i+j) / 2+1,j,by rw [addI (by omega) (by omega)]; simp,by omega,hjl,fun k q hk hq=>?_,h2⟩,by rw [addI (by omega) (by omega)]; simp; omega⟩
    rcases Nat.lt_or_ge k ((i+j) / 2) with hk'|hk'
    ·have:=h.srt.lt hk' hq e1; omega
    ·obtain rfl:k=(i+j) / 2:=by omega
     rw [e1] at hq; cases hq; omega
   ·simp only [QsA] at hc
    refine ⟨⟨i,(i+j) / 2,rfl,by omega,by omega,h1,fun k q hk hq=>?_⟩,by simp; omega⟩
    rcases Nat.lt_or_ge ((i+j) / 2) k with hk'|hk'
    ·have:=h.srt.lt hk' e1 hq; omega
    ·obtain rfl:k=(i+j) / 2:=by omega
     rw [e1] at hq; cases hq; omega
  ·simp only [QsA] at hb
   obtain rfl:i=j:=by omega
   exact ⟨i,rfl,hjl,h1,h2⟩
 ·rintro _ ⟨i,rfl,hi,h1,h2⟩
  refine Qa0 (fun hb=>?_) (fun hb=>QaH.2 ⟨i,rfl,hi,h1,h2,?_⟩)
  ·simp only [Qsh,lenI] at hb
   have hi':i<l.length:=by omega
   have e1:l[i]?=some l[i]:=List.getElem?_eq_getElem hi'
   rw [QaX e1,Qaj]
   generalize l[i]=p at e1
   have hp:=h.bd e1
   unfold Qgg
   rw [subI (by omega) (by omega),Qaj,QaH]
   refine ⟨i,rfl,hi,h1,h2,?_⟩
   simp only [QvW,e1,Option.some.injEq,exists_eq_left']
   omega
  ·simp only [QsA,lenI] at hb
   rw [List.getElem?_eq_none (by omega)]
   simp
theorem QtF {l:List Pt} (h:QuX l) {t:Int} (ht:inT t):QlL l t=some (arrL l t):=by
 apply post.eq
 have hpos:=h.pos; have hmost:=h.most
 obtain ⟨⟨x,f⟩,hx,i,rfl,hi,h1,h2,h3⟩:=Qyp h ht
 simp only at h3
 unfold QlL
 rw [hx,Qaj]
 unfold inT at ht
 refine Qa0 (fun hb=>?_) (fun hb=>?_)
 ·obtain ⟨p,e1,hpt⟩:=h3.1 hb
  show post (bnd (getI l (i:Int)) _) _
  rw [QaX e1,Qaj,QaH]
  subst hpt
  rcases Nat.lt_or_ge (i+1) l.length with h'|h'
  ·have e2:l[i+1]?=some l[i+1]:=List.getElem?_eq_getElem h'
   have hlt:=(h.srt.pair e1 e2).1
   rw [Qwq h.srt e1 e2 (by omega) (by omega),QCd hlt]
  ·have hil:i=l.length-1:=by have:=(List.getElem?_eq_some_iff.1 e1).1; omega
   rw [hil] at e1
   rw [QuN h.srt e1 (by omega)]; omega
 ·have hnf:∀ p,l[i]?=some p→p.t≠t:=fun p hp he=>by
   have:=h3.2 ⟨p,hp,he⟩
   simp only at hb
   rw [this] at hb; cases hb
  have e0:l[0]?=some l[0]:=List.getElem?_eq_getElem (by omega)
  show post (br (eqI (i:Int) 0) _ _) _
  refine Qa0 (fun hc=>?_) (fun hc=>?_)
  ·simp only [QvW] at hc
   obtain rfl:i=0:=by omega
   rw [show (0:Int)=((0:Nat):Int) from rfl,QaX e0,Qaj]
   have hp:=h.bd e0
   have h4:=h2 0 _ (by omega) e0
   generalize l[0]=p at e0 hp h4
   obtain ⟨r,hr⟩:∃ r,l=p :: r:=by
    cases l with
    | nil=>simp at hpos
    | cons x r=>cases e0; exact ⟨r,rfl⟩
   simp (disch:=omega) only [addI,subI,QaH]
   rw [hr,QAB (by rw [← hr]; exact h.srt) h4]
  ·simp only [QCy] at hc
   have e1:l[i-1]?=some (l[i-1]'(by omega)):=List.getElem?_eq_getElem _
   have hs:subK .i64 (i:Int) 1=((i-1:Nat):Int):=by rw [subI (by omega) (by omega)]; omega
   have hp:=h.bd e1
   have h4:=h1 (i-1) _ (by omega) e1
   show post (br (eqI (i:Int) (lenI l)) (bnd (getI l (subK .i64 (i:Int) 1)) _) _) _
   rw [hs]
   refine Qa0 (fun hd=>?_) (fun hd=>?_)
   ·simp only [QvW,lenI] at hd
    obtain rfl:i=l.length:=by omega
    rw [QaX e1,Qaj]
    simp (disch:=omega) only [addI,subI,QaH]
    rw [QuN h.srt e1 (by omega)]
   ·simp only [QCy,lenI] at hd
    have e2:l[i]?=some (l[i]'(by omega)):=List.getElem?_eq_getElem _
    have hq:=h.bd e2
    have h5:=h2 i _ (by omega) e2
    show post (bnd (getI l ((i-1:Nat):Int)) fun x3=>bnd (getI l (i:Int)) fun x4=>_) _
    rw [QaX e1,Qaj,QaX e2,Qaj]
    have e2':l[i-1+1]?=some (l[i]'(by omega)):=by rw [show i-1+1=i by omega]; exact e2
    generalize l[i-1]=p at e1 hp h4
    generalize l[i]=q at e2 e2' hq h5
    obtain ⟨hpq,hpa⟩:=h.srt.pair e1 e2'
    obtain ⟨n1,n2,n3,n4⟩:=QEf (h.at e1) (h.at e2) hpq hpa (Int.le_of_lt h4) h5
    simp (disch:=omega) only [addI,subI,mulI,quoP]
    refine QbG (by omega) (QaH.2 ?_)
    rw [Qwq h.srt e1 e2' (Int.le_of_lt h4) h5]
    rfl
theorem QtE {l:List Pt} (h:QuX l) {t:Int} (ht:inT t):QlK l t=some (arrL l t):=by
 unfold QlK
 rw [show QgE t 0 1073741824=some true by unfold QgE; unfold inT at ht; simp only [Option.some.injEq,andT,Qs7,Qx8]; omega,Qaj,QjV,Qud h,Qaj,QjV,QtF h ht,Qaj]
end Go.Proofs.YtpkkaboonnedfaaGreatDoor
namespace Go.Proofs.YtpkkaboonnedfaaGreatDoor
set_option linter.unusedSimpArgs false
set_option linter.unusedVariables false
set_option linter.unusedSectionVars false

class Sm (α : Type) where
  sm : α → Prop
instance:Sm Qab:=⟨fun f=>f.at_.size≤64⟩
instance:Sm Int:=⟨fun _=>True⟩
section
variable {α β : Type} [Sm α]
def Ext (l0:List α) (c:Nat) (P:Prop) (r:List α):Prop:=∃ new,r=l0++new∧new.length≤c∧(new=[]→P)∧∀ x∈new,Sm.sm x
theorem Ext.nil {l0:List α} {c:Nat} {P:Prop} (h:P):Ext l0 c P l0:=⟨[],by simp,by simp,fun _=>h,by simp⟩
theorem Ext.one {l0:List α} {c:Nat} {P:Prop} {x:α} (hc:1≤c) (hx:Sm.sm x):Ext l0 c P (l0++[x]):=⟨[x],rfl,hc,fun h=>by (cases h),fun y hy=>by rw [List.mem_singleton.1 hy]; exact hx⟩
theorem Ext.trans {a b r:List α} {c d e:Nat} {P Q R:Prop} (h:Ext a c P b) (h':Ext b d Q r) (he:c+d≤e) (hr:P→Q→R):Ext a e R r:=by
 obtain ⟨n,rfl,h1,h2,h5⟩:=h
 obtain ⟨m,rfl,h3,h4,h6⟩:=h'
 refine ⟨n++m,by simp,by simp; omega,fun h=>?_,fun x hx=>by rcases List.mem_append.1 hx with h|h; exact h5 x h; exact h6 x h⟩
 rw [List.append_eq_nil_iff] at h
 exact hr (h2 h.1) (h4 h.2)
theorem Ext.len {a r:List α} {c:Nat} {P:Prop} (h:Ext a c P r):r.length≤a.length+c:=by obtain ⟨n,rfl,h1,_⟩:=h; simp; omega
theorem Ext.of_nil {r:List α} {c:Nat} {P:Prop} (h:Ext [] c P r) (hr:r=[]):P:=by
 obtain ⟨n,rfl,_,h2,_⟩:=h
 exact h2 (by simpa using hr)
theorem Ext.sms {r:List α} {c:Nat} {P:Prop} (h:Ext [] c P r):∀ x∈r,Sm.sm x:=by
 obtain ⟨n,rfl,_,_,h2⟩:=h
 simpa using h2
theorem Ext.mono {a r:List α} {c d:Nat} {P Q:Prop} (h:Ext a c P r) (hc:c≤d) (hp:P→Q):Ext a d Q r:=by
 obtain ⟨n,rfl,h1,h2,h3⟩:=h
 exact ⟨n,rfl,by omega,fun hn=>hp (h2 hn),h3⟩
def RndE (out:List α) (i:Int) (c:Nat) (P:Prop) (x:(List α×Int)⊕β):Prop:=∃ r,x=.inl (r,i)∧Ext out c P r
theorem Qzr {out:List α} {i j:Int} {c:Nat} {P:Prop} (hi:j=i) (h:P):post (some (Sum.inl (out,j):(List α×Int)⊕β)) (RndE out i c P):=⟨_,rfl,out,by rw [hi],.nil h⟩
theorem Qvx {out:List α} {x:α} {i j:Int} {c:Nat} {P:Prop} (hi:j=i) (hc:1≤c) (hx:Sm.sm x):post (some (Sum.inl (out++[x],j):(List α×Int)⊕β)) (RndE out i c P):=⟨_,rfl,_,by rw [hi],.one hc hx⟩
theorem QlG {B:List α×Int→Option ((List α×Int)⊕(List α))} (n c:Nat) (P:Nat→Prop) (l0:List α) (hn:n<18446744073709551615)
  (step:∀ (i:Nat) (out:List α),i<n→out.length≤l0.length+c*i→post (B (out,(i:Int))) (RndE out ((i:Int)+1) c (P i)))
  (fin:∀ out,B (out,(n:Int))=some (.inr out)):post (QaT B (l0,0)) (Ext l0 (c*n) (∀ i,i<n→P i)):=by
 refine QeM (fun s=>∃ i:Nat,s.2=(i:Int)∧i≤n∧Ext l0 (c*i) (∀ k,k<i→P k) s.1) (fun s=>n-s.2.toNat)
  ⟨0,rfl,Nat.zero_le _,.nil (by simp)⟩ (by simp; omega) ?_
 rintro ⟨out,j⟩ ⟨i,hj,hi,hl⟩
 simp only at hj hl
 subst hj
 by_cases h:i<n
 ·refine (step i out h hl.len).mono ?_
  rintro x ⟨r,rfl,h1⟩
  refine ⟨fun s' hs=>?_,fun _ h=>by cases h⟩
  cases hs
  refine ⟨⟨i+1,by simp,by omega,hl.trans h1 (by rw [Nat.mul_add]; omega) fun h2 h3 k hk=>?_⟩,by simp; omega⟩
  rcases Nat.lt_or_ge k i with h|h
  ·exact h2 k h
  ·obtain rfl:k=i:=by omega
   exact h3
 ·obtain rfl:i=n:=by omega
  rw [fin]
  exact QdT hl
end
theorem QCB {e:Int} {s:ByteArray} (h:s.size≤64):Sm.sm (Qab.mk e s):=h
theorem QpC (a b:ByteArray):(catS a b).size=a.size+b.size:=by unfold catS; exact ByteArray.size_append
theorem QxA {B:Bool×Int→Option ((Bool×Int)⊕Bool)} (n:Nat) (P:Nat→Prop) (hn:n<18446744073709551615)
  (step:∀ (k:Nat) (b:Bool),k<n→post (B (b,(k:Int))) fun x=>∃ b',x=.inl (b',(k:Int)+1)∧(b'=true↔b=true∨P k))
  (fin:∀ b,B (b,(n:Int))=some (.inr b)):post (QaT B (false,0)) fun r=>(r=true↔∃ k,k<n∧P k):=by
 refine QeM (fun s=>∃ i:Nat,s.2=(i:Int)∧i≤n∧(s.1=true↔∃ k,k<i∧P k)) (fun s=>n-s.2.toNat) ⟨0,rfl,Nat.zero_le _,by simp⟩ (by simp; omega) ?_
 rintro ⟨b,j⟩ ⟨i,hj,hi,hl⟩
 simp only at hj hl
 subst hj
 by_cases h:i<n
 ·refine (step i b h).mono ?_
  rintro x ⟨b',rfl,h1⟩
  refine ⟨fun s' hs=>?_,fun _ h=>by cases h⟩
  cases hs
  refine ⟨⟨i+1,by simp,by omega,?_⟩,by simp; omega⟩
  simp only
  rw [h1,hl]
  constructor
  ·rintro (⟨k,h2,h3⟩|h2)
   ·exact ⟨k,by omega,h3⟩
   ·exact ⟨i,by omega,h2⟩
  ·rintro ⟨k,h2,h3⟩
   rcases Nat.lt_or_ge k i with h|h
   ·exact .inl ⟨k,h,h3⟩
   ·obtain rfl:k=i:=by omega
    exact .inr h3
 ·obtain rfl:i=n:=by omega
  rw [fin]
  exact QdT hl
theorem inc {i n:Nat} (h:i<n) (hn:n≤1048576):addK .i64 (i:Int) 1=(i:Int)+1:=addI (by omega) (by omega)
theorem dec {i:Nat} (h:0<i) (hn:i≤1048576):subK .i64 (i:Int) 1=((i-1:Nat):Int):=by rw [subI (by omega) (by omega)]; omega

theorem QDV {s:ByteArray} {i:Int} (h0:0≤i) (h1:i<s.size):∃ b,getS s i=some b:=by
 unfold getS
 rw [if_pos h0]
 exact ⟨_,getElem?_pos s i.toNat (by omega)⟩
theorem QwG (s:ByteArray) (hs:s.size≤1048576):post (Qf8 s) fun _=>True:=by
 unfold Qf8
 refine Qa0 (fun _=>QaH.2 trivial) (fun hb=>?_)
 simp only [orF,QsA,QvR,Qz7] at hb
 obtain ⟨b,hb0⟩:=QDV (s:=s) (i:=0) (by omega) (by omega)
 rw [hb0,Qaj]
 refine Qbc (R:=fun _=>True) ⟨_,rfl,trivial⟩ fun r _=>Qa0 (fun _=>QaH.2 trivial) fun _=>?_
 refine Qbc (R:=fun _=>True) ?_ fun e _=>?_
 ·refine QeM (fun i=>∃ k:Nat,i=(k:Int)∧k≤s.size) (fun i=>s.size-i.toNat) ⟨0,rfl,Nat.zero_le _⟩ (by simp; omega) ?_
  rintro _ ⟨k,rfl,hk⟩
  show post (Qfa s b (k:Int)) _
  unfold Qfa
  refine Qa0 (fun hb=>?_) (fun _=>QdT trivial)
  simp only [Qsh,Qz7] at hb
  obtain ⟨c,hc⟩:=QDV (s:=s) (i:=k) (by omega) (by omega)
  rw [hc,Qaj,inc (n:=s.size) (by omega) hs]
  have leaf:post (some (Sum.inl ((k:Int)+1):Int⊕(Unit⊕Bool))) fun x=>(∀ s',x=.inl s'→(∃ k:Nat,s'=(k:Int)∧k≤s.size)∧s.size-s'.toNat<s.size-(k:Int).toNat)∧∀ e,x=.inr e→True :=
   Qhj ⟨⟨k+1,by simp,by omega⟩,by simp; omega⟩
  refine Qbc (R:=fun _=>True) ⟨_,rfl,trivial⟩ fun r1 _=>Qa0 (fun _=>leaf) fun _=>?_
  exact Qbc (R:=fun _=>True) ⟨_,rfl,trivial⟩ fun r2 _=>Qa0 (fun _=>leaf) fun _=>QdT trivial
 ·cases e with
  | inl u=>exact QaH.2 trivial
  | inr r=>exact QaH.2 trivial

structure ArcI (a:Qas):Prop where
 travel:a.travel.length≤1048576
 slow:a.slow.length≤1048576
 pts:∀ p∈a.travel,ptI p
 pts2:∀ p∈a.slow,ptI p
structure NetI (n:Qam):Prop where
 places:n.places.length≤1048576
 arcs:n.arcs.length≤1048576
 names:∀ s∈n.places,s.size≤1048576
 arcI:∀ a∈n.arcs,ArcI a
def okS (l:List Pt) (i:Nat):Prop:=∀ p,l[i]?=some p→0≤p.t∧p.t≤4096∧0≤p.a∧p.a≤4096∧(0<i→∀ q,l[i-1]?=some q→q.t<p.t)
structure QEl (np:Nat) (a:Qas):Prop where
 from0:0≤a.from_
 from1:a.from_<np
 to0:0≤a.to_
 to1:a.to_<np
 prof0:0≤a.profile
 prof1:a.profile≤7
 miles0:0≤a.miles
 miles1:a.miles≤10000
 ne:a.from_≠a.to_
 travel:QuX a.travel
 slow:a.slow.length≤16
 slowAll:∀ i,i<a.slow.length→okS a.slow i
def QuY (a b:Qas):Prop:=a.from_=b.from_∧a.to_=b.to_∧a.profile=b.profile
structure QEo (n:Qam):Prop where
 places:n.places.length≤24
 arcs:n.arcs.length≤1024
 all:∀ a∈n.arcs,QEl n.places.length a
 once:∀ (i k:Nat) (a b:Qas),k<i→n.arcs[i]?=some a→n.arcs[k]?=some b→¬ QuY a b

theorem Qu3 {n:Qam} (hn:NetI n):post (Qdp n) (Ext [] (1+n.places.length) (n.places.length≤24)):=by
 have hpl:=hn.places
 have main:∀ l0:List Qab,l0.length≤1→post (Qcz n l0) (Ext l0 n.places.length True):=by
  intro l0 hin
  refine Qbc (R:=Ext l0 n.places.length True) ?_ fun a h=>QaH.2 h
  refine (QlG n.places.length 1 (fun _=>True) l0 (by omega) (fun i out hi ho=>?_) (fun out=>?_)).mono fun r h=>h.mono (by omega) fun _=>trivial
  ·show post (Qbh n l0 out (i:Int)) _
   unfold Qbh
   rw [QaY (by simp [lenI]; exact hi),inc hi hpl]
   refine Qbc (Qm0 (i:Int) (Qxx (by omega))) fun r hr=>QbG (by show 6+r.size≤_; omega) ?_
   have e1:n.places[i]?=some n.places[i]:=List.getElem?_eq_getElem hi
   rw [QaX e1,Qaj]
   have hok:∀ f:Qab,okN (out++[f]).length 24:=fun f=>QeN (by simp; omega)
   have hsm:∀ {e:Int},Sm.sm (Qab.mk e (catS QdQ r)):=QCB (by rw [QpC]; show 6+r.size≤64; omega)
   refine Qbc (QwG _ (hn.names _ (List.getElem_mem hi))) fun r1 _=>Qa0 (fun _=>?_) (fun _=>QbG (hok _) (Qvx rfl (by omega) hsm))
   refine Qbc (R:=fun _=>True) ((QxA i (fun k=>∃ x,n.places[k]?=some x∧eqS x n.places[i]=true) (by omega) (fun k b hk=>?_) (fun b=>?_)).mono fun _ _=>trivial) fun tw _=>Qa0 (fun _=>QbG (hok _) (Qvx rfl (by omega) hsm)) (fun _=>Qzr rfl trivial)
   ·show post (Qbi n l0 out (i:Int) r b (k:Int)) _
    unfold Qbi
    rw [QaY (by simp; omega),inc (n:=i) hk (by omega)]
    have e2:n.places[k]?=some (n.places[k]'(by omega)):=List.getElem?_eq_getElem _
    refine Qa0 (fun h=>QaH.2 ⟨true,rfl,by simp [h]⟩) (fun h=>?_)
    rw [QaX e2,Qaj,QaX e1,Qaj,QaH]
    exact ⟨_,rfl,by simp [h,e2]⟩
   ·show Qbi n l0 out (i:Int) r b (i:Int)=_
    unfold Qbi
    rw [QaO (by simp)]
  ·show Qbh n l0 out (n.places.length:Int)=_
   unfold Qbh
   rw [QaO (by simp [lenI])]
 unfold Qdp
 refine Qa0 (fun h=>QbG (QeN (by simp)) ((main _ (by simp)).mono fun r h'=>?_)) (fun h=>(main _ (by simp)).mono fun r h'=>h'.mono (by omega) fun _=>?_)
 ·exact (Ext.one (l0:=[]) (P:=n.places.length≤24) (Nat.le_refl 1) (QCB (s:=QlI) (show 6≤64 by omega))).trans h' (Nat.le_refl _) fun h _=>h
 ·simp only [QvR,lenI] at h; omega
theorem QEi (t:Int):Qg8 t=some (decide (0≤t∧t≤4096)):=by
 unfold Qg8
 congr 1
 rw [Bool.eq_iff_iff,andT,Qs7,Qx8,decide_eq_true_iff]
theorem Qzx {r:ByteArray} (hr:r.size≤21) {x0:Qas} {l l0:List Qab} (hI:ArcI x0) (hin:l0.length≤4194304):post (QbO r x0 l l0) (Ext l0 x0.slow.length (∀ i,i<x0.slow.length→okS x0.slow i)):=by
 have hsl:=hI.slow
 have hsm:∀ {e:Int},Sm.sm (Qab.mk e (catS QaZ r)):=QCB (by rw [QpC]; show 4+r.size≤64; omega)
 refine Qbc (R:=Ext l0 x0.slow.length (∀ i,i<x0.slow.length→okS x0.slow i)) ?_ fun a h=>QaH.2 h
 refine (QlG x0.slow.length 1 (okS x0.slow) l0 (by omega) (fun i out hi ho=>?_) (fun out=>?_)).mono fun r h=>h.mono (by omega) id
 ·show post (Qcf r x0 l out (i:Int)) _
  unfold Qcf
  have hok:∀ f:Qab,okN (out++[f]).length 24:=fun f=>QeN (by simp; omega)
  have e1:x0.slow[i]?=some x0.slow[i]:=List.getElem?_eq_getElem hi
  rw [QaY (by simp [lenI]; exact hi),inc hi hsl,QaX e1,Qaj,QEi,Qaj,QEi]
  generalize x0.slow[i]=p at e1
  have no:post (chk (okN (out++[Qab.mk 2 (catS QaZ r)]).length 24) (some (Sum.inl (out++[Qab.mk 2 (catS QaZ r)],(i:Int)+1):(List Qab×Int)⊕(List Qab)))) (RndE out ((i:Int)+1) 1 (okS x0.slow i)):=QbG (hok _) (Qvx rfl (by omega) hsm)
  refine Qa0 (fun h1=>?_) (fun _=>no)
  rw [Qaj]
  refine Qa0 (fun h2=>Qa0 (fun h3=>?_) (fun h3=>Qzr rfl ?_)) (fun _=>no)
  ·simp only [QyZ] at h3
   have e2:x0.slow[i-1]?=some (x0.slow[i-1]'(by omega)):=List.getElem?_eq_getElem _
   rw [dec (by omega) (by omega),QaX e2,Qaj]
   refine Qa0 (fun _=>no) (fun h4=>Qzr rfl ?_)
   simp only [QGP,decide_eq_true_iff] at h1 h2 h4
   intro x hx; rw [e1] at hx; cases hx
   exact ⟨h1.1,h1.2,h2.1,h2.2,fun _ q hq=>by rw [e2] at hq; cases hq; exact h4⟩
  ·simp only [QvR,decide_eq_true_iff] at h1 h2 h3
   intro x hx; rw [e1] at hx; cases hx
   exact ⟨h1.1,h1.2,h2.1,h2.2,fun h=>by omega⟩
 ·show Qcf r x0 l out (x0.slow.length:Int)=_
  unfold Qcf
  rw [QaO (by simp [lenI])]
theorem Qw8 {n:Qam} (hn:NetI n) {i:Nat} {a:Qas} (ha:n.arcs[i]?=some a) :
  post (QfT n (i:Int)) (Ext [] 3145735 (QEl n.places.length a∧∀ (k:Nat) (b:Qas),k<i→n.arcs[k]?=some b→¬ QuY a b)):=by
 have hi:i<n.arcs.length:=(List.getElem?_eq_some_iff.1 ha).1
 have hal:=hn.arcs
 have hI:=hn.arcI a (List.mem_of_getElem? ha)
 have hsl:=hI.slow
 have htl:=hI.travel
 unfold QfT
 refine Qbc (Qm0 (i:Int) (Qxx (by omega))) fun r hr=>QbG (by show 4+r.size≤_; omega) ?_
 rw [QaX ha,Qaj]
 have hsm:∀ {e:Int},Sm.sm (Qab.mk e (catS QaZ r)):=QCB (by rw [QpC]; show 4+r.size≤64; omega)
 have gen:∀ (l l0:List Qab),l0.length≤3→post (Qcc r a l l0) (Ext l0 3145732 (QuX a.travel∧a.slow.length≤16∧∀ i,i<a.slow.length→okS a.slow i)):=by
  intro l l0 hin
  unfold Qcc
  refine Qbc (Qry htl hI.pts) fun r1 hr1=>?_
  refine Qbc (R:=Ext l0 2097153 (QuX a.travel)) ?_ fun l4 h4=>?_
  ·refine (QlG r1.length 1 (fun _=>False) l0 (by omega) (fun k out hk ho=>?_) (fun out=>?_)).mono fun x hx=>?_
   ·show post (Qce r a l r1 out (k:Int)) _
    unfold Qce
    have e1:r1[k]?=some r1[k]:=List.getElem?_eq_getElem hk
    have hadd:addK .i64 (k:Int) 1=(k:Int)+1:=addI (by omega) (by omega)
    rw [QaY (by simp [lenI]; exact hk),hadd,QaX e1,Qaj]
    exact QbG (QeN (by simp; omega)) (Qvx rfl (by omega) hsm)
   ·show Qce r a l r1 out (r1.length:Int)=_
    unfold Qce
    rw [QaO (by simp [lenI])]
   ·refine hx.mono (by omega) fun h=>hr1.2.1 ?_
    cases r1 with
    | nil=>rfl
    | cons y ys=>exact (h 0 (by simp)).elim
  ·have h4l:=h4.len
   refine Qa0 (fun h=>QbG (QeN (by simp; omega)) ?_) (fun h=>?_)
   ·refine ((Qzx hr hI (by simp; omega)).mono fun _ h=>h.mono hsl id:post (QbO r a l _) (Ext _ 1048576 _)).mono fun x hx=>?_
    refine h4.trans ((Ext.one (P:=False) (Nat.le_refl 1) hsm).trans hx (e:=1048577) (by omega) (fun h _=>h)) (by omega) fun h1 h2=>h2.elim
   ·refine ((Qzx hr hI (by omega)).mono fun _ h=>h.mono hsl id:post (QbO r a l _) (Ext _ 1048576 _)).mono fun x hx=>?_
    simp only [QvR,lenI] at h
    exact h4.trans hx (by omega) fun h1 h2=>⟨h1,by omega,h2⟩
 have gen2:∀ (l l0:List Qab),l0.length≤2→post (Qdx n (i:Int) r a l l0) (Ext l0 3145733 ((∀ (k:Nat) (b:Qas),k<i→n.arcs[k]?=some b→¬ QuY a b)∧QuX a.travel∧a.slow.length≤16∧∀ i,i<a.slow.length→okS a.slow i)):=by
  intro l l0 hin
  unfold Qdx
  refine Qbc (QxA i (fun k=>∃ b,n.arcs[k]?=some b∧QuY a b) (by omega) (fun k b hk=>?_) (fun b=>?_)) fun tw htw=>Qa0 (fun h=>QbG (QeN (by simp; omega)) ?_) (fun h=>?_)
  ·show post (Qcd n (i:Int) r a l l0 b (k:Int)) _
   unfold Qcd
   have e1:n.arcs[k]?=some (n.arcs[k]'(by omega)):=List.getElem?_eq_getElem _
   rw [QaY (by simp; omega),inc (n:=i) hk (by omega),QaX e1,Qaj,QaH]
   refine ⟨_,rfl,?_⟩
   simp only [orT,andT,QvW,e1,Option.some.injEq,exists_eq_left',QuY,and_assoc]
  ·show Qcd n (i:Int) r a l l0 b (i:Int)=_
   unfold Qcd
   rw [QaO (by simp)]
  ·exact (gen l _ (by simp; omega)).mono fun x hx=>(Ext.one (P:=False) (Nat.le_refl 1) hsm).trans hx (by omega) fun h _=>h.elim
  ·refine (gen l _ (by omega)).mono fun x hx=>hx.mono (by omega) fun h'=>⟨fun k b hk hb hs=>?_,h'⟩
   rw [htw.2 ⟨k,hk,b,hb,hs⟩] at h; cases h
 have fin:∀ (l:List Qab),l.length≤1→post (Qdw n (i:Int) r a l) (Ext l 3145734 (0≤a.profile∧a.profile≤7∧0≤a.miles∧a.miles≤10000∧a.from_≠a.to_∧(∀ (k:Nat) (b:Qas),k<i→n.arcs[k]?=some b→¬ QuY a b)∧QuX a.travel∧a.slow.length≤16∧∀ i,i<a.slow.length→okS a.slow i)):=by
  intro l hl
  unfold Qdw
  refine Qa0 (fun h=>QbG (QeN (by simp; omega)) ?_) (fun h=>?_)
  ·exact (gen2 l _ (by simp; omega)).mono fun x hx=>(Ext.one (P:=False) (Nat.le_refl 1) hsm).trans hx (by omega) fun h _=>h.elim
  ·simp only [orF,QsA,QvR,QCy] at h
   exact (gen2 l _ (by omega)).mono fun x hx=>hx.mono (by omega) fun h'=>⟨h.1.1.1.1,h.1.1.1.2,h.1.1.2,h.1.2,h.2,h'⟩
 refine Qa0 (fun h=>QbG (QeN (by simp)) ?_) (fun h=>?_)
 ·exact (fin _ (by simp)).mono fun x hx=>(Ext.one (l0:=[]) (P:=False) (Nat.le_refl 1) hsm).trans hx (by omega) fun h _=>h.elim
 ·simp only [orF,QsA,QCz,lenI] at h
  exact (fin _ (by simp)).mono fun x hx=>hx.mono (by omega) fun ⟨h1,h2,h3,h4,h5,h6,h7,h8,h9⟩=>⟨⟨h.1.1.1,h.1.1.2,h.1.2,h.2,h1,h2,h3,h4,h5,h7,h8,h9⟩,h6⟩
theorem Qvu {n:Qam} (hn:NetI n):post (QhI n) (Ext [] (1048578+3145735*n.arcs.length) (QEo n)):=by
 have hal:=hn.arcs
 have hpl:=hn.places
 unfold QhI
 refine Qbc (Qu3 hn) fun r hr=>?_
 have hrl:=hr.len
 have main:∀ l0:List Qab,l0.length≤1048578→post (QfS n l0) (Ext l0 (3145735*n.arcs.length) (∀ i,i<n.arcs.length→∀ a,n.arcs[i]?=some a→QEl n.places.length a∧∀ (k:Nat) (b:Qas),k<i→n.arcs[k]?=some b→¬ QuY a b)):=by
  intro l0 hin
  refine QpN ?_
  refine (QlG n.arcs.length 3145735 _ l0 (by omega) (fun i out hi ho=>?_) (fun out=>?_)).mono fun r h=>QaH.2 h
  ·show post (Qdg n l0 out (i:Int)) _
   unfold Qdg
   have e1:n.arcs[i]?=some n.arcs[i]:=List.getElem?_eq_getElem hi
   rw [QaY (by simp [lenI]; exact hi),inc hi hal]
   refine Qbc (Qw8 hn e1) fun r1 hr1=>?_
   obtain ⟨new,h1,h2,h3,h4⟩:=hr1
   rw [List.nil_append] at h1
   subst h1
   refine QbG (QeN (by simp; omega)) (QaH.2 ⟨_,rfl,_,rfl,h2,fun h a ha=>?_,h4⟩)
   rw [e1] at ha; cases ha
   exact h3 h
  ·show Qdg n l0 out (n.arcs.length:Int)=_
   unfold Qdg
   rw [QaO (by simp [lenI])]
 refine Qa0 (fun h=>QbG (QeN (by simp at hrl ⊢; omega)) ((main _ (by simp at hrl ⊢; omega)).mono fun x hx=>?_)) (fun h=>(main _ (by simp at hrl; omega)).mono fun x hx=>?_)
 ·exact hr.trans ((Ext.one (P:=False) (Nat.le_refl 1) (QCB (s:=QrU) (show 4≤64 by omega))).trans hx (Nat.le_refl _) (R:=False) fun h _=>h) (by omega) fun _ h=>h.elim
 ·simp only [QvR,lenI] at h
  refine hr.trans hx (by omega) fun h1 h2=>⟨h1,by omega,fun a ha=>?_,fun i k a b hk ha hb=>(h2 i (List.getElem?_eq_some_iff.1 ha).1 a ha).2 k b hk hb⟩
  obtain ⟨i,hi⟩:=List.getElem?_of_mem ha
  exact (h2 i (List.getElem?_eq_some_iff.1 hi).1 a hi).1
end Go.Proofs.YtpkkaboonnedfaaGreatDoor
namespace Go.Proofs.YtpkkaboonnedfaaGreatDoor
set_option linter.unusedSimpArgs false
set_option linter.unusedVariables false
set_option linter.unusedSectionVars false

def QjR (l:List Pt) (t:Int):Int:=l.foldr (fun p s=>(if p.t≤t then p.a else 0)+s) 0
theorem QwX (l m:List Pt) (t:Int):QjR (l++m) t=QjR l t+QjR m t:=by
 induction l with
 | nil=>simp [QjR]
 | cons p l ih=>simp only [QjR,List.cons_append,List.foldr_cons] at ih ⊢; omega
theorem QvG {l:List Pt} {t:Int} {i:Nat} {p:Pt} (h:l[i]?=some p):QjR (l.take (i+1)) t=QjR (l.take i) t+(if p.t≤t then p.a else 0):=by
 rw [List.take_add_one,h,QwX]; simp [QjR]
theorem QGl {l:List Pt} (h:∀ i,i<l.length→okS l i) {i:Nat} {p:Pt} (hp:l[i]?=some p):0≤p.t∧p.t≤4096∧0≤p.a∧p.a≤4096:=by
 have:=h i (List.getElem?_eq_some_iff.1 hp).1 p hp
 exact ⟨this.1,this.2.1,this.2.2.1,this.2.2.2.1⟩
theorem QvE {l:List Pt} (h:∀ i,i<l.length→okS l i) (t:Int):∀ i:Nat,i≤l.length→0≤QjR (l.take i) t∧QjR (l.take i) t≤4096*i
 | 0,_=>by simp [QjR]
 | i+1,hi=>by
  have e1:l[i]?=some (l[i]'(by omega)):=List.getElem?_eq_getElem _
  have ih:=QvE h t i (by omega)
  have:=QGl h e1
  rw [QvG e1]
  split <;> omega
def arrA (a:Qas) (t:Int):Int:=arrL a.travel t+QjR a.slow t
theorem QuX.ne {l:List Pt} (h:QuX l):l≠[]:=fun e=>by have:=h.pos; rw [e] at this; simp at this
theorem QvF {l:List Pt} (h:∀ i,i<l.length→okS l i) (hl:l.length≤16) (t:Int):0≤QjR l t∧QjR l t≤65536:=by
 have:=QvE h t l.length (Nat.le_refl _)
 rw [List.take_length] at this; omega
theorem QFN {np:Nat} {a:Qas} (h:QEl np a) (t:Int):t≤arrA a t:=by
 have:=QyF h.travel.srt h.travel.ne t
 have:=QvF h.slowAll h.slow t
 unfold arrA; omega
theorem QFO {np:Nat} {a:Qas} (h:QEl np a) {t:Int} (ht:0≤t):arrA a t≤t+73728:=by
 have:=QyH h.travel.srt ht
 have:=QvF h.slowAll h.slow t
 unfold arrA; omega
theorem Qzw {l:List Pt} {t r:Int} (h:∀ i,i<l.length→okS l i) (hl:l.length≤16) (hr:0≤r) (hr':r≤2147483648) {B:Int×Int→Option ((Int×Int)⊕Int)}
  (hB:∀ out i,B (out,i)=br (ltI i (lenI l)) (bnd (getI l i) fun x0=>br (leI x0.t t) (some (.inl ((addK .i64 out x0.a),(addK .i64 i 1)))) (some (.inl (out,(addK .i64 i 1))))) (some (.inr out))) :
  QaT B (r,0)=some (r+QjR l t):=by
 have e:QaT B ((fun i:Nat=>(r+QjR (l.take i) t,(i:Int))) 0)=some (r+QjR l t):=by
  refine QcJ l.length (fun i:Nat=>(r+QjR (l.take i) t,(i:Int))) (by omega) (fun i hi=>?_) ?_
  ·have e1:l[i]?=some l[i]:=List.getElem?_eq_getElem hi
   have hb:=QvE h t i (by omega)
   have hp:=QGl h e1
   show B (_,_)=some (.inl (_,_))
   rw [hB,QaY (by simp [lenI]; exact hi),QaX e1,Qaj,QvG e1,show addK .i64 (i:Int) 1=((i+1:Nat):Int) by rw [addI (by omega) (by omega)]; omega]
   by_cases hc:l[i].t≤t
   ·rw [QaY (by simpa using hc),if_pos hc,addI (by omega) (by omega),Int.add_assoc]
   ·rw [QaO (by simp; omega),if_neg hc,Int.add_zero]
  ·show B (_,_)=_
   rw [hB,QaO (by simp [lenI]),List.take_length]
 simpa [QjR] using e
theorem QAC {np:Nat} {a:Qas} (h:QEl np a) {t:Int} (ht:inT t):Qiz a t=some (arrA a t):=by
 have h1:=QyF h.travel.srt h.travel.ne t
 have h2:=QyH h.travel.srt ht.1
 unfold inT at ht
 unfold Qiz
 rw [QtE h.travel ht,Qaj,Qzw h.slowAll h.slow (by omega) (by omega) (fun out i=>rfl),Qaj]
 rfl
theorem Qv0 {np:Nat} {a:Qas} (h:QEl np a) {t:Int} (ht:inT t):QgY a t=some (arrA a t):=by
 have h1:=QyF h.travel.srt h.travel.ne t
 have h2:=QyH h.travel.srt ht.1
 unfold inT at ht
 unfold QgY
 rw [Qt2 h.travel ht,Qaj,Qzw h.slowAll h.slow (by omega) (by omega) (fun out i=>rfl),Qaj]
 rfl

theorem QyX {α E:Type} {l:List α} (p:α→Bool) (Y:α→E) (N:E) (hl:l.length≤1048576) {B:Int→Option (Int⊕E)}
  (hB:∀ i,B i=br (ltI i (lenI l)) (bnd (getI l i) fun x=>br (p x) (some (.inr (Y x))) (some (.inl (addK .i64 i 1)))) (some (.inr N))) :
  QaT B 0=some (match l.find? p with|some x=>Y x|none=>N):=by
 apply post.eq
 refine QeM (fun i=>∃ k:Nat,i=(k:Int)∧k≤l.length∧(l.drop k).find? p=l.find? p) (fun i=>l.length-i.toNat) ⟨0,rfl,Nat.zero_le _,rfl⟩ (by simp; omega) ?_
 rintro _ ⟨k,rfl,hk,hf⟩
 rw [hB]
 refine Qa0 (fun hb=>?_) (fun hb=>QdT ?_)
 ·simp only [Qsh,lenI] at hb
  have hk':k<l.length:=by omega
  have e1:l[k]?=some l[k]:=List.getElem?_eq_getElem hk'
  rw [List.drop_eq_getElem_cons hk',List.find?_cons] at hf
  rw [QaX e1,Qaj,inc hk' hl]
  refine Qa0 (fun hc=>QdT ?_) (fun hc=>Qhj ⟨⟨k+1,by simp,by omega,?_⟩,by simp; omega⟩)
  ·rw [hc] at hf; simp only at hf; rw [← hf]
  ·rw [hc] at hf; simpa using hf
 ·simp only [QsA,lenI] at hb
  rw [List.drop_eq_nil_of_le (by omega)] at hf
  rw [← hf]; rfl
def QC5 (profile from_ to_:Int) (a:Qas):Bool:=decide (a.from_=from_∧a.to_=to_∧a.profile=profile)
def QzV (n:Qam) (profile from_ to_:Int):Qas×Bool:=match n.arcs.find? (QC5 profile from_ to_) with
 | some a=>(a,true)
 | none=>(Qas.mk 0 0 0 0 [] [],false)
theorem QF0 {n:Qam} (h:n.arcs.length≤1048576) (profile from_ to_:Int):QnD n profile from_ to_=some (QzV n profile from_ to_):=by
 unfold QnD QzV
 have:=QyX (QC5 profile from_ to_) (fun a=>(Sum.inr (a,true):Unit⊕(Qas×Bool))) (.inl ()) h (B:=fun s=>Qhd n profile from_ to_ s) (fun i=>by
  unfold Qhd
  congr 2
  funext x
  unfold Qon
  rw [Qaj]
  congr 1
  unfold QC5
  rw [Bool.eq_iff_iff]
  simp [and_assoc])
 rw [Qcw this]
 cases n.arcs.find? (QC5 profile from_ to_) <;> rfl
theorem QxB {n:Qam} (h:n.arcs.length≤1048576) (profile from_ to_:Int):Qiq n profile from_ to_=some (QzV n profile from_ to_):=by
 unfold Qiq QzV
 have:=QyX (QC5 profile from_ to_) (fun a=>(Sum.inr (a,true):Unit⊕(Qas×Bool))) (.inl ()) h (B:=fun s=>Qfc n profile from_ to_ s) (fun i=>by
  unfold Qfc
  congr 2
  funext x
  congr 1
  unfold QC5
  rw [Bool.eq_iff_iff]
  simp [and_assoc])
 rw [Qcw this]
 cases n.arcs.find? (QC5 profile from_ to_) <;> rfl
theorem Qwy {n:Qam} {profile from_ to_:Int} (h:(QzV n profile from_ to_).2=true):(QzV n profile from_ to_).1∈n.arcs∧QC5 profile from_ to_ (QzV n profile from_ to_).1=true:=by
 unfold QzV at h ⊢
 cases hf:n.arcs.find? (QC5 profile from_ to_) with
 | none=>rw [hf] at h; cases h
 | some a=>exact ⟨List.mem_of_find?_eq_some hf,List.find?_some hf⟩
def QjW (n:Qam) (i:Int):Bool:=decide (0≤i∧i<n.places.length)
theorem QBO (n:Qam) (i:Int):Qjm n i=some (QjW n i):=by
 unfold Qjm QjW lenI
 congr 1
 rw [Bool.eq_iff_iff]; simp
theorem Qtx (n:Qam) (i:Int):Qgn n i=some (QjW n i):=by
 unfold Qgn QjW lenI
 congr 1
 rw [Bool.eq_iff_iff]; simp
def goN (n:Qam) (profile from_ to_ t:Int):Int×Int×Int :=
 if QjW n from_=true∧QjW n to_=true then
  if from_=to_ then (t,0,0) else
  if (QzV n profile from_ to_).2=true then (arrA (QzV n profile from_ to_).1 t,(QzV n profile from_ to_).1.miles,0) else (0,0,12)
 else (0,0,11)
theorem go_eq {n:Qam} (h:QEo n) (profile from_ to_:Int) {t:Int} (ht:inT t):Qpo n profile from_ to_ t=some (goN n profile from_ to_ t):=by
 unfold Qpo goN
 rw [QBO,Qaj,QBO,Qaj,QF0 (by have:=h.arcs; omega),Qaj]
 simp only [QCU,QvW]
 by_cases h1:QjW n from_=true
 ·by_cases h2:QjW n to_=true
  ·rw [if_pos h1,if_pos h2,if_pos (And.intro h1 h2)]
   by_cases h3:from_=to_
   ·rw [if_pos h3,if_pos h3]
   ·rw [if_neg h3,if_neg h3]
    by_cases h4:(QzV n profile from_ to_).2=true
    ·rw [if_pos h4,if_pos h4,QAC (h.all _ (Qwy h4).1) ht,Qaj]
    ·rw [if_neg h4,if_neg h4]
  ·rw [if_pos h1,if_neg h2,if_neg (fun h:QjW n from_=true∧QjW n to_=true=>h2 h.2)]
 ·rw [if_neg h1,if_neg (fun h:QjW n from_=true∧QjW n to_=true=>h1 h.1)]
theorem Qz4 {n:Qam} (h:QEo n) (profile from_ to_:Int) {t:Int} (ht:inT t):Qi7 n profile from_ to_ t=some (goN n profile from_ to_ t):=by
 unfold Qi7 goN
 rw [Qtx,Qaj,Qtx,Qaj,QxB (by have:=h.arcs; omega),Qaj]
 simp only [QCU,QvW]
 by_cases h1:QjW n from_=true
 ·by_cases h2:QjW n to_=true
  ·rw [if_pos h1,if_pos h2,if_pos (And.intro h1 h2)]
   by_cases h3:from_=to_
   ·rw [if_pos h3,if_pos h3]
   ·rw [if_neg h3,if_neg h3]
    by_cases h4:(QzV n profile from_ to_).2=true
    ·rw [if_pos h4,if_pos h4,Qv0 (h.all _ (Qwy h4).1) ht,Qaj]
    ·rw [if_neg h4,if_neg h4]
  ·rw [if_pos h1,if_neg h2,if_neg (fun h:QjW n from_=true∧QjW n to_=true=>h2 h.2)]
 ·rw [if_neg h1,if_neg (fun h:QjW n from_=true∧QjW n to_=true=>h1 h.1)]

end Go.Proofs.YtpkkaboonnedfaaGreatDoor
namespace Go.Proofs.YtpkkaboonnedfaaGreatDoor
set_option linter.unusedSimpArgs false
set_option linter.unusedVariables false
set_option linter.unusedSectionVars false

def Stg (f:List Int→Option (List Int)) (c:Nat) (P:Prop):Prop:=∀ l:List Int,l.length+c≤100→post (f l) (Ext l c P)
section
variable {f : List Int → Option (List Int)} {c : Nat} {P Q : Prop} {l : List Int} {e : Int}
theorem Stg.bad (h:Stg f c P) (hl:l.length+(c+1)≤100):post (chk (okN (l++[e]).length 8) (f (l++[e]))) (Ext l (c+1) Q) :=
 QbG (QeN (by simp; omega)) ((h (l++[e]) (by simp; omega)).mono fun x hx=>(Ext.one (P:=False) (Nat.le_refl 1) trivial).trans hx (by omega) fun h _=>h.elim)
theorem Stg.good (h:Stg f c P) (hl:l.length+(c+1)≤100) (hp:P→Q):post (f l) (Ext l (c+1) Q):=(h l (by omega)).mono fun x hx=>hx.mono (by omega) hp
theorem Qwb (hl:l.length+1≤100):post (chk (okN (l++[e]).length 8) (some (l++[e]))) (Ext l 1 Q):=QbG (QeN (by simp; omega)) (QaH.2 (.one (Nat.le_refl 1) trivial))
theorem QAV (hq:Q):post (some l) (Ext l 1 Q):=QaH.2 (.nil hq)
end
section
variable {α : Type} {n lo hi : Int} {f : Bool → Option α} {Q : α → Prop}
theorem QiO (h:post (f (decide (lo≤n∧n≤hi))) Q):post (bnd (QaW n lo hi) f) Q:=by
 have:QaW n lo hi=some (decide (lo≤n∧n≤hi)):=by
  unfold QaW
  congr 1
  rw [Bool.eq_iff_iff,andT,Qs7,Qx8,decide_eq_true_iff]
 rw [this]; exact h
theorem Qu1 (h:post (f (decide (lo≤n∧n≤hi))) Q):post (bnd (QbQ n lo hi) f) Q:=QiO h
end
theorem QrS {E:Type} {B:Int→Option (Int⊕E)} (n:Nat) (R:E→Prop) (P:Nat→Prop) (hn:n<18446744073709551615)
  (step:∀ i,i<n→post (B (i:Int)) fun x=>(x=.inl ((i:Int)+1)∧P i)∨∃ e,x=.inr e∧R e) (fin:post (B (n:Int)) fun x=>∃ e,x=.inr e∧((∀ i,i<n→P i)→R e)):post (QaT B 0) R:=by
 refine QeM (fun i=>∃ k:Nat,i=(k:Int)∧k≤n∧∀ j,j<k→P j) (fun i=>n-i.toNat) ⟨0,rfl,Nat.zero_le _,by simp⟩ (by simp; omega) ?_
 rintro _ ⟨k,rfl,hk,hP⟩
 by_cases h:k<n
 ·refine (step k h).mono ?_
  rintro x (⟨rfl,hp⟩|⟨e,rfl,he⟩)
  ·refine ⟨fun s' hs=>?_,fun _ h=>by (cases h)⟩
   cases hs
   refine ⟨⟨k+1,by simp,by omega,fun j hj=>?_⟩,by simp; omega⟩
   rcases Nat.lt_or_ge j k with h|h
   ·exact hP j h
   ·obtain rfl:j=k:=by omega
    exact hp
  ·exact ⟨fun _ h=>(by cases h),fun e' he'=>by cases he'; exact he⟩
 ·obtain rfl:k=n:=by omega
  refine fin.mono ?_
  rintro x ⟨e,rfl,he⟩
  exact ⟨fun _ h=>(by cases h),fun e' he'=>by cases he'; exact he hP⟩

structure QGK (np dims:Nat) (t:Qal):Prop where
 count:0≤t.count∧t.count≤10
 from_:0≤t.from_∧t.from_<np
 to_:0≤t.to_∧t.to_<np
 dims1:1≤dims∧dims≤3
 cap:t.cap.length=dims
 caps:∀ i,i<t.cap.length→∀ x,t.cap[i]?=some x→0≤x∧x≤1000
 skills:0≤t.skills∧t.skills≤1073741823
 opn:0≤t.open_∧t.open_≤t.close
 close:t.close≤4096
 drive:1≤t.drive∧t.drive≤4096
 rest:0≤t.rest_∧t.rest_≤4096
 profile:0≤t.profile∧t.profile≤7
 fixed:0≤t.fixed∧t.fixed≤100000
 perMile:0≤t.perMile∧t.perMile≤100
 perTick:0≤t.perTick∧t.perTick≤100
section
variable {x0 : Qal} {n : Qam} {l0 : List Qal}
abbrev P8 (x0:Qal):Prop:=(0≤x0.profile∧x0.profile≤7)∧(0≤x0.fixed∧x0.fixed≤100000)∧(0≤x0.perMile∧x0.perMile≤100)∧(0≤x0.perTick∧x0.perTick≤100)
theorem ty8:Stg (QeC x0) 1 (P8 x0):=fun l hl=>by
 unfold QeC
 refine QiO (Qa0 (fun h1=>QiO (Qa0 (fun h2=>QiO (Qa0 (fun h3=>QiO (Qa0 (fun h4=>QAV ?_) (fun _=>Qwb hl))) (fun _=>Qwb hl))) (fun _=>Qwb hl))) (fun _=>Qwb hl))
 exact ⟨of_decide_eq_true h1,of_decide_eq_true h2,of_decide_eq_true h3,of_decide_eq_true h4⟩
abbrev P7 (x0:Qal):Prop:=(1≤x0.drive∧x0.drive≤4096)∧(0≤x0.rest_∧x0.rest_≤4096)∧P8 x0
theorem ty7:Stg (QeB x0) 2 (P7 x0):=fun l hl=>by
 unfold QeB
 exact QiO (Qa0 (fun h1=>QiO (Qa0 (fun h2=>ty8.good hl fun h=>⟨of_decide_eq_true h1,of_decide_eq_true h2,h⟩) (fun _=>ty8.bad hl))) (fun _=>ty8.bad hl))
abbrev P6 (x0:Qal):Prop:=(0≤x0.open_∧x0.open_≤x0.close)∧x0.close≤4096∧P7 x0
theorem ty6:Stg (QeA x0) 3 (P6 x0):=fun l hl=>by
 unfold QeA
 refine QiO (Qa0 (fun _=>ty7.bad hl) (fun h1=>ty7.good hl fun h=>?_))
 simp only [orF,ntF,QvR] at h1
 exact ⟨of_decide_eq_true h1.1,h1.2,h⟩
abbrev P5 (x0:Qal):Prop:=(0≤x0.skills∧x0.skills≤1073741823)∧P6 x0
theorem ty5:Stg (Qez x0) 4 (P5 x0):=fun l hl=>by
 unfold Qez
 exact QiO (Qa0 (fun h1=>ty6.good hl fun h=>⟨of_decide_eq_true h1,h⟩) (fun _=>ty6.bad hl))
def Qej (l:List Qal):Nat:=match l with
 | []=>0
 | t :: _=>t.cap.length
theorem QDQ:Qf9 l0=some (Qej l0:Int):=by
 unfold Qf9 Qej
 cases l0 with
 | nil=>rfl
 | cons t r =>
  rw [QaO (by simp [lenI]; omega),show (0:Int)=((0:Nat):Int) from rfl,QaX (a:=t) rfl]; rfl
abbrev P4 (dims:Nat) (x0:Qal):Prop:=(1≤dims∧dims≤3)∧x0.cap.length=dims∧(∀ i,i<x0.cap.length→∀ x,x0.cap[i]?=some x→0≤x∧x≤1000)∧P5 x0
theorem QEu {c:List Int} {dims:Nat} (hc:c.length≤1048576):post (Qeu c dims) fun r=>r=true→(1≤dims∧dims≤3)∧c.length=dims∧∀ i,i<c.length→∀ x,c[i]?=some x→0≤x∧x≤1000:=by
 unfold Qeu
 refine QiO (Qa0 (fun _=>QaH.2 fun h=>by cases h) (fun h1=>?_))
 simp only [orF,ntF,QFb,lenI,decide_eq_true_iff] at h1
 have h2:=of_decide_eq_true h1.1
 refine Qbc (R:=fun e:Unit⊕Bool=>(∃ u,e=.inl u∧∀ i,i<c.length→∀ x,c[i]?=some x→0≤x∧x≤1000)∨e=.inr false) ?_ fun e he=>?_
 ·refine QrS (B:=fun s=>QbP c s) c.length _ (fun i=>∀ x,c[i]?=some x→0≤x∧x≤1000) (by omega) (fun i hi=>?_) ?_
  ·show post (QbP c (i:Int)) _
   unfold QbP
   have e1:c[i]?=some c[i]:=List.getElem?_eq_getElem hi
   rw [QaY (by simp [lenI]; omega),QaX e1,Qaj,inc hi hc]
   exact QiO (Qa0 (fun h=>QaH.2 (.inl ⟨rfl,fun x hx=>by rw [e1] at hx; cases hx; exact of_decide_eq_true h⟩)) (fun _=>QaH.2 (.inr ⟨_,rfl,.inr rfl⟩)))
  ·show post (QbP c (c.length:Int)) _
   unfold QbP
   rw [QaO (by simp [lenI])]
   exact QaH.2 ⟨_,rfl,fun h=>.inl ⟨_,rfl,h⟩⟩
 ·rcases he with ⟨u,rfl,h⟩|rfl
  ·have hd:(1≤dims∧dims≤3)∧c.length=dims:=by omega
   rw [Qgh]; exact QaH.2 fun _=>⟨hd.1,hd.2,h⟩
  ·rw [Qjn]; exact QaH.2 fun h=>by cases h
theorem ty4 (hc:x0.cap.length≤1048576):Stg (Qey l0 x0) 5 (P4 (Qej l0) x0):=fun l hl=>by
 unfold Qey
 rw [QDQ,Qaj]
 exact Qbc (QEu hc) fun r hr=>Qa0 (fun h=>ty5.good hl fun h'=>⟨(hr h).1,(hr h).2.1,(hr h).2.2,h'⟩) (fun _=>ty5.bad hl)
abbrev P3 (np dims:Nat) (x0:Qal):Prop:=(0≤x0.from_∧x0.from_<np)∧(0≤x0.to_∧x0.to_<np)∧P4 dims x0
theorem ty3 (hn:n.places.length≤1048576) (hc:x0.cap.length≤1048576):Stg (Qex n l0 x0) 6 (P3 n.places.length (Qej l0) x0):=fun l hl=>by
 unfold Qex
 have hs:subK .i64 (lenI n.places) 1=(n.places.length:Int)-1:=by unfold lenI; exact subI (by omega) (by omega)
 rw [hs]
 refine QiO (Qa0 (fun h1=>QiO (Qa0 (fun h2=>(ty4 hc).good hl fun h=>⟨?_,?_,h⟩) (fun _=>(ty4 hc).bad hl))) (fun _=>(ty4 hc).bad hl))
 ·have:=of_decide_eq_true h1; omega
 ·have:=of_decide_eq_true h2; omega
theorem ty2 (hn:n.places.length≤1048576) (hc:x0.cap.length≤1048576):Stg (Qew n l0 x0) 7 ((0≤x0.count∧x0.count≤10)∧P3 n.places.length (Qej l0) x0):=fun l hl=>by
 unfold Qew
 exact QiO (Qa0 (fun h1=>(ty3 hn hc).good hl fun h=>⟨of_decide_eq_true h1,h⟩) (fun _=>(ty3 hn hc).bad hl))
theorem QBp {i:Nat} {s:ByteArray} (hi:i≤l0.length) (hl:l0.length≤1048576):post (QhK l0 (i:Int) s) fun _=>True:=by
 unfold QhK
 refine Qbc (R:=fun _=>True) ?_ fun e _=>by cases e <;> exact QaH.2 trivial
 refine QrS (B:=fun x=>QcA l0 (i:Int) s x) i _ (fun _=>True) (by omega) (fun k hk=>?_) ?_
 ·show post (QcA l0 (i:Int) s (k:Int)) _
  unfold QcA
  have e1:l0[k]?=some (l0[k]'(by omega)):=List.getElem?_eq_getElem _
  rw [QaY (by simp; omega),QaX e1,Qaj,inc (n:=i) hk (by omega)]
  exact Qa0 (fun _=>QaH.2 (.inr ⟨_,rfl,trivial⟩)) (fun _=>QaH.2 (.inl ⟨rfl,trivial⟩))
 ·show post (QcA l0 (i:Int) s (i:Int)) _
  unfold QcA
  rw [QaO (by simp)]
  exact QaH.2 ⟨_,rfl,fun _=>trivial⟩
structure TypI (t:Qal):Prop where
 name:t.name.size≤1048576
 cap:t.cap.length≤1048576
theorem Qyj (hn:n.places.length≤1048576) (hl:l0.length≤1048576) {i:Nat} (hx:l0[i]?=some x0) (hI:TypI x0):post (QhL n l0 (i:Int)) (Ext [] 9 (QGK n.places.length (Qej l0) x0)):=by
 unfold QhL
 rw [QaX hx,Qaj]
 have hi:=(List.getElem?_eq_some_iff.1 hx).1
 have h1:Stg (Qev n l0 (i:Int) x0) 8 ((0≤x0.count∧x0.count≤10)∧P3 n.places.length (Qej l0) x0):=fun l hl'=>by
  unfold Qev
  exact Qbc (QBp (by omega) hl) fun r _=>Qa0 (fun _=>(ty2 hn hI.cap).bad hl') (fun _=>(ty2 hn hI.cap).good hl' id)
 refine Qbc (QwG _ hI.name) fun r _=>Qa0 (fun _=>h1.good (by simp) fun h=>?_) (fun _=>h1.bad (l:=[]) (by simp))
 obtain ⟨a,⟨b,c,d,e,f,g,⟨h,i,j,k,l,m,o,p⟩⟩⟩:=h
 exact ⟨a,b,c,d,e,f,g,h,i,j,k,l,m,o,p⟩
theorem Qw9 {r:List Int} {s:ByteArray} {i:Nat} (hi:i<1048576) (hr:r.length≤100) (out:List Qab) (ho:out.length≤209715200) {B:List Qab×Int→Option ((List Qab×Int)⊕(List Qab))}
  (hB:∀ l3 k,B (l3,k)=br (ltI k (lenI r)) (bnd (getI r k) fun x0=>bnd (Qb3 (i:Int)) fun r2=>chk (okN (l3++[(Qab.mk x0 r2)]).length 24) (some (.inl ((l3++[(Qab.mk x0 r2)]),(addK .i64 k 1))))) (some (.inr l3))) :
  post (QaT B (out,0)) (Ext out r.length (r=[])):=by
 refine (QlG r.length 1 (fun _=>False) out (by omega) (fun k o hk ho'=>?_) (fun o=>?_)).mono fun x hx=>hx.mono (by omega) fun h=>?_
 ·have e1:r[k]?=some r[k]:=List.getElem?_eq_getElem hk
  rw [hB,QaY (by simp [lenI]; exact hk),QaX e1,Qaj,inc hk (by omega)]
  exact Qbc (Qm0 (i:Int) (Qxx (by omega))) fun s hs=>QbG (QeN (by simp; omega)) (Qvx rfl (by omega) (QCB (by omega)))
 ·rw [hB,QaO (by simp [lenI])]
 ·cases r with
  | nil=>rfl
  | cons y ys=>exact (h 0 (by simp)).elim
theorem Ext.len0 {α:Type} [Sm α] {r:List α} {c:Nat} {P:Prop} (h:Ext [] c P r):r.length≤c:=by have:=h.len; simpa using this
theorem QxX (hn:n.places.length≤1048576) (hl:l0.length≤1048576) (hI:∀ t∈l0,TypI t):post (QhJ n l0) (Ext [] (1+9*l0.length) ((1≤l0.length∧l0.length≤6)∧∀ t∈l0,QGK n.places.length (Qej l0) t)):=by
 have main:∀ l1:List Qab,l1.length≤1→post (QfU n l0 l1) (Ext l1 (9*l0.length) (∀ i,i<l0.length→∀ t,l0[i]?=some t→QGK n.places.length (Qej l0) t)):=by
  intro l1 h1
  refine QpN ?_
  refine (QlG l0.length 9 _ l1 (by omega) (fun i out hi ho=>?_) (fun out=>?_)).mono fun r h=>QaH.2 h
  ·show post (Qdh n l0 out (i:Int)) _
   unfold Qdh
   have e1:l0[i]?=some l0[i]:=List.getElem?_eq_getElem hi
   rw [QaY (by simp [lenI]; exact hi),inc hi hl]
   refine Qbc (Qyj hn hl e1 (hI _ (List.getElem_mem hi))) fun r1 hr1=>?_
   have:=hr1.len0
   refine Qbc (Qw9 (i:=i) (s:=ByteArray.empty) (by omega) (by omega) out (by omega) (fun _ _=>rfl)) fun l4 h4=>QaH.2 ⟨_,rfl,h4.mono this fun h=>?_⟩
   intro t ht
   rw [e1] at ht; cases ht
   exact hr1.of_nil h
  ·show Qdh n l0 out (l0.length:Int)=_
   unfold Qdh
   rw [QaO (by simp [lenI])]
 unfold QhJ
 refine QiO (Qa0 (fun h=>(main [] (by simp)).mono fun r hr=>hr.mono (by omega) fun h'=>⟨?_,fun t ht=>?_⟩) (fun h=>QbG (QeN (by simp)) ((main _ (by simp)).mono fun r hr=>(Ext.one (P:=False) (Nat.le_refl 1) (QCB (s:=ByteArray.empty) (by simp [ByteArray.size_empty]))).trans hr (by omega) fun h _=>h.elim)))
 ·have:=of_decide_eq_true h; simp only [lenI] at this; omega
 ·obtain ⟨i,hi⟩:=List.getElem?_of_mem ht
  exact h' i (List.getElem?_eq_some_iff.1 hi).1 t hi
end
end Go.Proofs.YtpkkaboonnedfaaGreatDoor
namespace Go.Proofs.YtpkkaboonnedfaaGreatDoor
set_option linter.unusedSimpArgs false
set_option linter.unusedVariables false
set_option linter.unusedSectionVars false

def QAy (np:Nat) (s:Qaw):Prop:=(s.place=-1∧s.open_=0∧s.close=0∧s.service=0)∨(0≤s.place∧s.place<np∧0≤s.open_∧s.open_≤s.close∧s.close≤4096∧0≤s.service∧s.service≤4096)
structure QFw (np dims types:Nat) (o:Qag):Prop where
 load:o.load.length=dims
 loads:∀ i,i<o.load.length→∀ x,o.load[i]?=some x→0≤x∧x≤1000
 pick:QAy np o.pick
 drop:QAy np o.drop
 one:¬ (o.pick.place=-1∧o.drop.place=-1)
 skills:0≤o.skills∧o.skills≤1073741823
 penalty:-1≤o.penalty∧o.penalty≤1000000
 split:1≤o.split∧o.split≤4
 whole:1<o.split→o.pick.place=-1∨o.drop.place=-1
 last:-1≤o.last_∧o.last_<types
 now:-1≤o.now∧o.now<types
section
variable {x0 : Qag} {types : Nat} {np : Nat} {dims : Nat}
abbrev Q5 (types:Nat) (x0:Qag):Prop:=(-1≤x0.penalty∧x0.penalty≤1000000)∧(1≤x0.split∧x0.split≤4)∧(1<x0.split→x0.pick.place=-1∨x0.drop.place=-1)∧(-1≤x0.last_∧x0.last_<types)∧(-1≤x0.now∧x0.now<types)
theorem or5:Stg (QeG types x0) 1 (Q5 types x0):=fun l hl=>by
 unfold QeG
 refine Qu1 (Qa0 (fun h1=>Qu1 (Qa0 (fun _=>Qwb hl) (fun h2=>QAV ?_))) (fun _=>Qwb hl))
 simp only [orF,andF,ntF,QvR,QFb,QsA,QCz] at h2
 have h3:=of_decide_eq_true h1
 have h4:=of_decide_eq_true h2.1.1.1.1.1
 obtain ⟨⟨⟨⟨⟨_,h5⟩,h6⟩,h7⟩,h8⟩,h9⟩:=h2
 exact ⟨h3,h4,fun h=>by rcases h5 with h5|h5; omega; exact h5,⟨h6,h7⟩,⟨h8,h9⟩⟩
abbrev Q6 (types:Nat) (x0:Qag):Prop:=(0≤x0.skills∧x0.skills≤1073741823)∧Q5 types x0
theorem or6:Stg (QeH types x0) 2 (Q6 types x0):=fun l hl=>by
 unfold QeH
 exact Qu1 (Qa0 (fun h1=>or5.good hl fun h=>⟨of_decide_eq_true h1,h⟩) (fun _=>or5.bad hl))
def QGY (s:Qaw):Prop:=(s.place=-1∧s.open_=0∧s.close=0∧s.service=0)∨(0≤s.place∧0≤s.open_∧s.open_≤s.close∧s.close≤4096∧0≤s.service∧s.service≤4096)
theorem QCr (s:Qaw):post (Qeo s) fun r=>r=0→QGY s:=by
 unfold Qeo
 refine Qa0 (fun h=>QaH.2 fun _=>.inl ?_) (fun _=>Qa0 (fun _=>QaH.2 fun h=>absurd h (by decide)) (fun h=>QaH.2 fun _=>.inr ?_))
 ·simp only [andT,QvW] at h; exact ⟨h.1.1.1,h.1.1.2,h.1.2,h.2⟩
 ·simp only [orF,QsA,QvR] at h; omega
abbrev Q4 (types:Nat) (x0:Qag):Prop:=QGY x0.pick∧QGY x0.drop∧Q6 types x0
theorem or4:Stg (QeF types x0) 3 (Q4 types x0):=fun l hl=>by
 unfold QeF
 refine Qbc (QCr _) fun r4 h4=>Qa0 (fun _=>or6.bad hl) (fun h=>Qbc (QCr _) fun r8 h8=>Qa0 (fun _=>or6.bad hl) (fun h'=>or6.good hl fun h6=>⟨h4 (by simpa using h),h8 (by simpa using h'),h6⟩))
abbrev Q3 (types:Nat) (x0:Qag):Prop:=¬ (x0.pick.place=-1∧x0.drop.place=-1)∧Q4 types x0
theorem or3:Stg (QeE types x0) 4 (Q3 types x0):=fun l hl=>by
 unfold QeE
 refine Qa0 (fun _=>or4.bad hl) (fun h=>or4.good hl fun h'=>⟨?_,h'⟩)
 simp only [andF,QCy] at h; omega
abbrev Q2 (np types:Nat) (x0:Qag):Prop:=(-1≤x0.pick.place∧x0.pick.place<np)∧(-1≤x0.drop.place∧x0.drop.place<np)∧Q3 types x0
theorem or2 (hn:np≤1048576):Stg (Qb6 np types x0) 5 (Q2 np types x0):=fun l hl=>by
 unfold Qb6
 have hs:subK .i64 (np:Int) 1=(np:Int)-1:=subI (by omega) (by omega)
 rw [hs]
 refine Qu1 (Qa0 (fun h1=>Qu1 (Qa0 (fun h2=>or3.good hl fun h=>⟨?_,?_,h⟩) (fun _=>or3.bad hl))) (fun _=>or3.bad hl))
 ·have:=of_decide_eq_true h1; omega
 ·have:=of_decide_eq_true h2; omega
theorem Qyi {c:List Int} (hc:c.length≤1048576):post (Qfp c dims) fun r=>r=true→c.length=dims∧∀ i,i<c.length→∀ x,c[i]?=some x→0≤x∧x≤1000:=by
 unfold Qfp
 refine Qa0 (fun _=>QaH.2 fun h=>by cases h) (fun h1=>?_)
 simp only [QFb,lenI] at h1
 have hd:c.length=dims:=by omega
 refine Qbc (R:=fun e:Unit⊕Bool=>(∃ u,e=.inl u∧∀ i,i<c.length→∀ x,c[i]?=some x→0≤x∧x≤1000)∨e=.inr false) ?_ fun e he=>?_
 ·refine QrS (B:=fun s=>Qcx c s) c.length _ (fun i=>∀ x,c[i]?=some x→0≤x∧x≤1000) (by omega) (fun i hi=>?_) ?_
  ·show post (Qcx c (i:Int)) _
   unfold Qcx
   have e1:c[i]?=some c[i]:=List.getElem?_eq_getElem hi
   rw [QaY (by simp [lenI]; omega),QaX e1,Qaj,inc hi hc]
   refine Qa0 (fun _=>QaH.2 (.inr ⟨_,rfl,.inr rfl⟩)) (fun h2=>Qa0 (fun _=>QaH.2 (.inr ⟨_,rfl,.inr rfl⟩)) (fun h3=>QaH.2 (.inl ⟨rfl,fun x hx=>?_⟩)))
   rw [e1] at hx; cases hx
   simp only [QsA,QvR] at h2 h3
   exact ⟨h2,h3⟩
  ·show post (Qcx c (c.length:Int)) _
   unfold Qcx
   rw [QaO (by simp [lenI])]
   exact QaH.2 ⟨_,rfl,fun h=>.inl ⟨_,rfl,h⟩⟩
 ·rcases he with ⟨u,rfl,h⟩|rfl
  ·rw [Qgh]; exact QaH.2 fun _=>⟨hd,h⟩
  ·rw [Qjn]; exact QaH.2 fun h=>by cases h
structure OrdI (o:Qag):Prop where
 name:o.name.size≤1048576
 load:o.load.length≤1048576
theorem Qyk {l:List Qag} (hn:np≤1048576) (hl:l.length≤1048576) {i:Nat} (hx:l[i]?=some x0) (hI:OrdI x0):post (QhN np dims types l (i:Int)) (Ext [] 9 (QFw np dims types x0)):=by
 unfold QhN
 rw [QaX hx,Qaj]
 have hi:=(List.getElem?_eq_some_iff.1 hx).1
 have hb:Stg (fun l2=>bnd (Qfp x0.load dims) fun r1=>br r1 (Qb6 np types x0 l2) (chk (okN (l2++[17]).length 8) (Qb6 np types x0 (l2++[17])))) 6 ((x0.load.length=dims∧∀ i,i<x0.load.length→∀ x,x0.load[i]?=some x→0≤x∧x≤1000)∧Q2 np types x0):=fun l hl' =>
  Qbc (Qyi hI.load) fun r hr=>Qa0 (fun h=>(or2 hn).good hl' fun h'=>⟨hr h,h'⟩) (fun _=>(or2 hn).bad hl')
 have h1:Stg (QeD np dims types l (i:Int) x0) 7 ((x0.load.length=dims∧∀ i,i<x0.load.length→∀ x,x0.load[i]?=some x→0≤x∧x≤1000)∧Q2 np types x0):=fun l1 hl'=>by
  unfold QeD
  refine Qbc (R:=Ext l1 1 True) ?_ fun l2 h2=>?_
  ·refine QrS (B:=fun s=>QcB np dims types l (i:Int) x0 l1 s) i _ (fun _=>True) (by omega) (fun k hk=>?_) ?_
   ·show post (QcB np dims types l (i:Int) x0 l1 (k:Int)) _
    unfold QcB
    have e1:l[k]?=some (l[k]'(by omega)):=List.getElem?_eq_getElem _
    rw [QaY (by simp; omega),QaX e1,Qaj,inc (n:=i) hk (by omega)]
    exact Qa0 (fun _=>QbG (QeN (by simp; omega)) (QaH.2 (.inr ⟨_,rfl,.one (Nat.le_refl 1) trivial⟩))) (fun _=>QaH.2 (.inl ⟨rfl,trivial⟩))
   ·show post (QcB np dims types l (i:Int) x0 l1 (i:Int)) _
    unfold QcB
    rw [QaO (by simp)]
    exact QaH.2 ⟨_,rfl,fun _=>.nil trivial⟩
  ·have:=h2.len
   exact (hb l2 (by omega)).mono fun r hr=>h2.trans hr (by omega) fun _ h=>h
 refine Qbc (QwG _ hI.name) fun r _=>Qa0 (fun _=>(h1.good (l:=[]) (by simp) fun h=>?_:post _ (Ext [] 8 (QFw np dims types x0))).mono fun r hr=>hr.mono (by omega) id) (fun _=>(h1.bad (l:=[]) (by simp):post _ (Ext [] 8 (QFw np dims types x0))).mono fun r hr=>hr.mono (by omega) id)
 obtain ⟨⟨a,b⟩,⟨c0,c⟩,⟨d0,d⟩,e,f,g,h,⟨i,j,k,m,o⟩⟩:=h
 refine ⟨a,b,?_,?_,e,h,i,j,k,m,o⟩
 ·rcases f with f|f
  ·exact .inl f
  ·exact .inr ⟨f.1,c,f.2⟩
 ·rcases g with g|g
  ·exact .inl g
  ·exact .inr ⟨g.1,d,g.2⟩
theorem QxY {n:Qam} {l:List Qag} (hn:n.places.length≤1048576) (hl:l.length≤1048576) (hI:∀ t∈l,OrdI t):post (QhM n dims types l) (Ext [] (1+9*l.length) (l.length≤10∧∀ t∈l,QFw n.places.length dims types t)):=by
 have main:∀ l1:List Qab,l1.length≤1→post (QfW n dims types l l1) (Ext l1 (9*l.length) (∀ i,i<l.length→∀ t,l[i]?=some t→QFw n.places.length dims types t)):=by
  intro l1 h1
  refine QpN ?_
  refine (QlG l.length 9 _ l1 (by omega) (fun i out hi ho=>?_) (fun out=>?_)).mono fun r h=>QaH.2 h
  ·show post (Qdi n dims types l out (i:Int)) _
   unfold Qdi
   have e1:l[i]?=some l[i]:=List.getElem?_eq_getElem hi
   rw [QaY (by simp [lenI]; exact hi),inc hi hl]
   refine Qbc (Qyk hn hl e1 (hI _ (List.getElem_mem hi))) fun r1 hr1=>?_
   have:=hr1.len0
   refine Qbc (Qw9 (i:=i) (s:=ByteArray.empty) (by omega) (by omega) out (by omega) (fun _ _=>rfl)) fun l4 h4=>QaH.2 ⟨_,rfl,h4.mono this fun h=>?_⟩
   intro t ht
   rw [e1] at ht; cases ht
   exact hr1.of_nil h
  ·show Qdi n dims types l out (l.length:Int)=_
   unfold Qdi
   rw [QaO (by simp [lenI])]
 unfold QhM
 refine Qa0 (fun h=>QbG (QeN (by simp)) ((main _ (by simp)).mono fun r hr=>(Ext.one (P:=False) (Nat.le_refl 1) (QCB (s:=ByteArray.empty) (by simp [ByteArray.size_empty]))).trans hr (by omega) fun h _=>h.elim)) (fun h=>(main [] (by simp)).mono fun r hr=>hr.mono (by omega) fun h'=>⟨?_,fun t ht=>?_⟩)
 ·simp only [QvR,lenI] at h; omega
 ·obtain ⟨i,hi⟩:=List.getElem?_of_mem ht
  exact h' i (List.getElem?_eq_some_iff.1 hi).1 t hi
end
def QzL (orders:Nat) (p:QaR):Prop:=0≤p.x0∧p.x0<orders∧0≤p.x1∧p.x1<orders∧p.x0≠p.x1
theorem Qwu {i:Nat} (hi:i<1048576):post (Qfd (i:Int)) fun s=>s.size≤21:=by
 unfold Qfd
 refine Qbc (R:=fun e=>e.2.size≤20) ?_ fun e he=>QbG (by rw [QmX]; simp; omega) (QaH.2 (by rw [QpC,QmX]; simp; omega))
 refine QeM (fun s=>∃ m k:Nat,s.1=(m:Int)∧m<1048576∧m<10 ^ k∧s.2.size+k≤20) (fun s=>s.1.toNat) ⟨i,7,rfl,hi,by omega,by simp [ByteArray.size_empty]⟩ (by simp; omega) ?_
 rintro ⟨_,s⟩ ⟨m,k,rfl,h0,h1,h2⟩
 simp only at h2
 show post (QdM (m:Int) s) _
 unfold QdM
 refine Qa0 (fun hb=>QbG (by rw [QmX]; simp; omega) (Qhj ?_)) (fun _=>QdT (show s.size≤20 by omega))
 simp only [Qs7] at hb
 have hq:quoK .i64 (m:Int) 10=((m / 10:Nat):Int):=by rw [QHJ (by omega),Int.tdiv_eq_ediv_of_nonneg (by omega)]; omega
 obtain ⟨k,rfl⟩:∃ j,k=j+1:=⟨k-1,by
  rcases Nat.eq_zero_or_pos k with rfl|h
  ·simp at h1; omega
  ·omega⟩
 rw [hq]
 refine ⟨⟨m / 10,k,rfl,by omega,by rw [Nat.pow_succ] at h1; omega,?_⟩,by simp; omega⟩
 rw [QpC,QmX]
 simp; omega
theorem Qwd {orders:Nat} {l:List QaR} {word:ByteArray} {turned:Bool} (hl:l.length≤1048576) (hw:word.size≤20):post (Qg0 orders l word turned) (Ext [] (1+l.length) (l.length≤16∧∀ p∈l,QzL orders p)):=by
 have main:∀ l1:List Qab,l1.length≤1→post (Qfr orders l word turned l1) (Ext l1 l.length (∀ i,i<l.length→∀ p,l[i]?=some p→QzL orders p)):=by
  intro l1 h1
  refine QpN ?_
  refine (QlG l.length 1 _ l1 (by omega) (fun i out hi ho=>?_) (fun out=>?_)).mono fun r h=>QaH.2 (h.mono (by omega) id)
  ·show post (QcT orders l word turned out (i:Int)) _
   unfold QcT
   have e1:l[i]?=some l[i]:=List.getElem?_eq_getElem hi
   rw [QaY (by simp [lenI]; exact hi),inc hi hl,QaX e1,Qaj]
   have hs1:Qde.size=1:=rfl
   refine QbG (by omega) (Qbc (Qwu (by omega)) fun r hr=>QbG (by rw [QpC]; omega) ?_)
   have hsm:∀ {e:Int},Sm.sm (Qab.mk e (catS (catS word Qde) r)):=QCB (by rw [QpC,QpC]; omega)
   generalize l[i]=p at e1
   refine Qa0 (fun _=>QbG (QeN (by simp; omega)) (Qvx rfl (Nat.le_refl 1) hsm)) (fun h=>?_)
   refine Qbc (R:=fun _=>True) ?_ fun tw _=>Qa0 (fun _=>QbG (QeN (by simp; omega)) (Qvx rfl (Nat.le_refl 1) hsm)) (fun _=>Qzr rfl ?_)
   ·refine QeM (fun s=>∃ k:Nat,s.2=(k:Int)∧k≤i) (fun s=>i-s.2.toNat) ⟨0,rfl,Nat.zero_le _⟩ (by simp; omega) ?_
    rintro ⟨b,_⟩ ⟨k,rfl,hk⟩
    show post (Qd0 orders l word turned out (i:Int) p r b (k:Int)) _
    unfold Qd0
    refine Qa0 (fun hb=>?_) (fun _=>QdT trivial)
    simp only [Qsh] at hb
    have hk':k<i:=by omega
    rw [inc (n:=i) hk' (by omega)]
    have leaf:∀ b:Bool,post (some (Sum.inl (b,(k:Int)+1):(Bool×Int)⊕Bool)) fun x=>(∀ s',x=.inl s'→(∃ k:Nat,s'.2=(k:Int)∧k≤i)∧i-s'.2.toNat<i-((b,(k:Int)):Bool×Int).2.toNat)∧∀ e,x=.inr e→True :=
     fun b=>Qhj ⟨⟨k+1,by simp,by omega⟩,by simp; omega⟩
    refine Qa0 (fun _=>leaf _) (fun _=>?_)
    have e2:l[k]?=some (l[k]'(by omega)):=List.getElem?_eq_getElem _
    rw [QaX e2,Qaj]
    exact Qa0 (fun _=>Qa0 (fun _=>leaf _) (fun _=>Qa0 (fun _=>Qa0 (fun _=>leaf _) (fun _=>leaf _)) (fun _=>leaf _))) (fun _=>Qa0 (fun _=>Qa0 (fun _=>leaf _) (fun _=>leaf _)) (fun _=>leaf _))
   ·intro q hq
    rw [e1] at hq; cases hq
    simp only [orF,QsA,QCz,QCy] at h
    exact ⟨h.1.1.1.1,h.1.1.1.2,h.1.1.2,h.1.2,h.2⟩
  ·show QcT orders l word turned out (l.length:Int)=_
   unfold QcT
   rw [QaO (by simp [lenI])]
 unfold Qg0
 refine Qa0 (fun h=>QbG (QeN (by simp)) ((main _ (by simp)).mono fun r hr=>(Ext.one (P:=False) (Nat.le_refl 1) (QCB (by omega))).trans hr (by omega) fun h _=>h.elim)) (fun h=>(main [] (by simp)).mono fun r hr=>hr.mono (by omega) fun h'=>⟨?_,fun t ht=>?_⟩)
 ·simp only [QvR,lenI] at h; omega
 ·obtain ⟨i,hi⟩:=List.getElem?_of_mem ht
  exact h' i (List.getElem?_eq_some_iff.1 hi).1 t hi
theorem QtG {word:ByteArray} {r:List Qab} (hw:word.size≤20) (hr:r.length≤5000000000000) (hs:∀ f∈r,Sm.sm f):post (Qgu word r) fun x=>x.length=r.length:=by
 refine QpN ?_
 refine QeM (fun s=>∃ k:Nat,s.2=(k:Int)∧k≤r.length∧s.1.length=k) (fun s=>r.length-s.2.toNat) ⟨0,rfl,Nat.zero_le _,rfl⟩ (by simp; omega) ?_
 rintro ⟨out,_⟩ ⟨k,rfl,hk,hl⟩
 show post (QeI word r out (k:Int)) _
 unfold QeI QfY
 refine Qa0 (fun hb=>?_) (fun hb=>QdT (QaH.2 ?_))
 ·simp only [Qsh,lenI] at hb
  simp only at hl
  have hk':k<r.length:=by omega
  have e1:r[k]?=some r[k]:=List.getElem?_eq_getElem hk'
  have hsk:(r[k]).at_.size≤64:=hs _ (List.getElem_mem hk')
  have hadd:addK .i64 (k:Int) 1=(k:Int)+1:=addI (by omega) (by omega)
  have hs1:Qde.size=1:=rfl
  rw [QaX e1,Qaj,Qaj,hadd]
  have leaf:∀ f:Qab,post (chk (okN (out++[f]).length 24) (some (Sum.inl (out++[f],(k:Int)+1):(List Qab×Int)⊕(List Qab)))) fun x=>(∀ s',x=.inl s'→(∃ k:Nat,s'.2=(k:Int)∧k≤r.length∧s'.1.length=k)∧r.length-s'.2.toNat<r.length-((out,(k:Int)):List Qab×Int).2.toNat)∧∀ e,x=.inr e→post (some e) fun x=>x.length=r.length :=
   fun f=>QbG (QeN (by simp; omega)) (Qhj ⟨⟨k+1,by simp,by omega,by simp; omega⟩,by simp; omega⟩)
  exact Qa0 (fun _=>leaf _) (fun _=>QbG (by omega) (QbG (by rw [QpC]; omega) (leaf _)))
 ·simp only [QsA,lenI] at hb
  simp only at hl
  omega
structure QGJ (x:Qac):Prop where
 net:NetI x.net
 types:x.types.length≤1048576
 orders:x.orders.length≤1048576
 apart:x.apart.length≤1048576
 before:x.before.length≤1048576
 typI:∀ t∈x.types,TypI t
 ordI:∀ t∈x.orders,OrdI t
structure QbW (x:Qac):Prop where
 net:QEo x.net
 types1:1≤x.types.length
 types:x.types.length≤6
 typ:∀ t∈x.types,QGK x.net.places.length (Qej x.types) t
 orders:x.orders.length≤10
 ord:∀ o∈x.orders,QFw x.net.places.length (Qej x.types) x.types.length o
 apart:x.apart.length≤16
 aparts:∀ p∈x.apart,QzL x.orders.length p
 before:x.before.length≤16
 befores:∀ p∈x.before,QzL x.orders.length p
theorem QxZ {x:Qac} (hI:QGJ x):post (QhP x) fun r=>r=[]→QbW x:=by
 have h1:=hI.types; have h2:=hI.orders; have h3:=hI.apart; have h4:=hI.before; have h5:=hI.net.arcs
 unfold QhP
 refine Qbc (Qvu (n:=x.net) hI.net) fun r hr=>?_
 have l1:=hr.len0
 refine Qbc (QtG (show 3≤20 by omega) (by omega) hr.sms:post (QgO QxF r) _) fun r1 hr1=>?_
 refine Qbc (QxX (n:=x.net) hI.net.places h1 hI.typI) fun r2 hr2=>?_
 have l2:=hr2.len0
 refine Qbc (QtG (show 5≤20 by omega) (by omega) hr2.sms) fun r3 hr3=>QbG (QeN (by simp; omega)) ?_
 rw [QDQ,Qaj]
 refine Qbc (QxY (n:=x.net) (types:=x.types.length) hI.net.places h2 hI.ordI) fun r5 hr5=>?_
 have l5:=hr5.len0
 refine Qbc (QtG (show 6≤20 by omega) (by omega) hr5.sms) fun r6 hr6=>QbG (QeN (by simp; omega)) ?_
 have hC:post (QhO (lenI x.orders) x.apart x.before) fun r=>r.length≤2+x.apart.length+x.before.length∧(∀ f∈r,Sm.sm f)∧(r=[]→(x.apart.length≤16∧∀ p∈x.apart,QzL x.orders.length p)∧(x.before.length≤16∧∀ p∈x.before,QzL x.orders.length p)):=by
  unfold QhO
  refine Qbc (Qwd (orders:=x.orders.length) (word:=QvB) (turned:=true) h3 (show 5≤20 by omega)) fun a ha=>Qbc (Qwd (orders:=x.orders.length) (word:=Qus) (turned:=false) h4 (show 6≤20 by omega)) fun b hb=>?_
  have la:=ha.len0
  have lb:=hb.len0
  refine QbG (QeN (by simp; omega)) (QaH.2 ⟨by simp; omega,fun f hf=>?_,fun h=>?_⟩)
  ·rcases List.mem_append.1 hf with h|h
   ·exact ha.sms f h
   ·exact hb.sms f h
  ·rw [List.append_eq_nil_iff] at h
   exact ⟨ha.of_nil h.1,hb.of_nil h.2⟩
 refine Qbc hC fun r7 ⟨l7,s7,c7⟩=>Qbc (QtG (show 5≤20 by omega) (by omega) s7) fun r8 hr8=>QbG (QeN (by simp; omega)) (QaH.2 fun h=>?_)
 simp only [List.append_eq_nil_iff] at h
 obtain ⟨⟨⟨e1,e3⟩,e6⟩,e8⟩:=h
 have nil:∀ {a b:List Qab},a.length=b.length→a=[]→b=[]:=fun h h'=>List.length_eq_zero_iff.1 (by rw [← h,h']; rfl)
 obtain ⟨⟨t1,t2⟩,t3⟩:=hr2.of_nil (nil hr3 e3)
 obtain ⟨o1,o2⟩:=hr5.of_nil (nil hr6 e6)
 obtain ⟨⟨a1,a2⟩,⟨b1,b2⟩⟩:=c7 (nil hr8 e8)
 exact ⟨hr.of_nil (nil hr1 e1),t1,t2,t3,o1,o2,a1,a2,b1,b2⟩
end Go.Proofs.YtpkkaboonnedfaaGreatDoor
namespace Go.Proofs.YtpkkaboonnedfaaGreatDoor
set_option linter.unusedSimpArgs false
set_option linter.unusedVariables false
set_option linter.unusedSectionVars false

def QCD:Qaw:=Qaw.mk 0 0 0 0
def QHL:Qal:=Qal.mk ByteArray.empty 0 0 0 [] 0 0 0 0 0 0 0 0 0
def QHw:Qaz:=Qaz.mk (Qac.mk (Qam.mk [] []) [] [] [] []) QHL (Qad.mk 0 0 [] []) []
def QqE:Qap:=Qap.mk false 0 [] 0 0
def zLab:Qaf:=Qaf.mk 0 0 QqE
def atS (v:Qaa) (o:Qag):Qaw:=if v.drop=true then o.drop else o.pick
theorem QG4 {v:Qaa} {o:Qag} (h:v.drop=true):atS v o=o.drop:=if_pos h
theorem QG3 {v:Qaa} {o:Qag} (h:v.drop=false):atS v o=o.pick:=if_neg (by rw [h]; decide)
def Qv5 (x:Qac) (v:Qaa):Option Qaw :=
 match (if 0≤v.order then x.orders[v.order.toNat]? else none) with
 | none=>none
 | some o=>if 0≤(atS v o).place then some (atS v o) else none
def preR (x:Qac) (r:Qad):Bool:=decide (0≤r.type_∧r.type_<x.types.length∧0≤r.start∧r.start≤4096∧r.visits.length≤20)
def QuG (x:Qac) (r:Qad):Bool:=preR x r&&r.visits.all fun v=>(Qv5 x v).isSome
def QaB (x:Qac) (r:Qad):List Qaw:=r.visits.map fun v=>(Qv5 x v).getD QCD
def typS (x:Qac) (r:Qad):Qal:=x.types.getD r.type_.toNat QHL
structure QmN (r:Qad):Prop where
 type_:QAk r.type_
 start:QAk r.start
 rests:r.rests.length≤1048576
 visits:r.visits.length≤1048576
section
variable {x : Qac} {r : Qad}
theorem QHI:(((((ltI r.type_ 0)||(geI r.type_ (lenI x.types)))||(ltI r.start 0))||(gtI r.start 4096))||(gtI (lenI r.visits) 20))=!preR x r:=by
 unfold preR lenI
 rw [Bool.eq_iff_iff]
 simp only [orT,ntT,Qsh,Qs7,QyZ,decide_eq_false_iff_not]
 omega
theorem QFm (hx:QbW x) {v:Qaa} {s:Qaw} (h:Qv5 x v=some s):0≤s.place∧s.place<x.net.places.length∧0≤s.open_∧s.open_≤s.close∧s.close≤4096∧0≤s.service∧s.service≤4096:=by
 unfold Qv5 at h
 split at h
 ·cases h
 ·rename_i o ho
  split at ho
  ·have hm:=List.mem_of_getElem? ho
   have hO:=hx.ord o hm
   split at h
   ·rename_i h0
    cases h
    cases hd:v.drop with
    | true =>
     rw [QG4 hd] at h0 ⊢
     rcases hO.drop with h1|h1
     ·omega
     ·exact h1
    | false =>
     rw [QG3 hd] at h0 ⊢
     rcases hO.pick with h1|h1
     ·omega
     ·exact h1
   ·cases h
  ·cases ho
theorem Qxz (v:Qaa):Qru x.orders v=some (match Qv5 x v with
  | some s=>(s,0)
  | none=>(QCD,if 0≤v.order∧v.order<x.orders.length then 19 else 2)):=by
 unfold Qru QmY QlF Qv5
 rw [Qaj]
 by_cases h:0≤v.order∧v.order<x.orders.length
 ·rw [QaY (by simp only [andT,Qs7,Qsh,lenI]; exact h),Qup h.1 h.2,Qaj,if_pos h.1,List.getElem?_eq_getElem (by omega),if_pos h]
  generalize x.orders[v.order.toNat]'(by omega)=o
  cases hd:v.drop with
  | true =>
   rw [QjV]
   simp only [QG4 hd,QCU,Qsh]
   by_cases hp:o.drop.place<0
   ·rw [if_pos hp,if_neg (by omega)]; rfl
   ·rw [if_neg hp,if_pos (by omega)]
  | false =>
   rw [Qhg]
   simp only [QG3 hd,QCU,Qsh]
   by_cases hp:o.pick.place<0
   ·rw [if_pos hp,if_neg (by omega)]; rfl
   ·rw [if_neg hp,if_pos (by omega)]
 ·rw [QaO (by simp only [andF,QCz,QsA,lenI]; omega),if_neg h]
  by_cases h0:0≤v.order
  ·rw [if_pos h0,List.getElem?_eq_none (by omega)]; rfl
  ·rw [if_neg h0]; rfl
theorem Qwn (v:Qaa):Qef x v=some (match Qv5 x v with
  | some s=>(s,true)
  | none=>((if 0≤v.order then match x.orders[v.order.toNat]? with|some o=>atS v o|none=>QCD else QCD),false)):=by
 unfold Qef Qv5
 by_cases h:0≤v.order∧v.order<x.orders.length
 ·rw [QaO (by simp only [orF,QsA,QCz,lenI]; exact h),Qup h.1 h.2,Qaj,if_pos h.1,if_pos h.1,List.getElem?_eq_getElem (by omega)]
  generalize x.orders[v.order.toNat]'(by omega)=o
  cases hd:v.drop with
  | true =>
   rw [QjV]
   simp only [QG4 hd]
   by_cases hp:0≤o.drop.place
   ·rw [if_pos hp,show geI o.drop.place 0=true by simpa using hp]
   ·rw [if_neg hp,show geI o.drop.place 0=false by simpa using hp]
  | false =>
   rw [Qhg]
   simp only [QG3 hd]
   by_cases hp:0≤o.pick.place
   ·rw [if_pos hp,show geI o.pick.place 0=true by simpa using hp]
   ·rw [if_neg hp,show geI o.pick.place 0=false by simpa using hp]
 ·rw [QaY (by simp only [orT,Qsh,Qs7,lenI]; omega)]
  by_cases h0:0≤v.order
  ·rw [if_pos h0,if_pos h0,List.getElem?_eq_none (by omega)]; rfl
  ·rw [if_neg h0,if_neg h0]; rfl
theorem QAz {α:Type} {p:α→Bool} {l:List α} {k:Nat} {a:α} (ha:l[k]?=some a) (hp:p a=false):l.all p=false:=by
 rw [List.all_eq_false]
 exact ⟨a,List.mem_of_getElem? ha,by simp [hp]⟩
theorem QEc:Qdj x r=some (QuG x r):=by
 unfold Qdj
 rw [QHI]
 unfold QuG
 by_cases h:preR x r=true
 ·have h5:r.visits.length≤20:=(of_decide_eq_true h).2.2.2.2
  rw [h,Bool.not_true,Qhg,Bool.true_and]
  apply post.eq
  refine Qbc (R:=fun e:Unit⊕Bool=>(∃ u,e=.inl u∧(r.visits.all fun v=>(Qv5 x v).isSome)=true)∨(e=.inr false∧(r.visits.all fun v=>(Qv5 x v).isSome)=false)) ?_ ?_
  ·refine QrS (B:=fun s=>QbT x r s) r.visits.length _ (fun i=>∀ v,r.visits[i]?=some v→(Qv5 x v).isSome=true) (by omega) (fun i hi=>?_) ?_
   ·show post (QbT x r (i:Int)) _
    unfold QbT
    have e1:r.visits[i]?=some r.visits[i]:=List.getElem?_eq_getElem hi
    rw [QaY (by simp [lenI]; omega),QaX e1,Qaj,inc hi (by omega)]
    show post (bnd (Qef x r.visits[i]) _) _
    rw [Qwn,Qaj]
    cases hs:Qv5 x r.visits[i] with
    | some s=>exact QaH.2 (.inl ⟨rfl,fun v hv=>by rw [e1] at hv; cases hv; rw [hs]; rfl⟩)
    | none=>exact QaH.2 (.inr ⟨_,rfl,.inr ⟨rfl,QAz e1 (by rw [hs]; rfl)⟩⟩)
   ·show post (QbT x r (r.visits.length:Int)) _
    unfold QbT
    rw [QaO (by simp [lenI])]
    refine QaH.2 ⟨_,rfl,fun h=>.inl ⟨_,rfl,?_⟩⟩
    rw [List.all_eq_true]
    intro v hv
    obtain ⟨i,hi⟩:=List.getElem?_of_mem hv
    exact h i (List.getElem?_eq_some_iff.1 hi).1 v hi
  ·rintro e (⟨u,rfl,h⟩|⟨rfl,h⟩)
   ·rw [Qgh,h]; exact QaH.2 rfl
   ·rw [Qjn,h]; exact QaH.2 rfl
 ·have h':preR x r=false:=by simpa using h
  rw [h',Bool.not_false,QjV,Bool.false_and]
theorem QCm (h:preR x r=true):getI x.types r.type_=some (typS x r)∧typS x r∈x.types:=by
 have h5:=of_decide_eq_true h
 unfold typS
 rw [List.getD_eq_getElem?_getD,List.getElem?_eq_getElem (by omega),Qup h5.1 h5.2.1]
 exact ⟨rfl,List.getElem_mem _⟩
theorem QGq:QoO x r=some (if QuG x r=true then (Qaz.mk x (typS x r) r (QaB x r),true) else (QHw,false)):=by
 unfold QoO
 rw [QHI]
 unfold QuG
 by_cases h:preR x r=true
 ·have h5:r.visits.length≤20:=(of_decide_eq_true h).2.2.2.2
  rw [h,Bool.not_true,Qhg,Bool.true_and,(QCm h).1,Qaj]
  apply post.eq
  refine Qbc (R:=fun e:List Qaw⊕(Qaz×Bool)=>(e=.inl (QaB x r)∧(r.visits.all fun v=>(Qv5 x v).isSome)=true)∨(e=.inr (QHw,false)∧(r.visits.all fun v=>(Qv5 x v).isSome)=false)) ?_ ?_
  ·refine QeM (fun s=>∃ k:Nat,k≤r.visits.length∧s=((r.visits.take k).map (fun v=>(Qv5 x v).getD QCD),(k:Int))∧∀ i v,i<k→r.visits[i]?=some v→(Qv5 x v).isSome=true) (fun s=>r.visits.length-s.2.toNat) ⟨0,Nat.zero_le _,rfl,fun i v hi=>by omega⟩ (by simp; omega) ?_
   rintro _ ⟨k,hk,rfl,hS⟩
   show post (QiZ x r (typS x r) _ (k:Int)) _
   unfold QiZ
   refine Qa0 (fun hb=>?_) (fun hb=>QdT (.inl ⟨?_,?_⟩))
   ·simp only [Qsh,lenI] at hb
    have hk':k<r.visits.length:=by omega
    have e1:r.visits[k]?=some r.visits[k]:=List.getElem?_eq_getElem hk'
    rw [QaX e1,Qaj,Qxz,Qaj,inc hk' (by omega)]
    cases hs:Qv5 x r.visits[k] with
    | none =>
     simp only
     rw [QaY (by simp only [orT,Qzf]; left; split <;> omega)]
     exact QdT (.inr ⟨rfl,QAz e1 (by rw [hs]; rfl)⟩)
    | some s =>
     simp only
     have hp:0≤s.place:=by
      unfold Qv5 at hs
      split at hs
      ·cases hs
      ·split at hs
       ·rename_i h0; cases hs; exact h0
       ·cases hs
     rw [QaO (by simp only [orF,QFb,QsA]; exact ⟨trivial,hp⟩)]
     refine QbG (QeN (by simp; omega)) (Qhj ⟨⟨k+1,by omega,?_,fun i v hi hv=>?_⟩,by simp; omega⟩)
     ·rw [List.take_add_one,e1,List.map_append]
      simp [hs]
     ·rcases Nat.lt_or_ge i k with h|h
      ·exact hS i v h hv
      ·obtain rfl:i=k:=by omega
       rw [e1] at hv; cases hv; rw [hs]; rfl
   ·simp only [QsA,lenI] at hb
    rw [List.take_of_length_le (by omega)]; rfl
   ·simp only [QsA,lenI] at hb
    rw [List.all_eq_true]
    intro v hv
    obtain ⟨i,hi⟩:=List.getElem?_of_mem hv
    exact hS i v (by have:=(List.getElem?_eq_some_iff.1 hi).1; omega) hi
  ·rintro e (⟨rfl,h⟩|⟨rfl,h⟩)
   ·rw [Qgh,h]; exact QaH.2 rfl
   ·rw [Qjn,h]; exact QaH.2 rfl
 ·have h':preR x r=false:=by simpa using h
  rw [h',Bool.not_false,QjV,Bool.false_and]; rfl
theorem QpM (h:QuG x r=true):preR x r=true:=by unfold QuG at h; exact (andT.1 h).1
theorem QmT:(QaB x r).length=r.visits.length:=by simp [QaB]
theorem Qyv (h:QuG x r=true) {i:Nat} {s:Qaw} (hs:(QaB x r)[i]?=some s):∃ v,r.visits[i]?=some v∧Qv5 x v=some s:=by
 unfold QaB at hs
 rw [List.getElem?_map] at hs
 cases hv:r.visits[i]? with
 | none=>rw [hv] at hs; cases hs
 | some v =>
  rw [hv] at hs
  have h2:=List.all_eq_true.1 (andT.1 h).2 v (List.mem_of_getElem? hv)
  obtain ⟨s',hs'⟩:=Option.isSome_iff_exists.1 h2
  refine ⟨v,rfl,?_⟩
  simp only [Option.map_some,hs',Option.getD_some] at hs
  rw [← hs]; exact hs'
end
end Go.Proofs.YtpkkaboonnedfaaGreatDoor
namespace Go.Proofs.YtpkkaboonnedfaaGreatDoor
set_option linter.unusedSimpArgs false
set_option linter.unusedVariables false
set_option linter.unusedSectionVars false

theorem Qxm {n:Qam} (h:QEo n) {profile a b t:Int} (ht:inT t) (h0:(goN n profile a b t).2.2=0):t≤(goN n profile a b t).1∧(goN n profile a b t).1≤t+73728∧0≤(goN n profile a b t).2.1∧(goN n profile a b t).2.1≤10000:=by
 unfold goN at h0 ⊢
 split at h0
 ·rename_i h1
  rw [if_pos h1]
  split at h0
  ·rename_i h2
   rw [if_pos h2]; exact ⟨Int.le_refl _,by simp only; omega,by simp,by simp⟩
  ·rename_i h2
   rw [if_neg h2]
   split at h0
   ·rename_i h3
    rw [if_pos h3]
    have ha:=h.all _ (Qwy h3).1
    exact ⟨QFN ha t,QFO ha ht.1,ha.miles0,ha.miles1⟩
   ·simp at h0
 ·simp at h0
structure SOK (s:Qaw):Prop where
 open0:0≤s.open_
 open1:s.open_≤s.close
 close:s.close≤4096
 serv0:0≤s.service
 serv1:s.service≤4096
def endS (t:Qal):Qaw:=Qaw.mk t.to_ 0 t.close 0
section
variable (n : Qam) (t : Qal) (stops : List Qaw)
def QpE:Nat→Int
 | 0=>t.from_
 | k+1=>(stops.getD k QCD).place
def stopK (k:Nat):Qaw:=stops.getD k (endS t)
def QEa (ts:List Qar) (i:Nat) (dep:Int) (rest:Bool):List Qar:=match ts[i]? with
 | some m=>ts.set i (Qar.mk m.arrive m.begin dep rest)
 | none=>ts
def depS (l:Qaf) (rest:Bool):Int:=l.ready+(if rest=true then t.rest_ else 0)
def sinS (l:Qaf) (rest:Bool):Int:=if rest=true then 0 else l.since
def QpO (l:Qaf) (k:Nat) (dep:Int) (rest:Bool):List Qar:=if k=0 then l.sheet.times else QEa l.sheet.times (k-1) dep rest
def shS (l:Qaf) (k:Nat) (rest:Bool) (dep:Int) (g:Int×Int×Int):Qap :=
 Qap.mk (if k=0 then rest else l.sheet.rest_) (if k=0 then dep else l.sheet.depart)
  (if k<stops.length then QpO l k dep rest++[Qar.mk g.1 (max g.1 (stopK t stops k).open_) 0 false] else QpO l k dep rest)
  (if k<stops.length then l.sheet.end_ else g.1) (l.sheet.miles+g.2.1)
def nxtD (l:Qaf) (k:Nat) (rest:Bool) (dep sn:Int):Qaf×Int :=
 if (goN n t.profile (QpE t stops k) (stopK t stops k).place dep).2.2≠0 then (zLab,12)
 else if (stopK t stops k).close<(goN n t.profile (QpE t stops k) (stopK t stops k).place dep).1 then (zLab,if k<stops.length then 14 else 15)
 else if t.drive<sn+(goN n t.profile (QpE t stops k) (stopK t stops k).place dep).1-dep then (zLab,16)
 else (Qaf.mk (max (goN n t.profile (QpE t stops k) (stopK t stops k).place dep).1 (stopK t stops k).open_+(stopK t stops k).service) (sn+(goN n t.profile (QpE t stops k) (stopK t stops k).place dep).1-dep)
  (shS t stops l k rest dep (goN n t.profile (QpE t stops k) (stopK t stops k).place dep)),0)
def nxt (l:Qaf) (k:Nat) (rest:Bool):Qaf×Int:=nxtD n t stops l k rest (depS t l rest) (sinS l rest)
end
structure LabI (k:Nat) (l:Qaf):Prop where
 ready0:0≤l.ready
 ready1:l.ready≤8192
 since0:0≤l.since
 since1:l.since≤4096
 miles0:0≤l.sheet.miles
 miles1:l.sheet.miles≤10000*k
 times:l.sheet.times.length=k
structure QmZ (n:Qam) (t:Qal) (stops:List Qaw):Prop where
 net:QEo n
 opn:0≤t.open_∧t.open_≤t.close
 close:t.close≤4096
 drive:1≤t.drive∧t.drive≤4096
 rest:0≤t.rest_∧t.rest_≤4096
 few:stops.length≤20
 stops:∀ s∈stops,SOK s
theorem QDE {x:Qac} {r:Qad} (hx:QbW x) (h:QuG x r=true):QmZ x.net (typS x r) (QaB x r):=by
 have hT:=hx.typ _ (QCm (QpM h)).2
 refine ⟨hx.net,hT.opn,hT.close,hT.drive,hT.rest,by rw [QmT]; exact (of_decide_eq_true (QpM h)).2.2.2.2,fun s hs=>?_⟩
 obtain ⟨i,hi⟩:=List.getElem?_of_mem hs
 obtain ⟨v,_,hv⟩:=Qyv h hi
 have:=QFm hx hv
 exact ⟨this.2.2.1,this.2.2.2.1,this.2.2.2.2.1,this.2.2.2.2.2.1,this.2.2.2.2.2.2⟩
section
variable {n : Qam} {t : Qal} {stops : List Qaw} {l : Qaf} {k : Nat} {rest : Bool} {dep sn : Int}
theorem QmZ.stopK (h:QmZ n t stops) (k:Nat):SOK (stopK t stops k):=by
 unfold Go.Proofs.YtpkkaboonnedfaaGreatDoor.stopK
 rw [List.getD_eq_getElem?_getD]
 cases hs:stops[k]? with
 | some s=>exact h.stops s (List.mem_of_getElem? hs)
 | none=>exact ⟨Int.le_refl _,by have:=h.opn; show 0≤t.close; omega,h.close,Int.le_refl _,by show (0:Int)≤4096; omega⟩
theorem Qyu (h:k<stops.length):stops[k]?=some (stopK t stops k):=by
 unfold stopK; rw [List.getD_eq_getElem?_getD,List.getElem?_eq_getElem h]; rfl
theorem QrV (h:¬ k<stops.length):stopK t stops k=endS t:=by
 unfold stopK; rw [List.getD_eq_getElem?_getD,List.getElem?_eq_none (by omega)]; rfl
theorem QDq {ts:List Qar} {i:Nat}:(QEa ts i dep rest).length=ts.length:=by unfold QEa; split <;> simp
theorem QnQ:(QpO l k dep rest).length=l.sheet.times.length:=by unfold QpO; split; rfl; exact QDq
theorem QEw {ts:List Qar} (h:ts.length≤1000):QbB ts=some ts:=by
 unfold QbB
 rw [Qd6 (QeN (by omega))]
 cases ts with
 | nil=>exact QxV
 | cons a r=>rfl
theorem QHz {p:Qaz} (hp:p.t.drive≤4096) {rest1:Bool} {dep1:Int} {g:Int×Int×Int} {ts:List Qar} {ready fin:Int} (hd:0≤dep∧dep≤20000) (hs:0≤sn∧sn≤4096) (hg:dep≤g.1∧g.1≤dep+73728∧0≤g.2.1∧g.2.1≤10000)
  (hm:0≤l.sheet.miles∧l.sheet.miles≤1000000):Qe9 p l dep sn rest1 dep1 g ts ready fin=some (if p.t.drive<sn+g.1-dep then (zLab,16) else (Qaf.mk ready (sn+g.1-dep) (Qap.mk rest1 dep1 ts fin (l.sheet.miles+g.2.1)),0)):=by
 unfold Qe9
 simp (disch:=omega) only [addI,subI,QCU,QyZ]
 split <;> rfl
theorem QHy {p:Qaz} (h:QmZ p.x.net p.t p.stops) (hl:LabI k l) (hk:k≤p.stops.length) (hd:0≤dep∧dep≤20000) (hs:0≤sn∧sn≤4096):Qe7 p l k rest dep sn=some (nxtD p.x.net p.t p.stops l k rest dep sn):=by
 have hfew:=h.few
 have hlen:=hl.times
 have hm0:=hl.miles0
 have hm1:=hl.miles1
 have hin:inT dep:=⟨hd.1,by omega⟩
 have hSO:=h.stopK k
 -- J3,whatever is written into the sheet
 have h3:∀ (rest1:Bool) (dep1:Int) (ts:List Qar),ts.length=k →
   QdX p l k dep sn ts rest1 dep1 (stopK p.t p.stops k).place=some
    (if (goN p.x.net p.t.profile (QpE p.t p.stops k) (stopK p.t p.stops k).place dep).2.2≠0 then (zLab,12)
    else if (stopK p.t p.stops k).close<(goN p.x.net p.t.profile (QpE p.t p.stops k) (stopK p.t p.stops k).place dep).1 then (zLab,if k<p.stops.length then 14 else 15)
    else if p.t.drive<sn+(goN p.x.net p.t.profile (QpE p.t p.stops k) (stopK p.t p.stops k).place dep).1-dep then (zLab,16)
    else (Qaf.mk (max (goN p.x.net p.t.profile (QpE p.t p.stops k) (stopK p.t p.stops k).place dep).1 (stopK p.t p.stops k).open_+(stopK p.t p.stops k).service) (sn+(goN p.x.net p.t.profile (QpE p.t p.stops k) (stopK p.t p.stops k).place dep).1-dep)
     (Qap.mk rest1 dep1 (if k<p.stops.length then ts++[Qar.mk (goN p.x.net p.t.profile (QpE p.t p.stops k) (stopK p.t p.stops k).place dep).1 (max (goN p.x.net p.t.profile (QpE p.t p.stops k) (stopK p.t p.stops k).place dep).1 (stopK p.t p.stops k).open_) 0 false] else ts)
      (if k<p.stops.length then l.sheet.end_ else (goN p.x.net p.t.profile (QpE p.t p.stops k) (stopK p.t p.stops k).place dep).1) (l.sheet.miles+(goN p.x.net p.t.profile (QpE p.t p.stops k) (stopK p.t p.stops k).place dep).2.1)),0)):=by
  intro rest1 dep1 ts hts
  unfold QdX
  have hplace:Qgm p (k:Int)=some (QpE p.t p.stops k):=by
   unfold Qgm QpE
   cases k with
   | zero=>rfl
   | succ j =>
    have e1:p.stops[j]?=some (p.stops[j]'(by omega)):=List.getElem?_eq_getElem _
    rw [QaO (by simp; omega),show subK .i64 ((j+1:Nat):Int) 1=(j:Int) by rw [subI (by omega) (by omega)]; omega,QaX e1,Qaj]
    simp only [List.getD_eq_getElem?_getD,e1]; rfl
  show bnd (Qgm p (k:Int)) (fun r1=>bnd (Qpo p.x.net p.t.profile r1 (stopK p.t p.stops k).place dep) _)=_
  rw [hplace,Qaj,go_eq h.net _ _ _ hin,Qaj]
  generalize hg:goN p.x.net p.t.profile (QpE p.t p.stops k) (stopK p.t p.stops k).place dep=g
  have hbd:g.2.2=0→dep≤g.1∧g.1≤dep+73728∧0≤g.2.1∧g.2.1≤10000:=fun h0=>by
   have:=Qxm h.net (profile:=p.t.profile) (a:=QpE p.t p.stops k) (b:=(stopK p.t p.stops k).place) hin (by rw [hg]; exact h0)
   rwa [hg] at this
  by_cases h0:g.2.2=0
  ·rw [QaO (by simpa using h0),if_neg (by simpa using h0)]
   have hb:=hbd h0
   by_cases hkl:k<p.stops.length
   ·have e1:=Qyu (t:=p.t) hkl
    rw [QaO (by simp [lenI]; omega),QaX e1,Qaj]
    generalize stopK p.t p.stops k=s at *
    simp only [if_pos hkl]
    unfold QpR
    rw [Qxw]
    by_cases hw:s.close<g.1
    ·rw [QaY (by have:=hSO.open1; simp; omega),Qaj,QaY (by decide),if_pos hw]; rfl
    ·have:=hSO.open1; have:=hSO.close; have:=hSO.serv0; have:=hSO.serv1; have:=hSO.open0
     rw [QaO (by simp; omega),Qaj,QaO (by simp [neI]),Qd6 (QeN (by simp; omega)),if_neg hw,QHz (by have:=h.drive; omega) hd hs hb ⟨hm0,by omega⟩]
     rw [addI (by omega) (by omega)]
   ·have e1:=QrV (t:=p.t) hkl
    rw [e1] at hSO hg ⊢
    rw [QaY (by simp [lenI]; omega)]
    simp only [if_neg hkl]
    by_cases hw:p.t.close<g.1
    ·rw [QaY (by simpa using hw),if_pos (show (endS p.t).close<g.1 from hw)]; rfl
    ·rw [QaO (by simpa using hw),if_neg (show ¬ (endS p.t).close<g.1 from hw),QHz (by have:=h.drive; omega) hd hs hb ⟨hm0,by omega⟩]
     have e2:max g.1 (endS p.t).open_+(endS p.t).service=g.1:=by show max g.1 0+0=g.1; omega
     rw [e2]
  ·rw [QaY (by simpa using h0),if_pos h0]; rfl
 have h2:∀ (rest1:Bool) (dep1:Int) (ts:List Qar),ts.length=k →
   Qe8 p l k dep sn ts rest1 dep1=QdX p l k dep sn ts rest1 dep1 (stopK p.t p.stops k).place:=by
  intro rest1 dep1 ts hts
  unfold Qe8
  by_cases hkl:k<p.stops.length
  ·rw [QaO (by simp [lenI]; omega),QaX (Qyu (t:=p.t) hkl),Qaj]
  ·rw [QaY (by simp [lenI]; omega),QrV hkl]; rfl
 unfold Qe7
 rw [QEw (by omega),Qaj]
 unfold nxtD shS
 cases k with
 | zero =>
  rw [QaY (by simp),h2 _ _ _ hlen,h3 _ _ _ hlen]
  rfl
 | succ j =>
  have e1:l.sheet.times[j]?=some (l.sheet.times[j]'(by omega)):=List.getElem?_eq_getElem _
  have hs1:subK .i64 ((j+1:Nat):Int) 1=(j:Int):=by rw [subI (by omega) (by omega)]; omega
  rw [QaO (by simp; omega),hs1,QaX e1,Qaj,h2 _ _ _ (by simp [setI]; exact hlen),h3 _ _ _ (by simp [setI]; exact hlen)]
  have e2:setI (setI l.sheet.times (j:Int) (Qar.mk (l.sheet.times[j]'(by omega)).arrive (l.sheet.times[j]'(by omega)).begin (l.sheet.times[j]'(by omega)).depart rest)) (j:Int) (Qar.mk (l.sheet.times[j]'(by omega)).arrive (l.sheet.times[j]'(by omega)).begin dep rest)=QpO l (j+1) dep rest:=by
   unfold QpO QEa setI
   rw [if_neg (by omega),Nat.add_sub_cancel,e1,Int.toNat_natCast,List.set_set]
  rw [e2]
  rfl
theorem QD8 {p:Qaz} (h:QmZ p.x.net p.t p.stops) (hl:LabI k l) (hk:k≤p.stops.length):Qe2 p l k rest=some (nxt p.x.net p.t p.stops l k rest):=by
 have h1:=hl.ready0; have h2:=hl.ready1; have h3:=h.rest; have h4:=hl.since0; have h5:=hl.since1
 unfold Qe2 nxt depS sinS
 cases rest with
 | true =>
  rw [QjV,addI (by omega) (by omega),QHy h hl hk ⟨by omega,by omega⟩ ⟨by omega,by omega⟩]; rfl
 | false =>
  rw [Qhg,QHy h hl hk ⟨by omega,by omega⟩ ⟨by omega,by omega⟩]
  simp
theorem QvY (h:QmZ n t stops) (hl:LabI k l) (h0:(nxt n t stops l k rest).2=0) :
  (goN n t.profile (QpE t stops k) (stopK t stops k).place (depS t l rest)).2.2=0∧(goN n t.profile (QpE t stops k) (stopK t stops k).place (depS t l rest)).1≤(stopK t stops k).close ∧
  sinS l rest+(goN n t.profile (QpE t stops k) (stopK t stops k).place (depS t l rest)).1-depS t l rest≤t.drive ∧
  (nxt n t stops l k rest).1=Qaf.mk (max (goN n t.profile (QpE t stops k) (stopK t stops k).place (depS t l rest)).1 (stopK t stops k).open_+(stopK t stops k).service) (sinS l rest+(goN n t.profile (QpE t stops k) (stopK t stops k).place (depS t l rest)).1-depS t l rest)
   (shS t stops l k rest (depS t l rest) (goN n t.profile (QpE t stops k) (stopK t stops k).place (depS t l rest))):=by
 unfold nxt nxtD at h0 ⊢
 split at h0
 ·simp at h0
 ·rename_i h1
  split at h0
  ·simp only at h0; split at h0 <;> simp at h0
  ·rename_i h2
   split at h0
   ·simp at h0
   ·rename_i h3
    rw [if_neg h1,if_neg h2,if_neg h3]
    exact ⟨by simpa using h1,by omega,by omega,rfl⟩
theorem Qx0 (h:QmZ n t stops) (hl:LabI k l):inT (depS t l rest):=by
 have h1:=hl.ready0; have h2:=hl.ready1; have h3:=h.rest
 unfold depS inT
 split <;> omega
theorem Qxy (h:QmZ n t stops) (hl:LabI k l) (hk:k<stops.length) (h0:(nxt n t stops l k rest).2=0):LabI (k+1) (nxt n t stops l k rest).1:=by
 obtain ⟨g0,g1,g2,g3⟩:=QvY h hl h0
 have hin:=Qx0 (rest:=rest) h hl
 have hb:=Qxm h.net hin g0
 have hS:=h.stopK k
 have:=hS.open0; have:=hS.open1; have:=hS.close; have:=hS.serv0; have:=hS.serv1
 have hd:=h.drive
 have hm0:=hl.miles0; have hm1:=hl.miles1
 have hsn:0≤sinS l rest:=by unfold sinS; split; omega; exact hl.since0
 unfold inT at hin
 rw [g3]
 refine ⟨by simp only; omega,by simp only; omega,by simp only; omega,by simp only; omega,?_,?_,?_⟩
 ·show 0≤l.sheet.miles+_; omega
 ·show l.sheet.miles+_≤_; rw [Int.natCast_add,Int.mul_add]; omega
 ·show (if k<stops.length then _ else _:List Qar).length=_
  rw [if_pos hk,List.length_append,QnQ,hl.times]; rfl
end
end Go.Proofs.YtpkkaboonnedfaaGreatDoor
