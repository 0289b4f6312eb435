/- Part MP of the proof: texts Kqa Kqb Kqc Kqd Kqe Kqf Kqg Kqi Kqj Kqk Kql. -/
import Derived.Test.YtbilkblifgaflaaGreatDoorMT
import Derived.KernelRfl
namespace Go.Proofs.YtbilkblifgaflaaGreatDoor
set_option linter.unusedSimpArgs false
set_option linter.unusedVariables false
set_option linter.unusedSectionVars false

section
variable {α : Type}
theorem QBl {B : List α × Int → Option ((List α × Int) ⊕ (List α))} (n c : Nat) (P : Nat → Prop) (init : List α) (hn : n < 18446744073709551615)
    (step : ∀ (i : Nat) (out : List α), i < n → out.length ≤ init.length + c * i → post (B (out, (i : Int))) fun x => ∃ new, x = .inl (out ++ new, (i : Int) + 1) ∧ new.length ≤ c ∧ (new = [] ↔ P i))
    (fin : ∀ out, B (out, (n : Int)) = some (.inr out)) : post (QaX B (init, 0)) fun r => r.length ≤ init.length + c * n ∧ (r = [] ↔ init = [] ∧ ∀ i, i < n → P i) := by
  refine Qfw (fun s => ∃ i : Nat, s.2 = (i : Int) ∧ i ≤ n ∧ s.1.length ≤ init.length + c * i ∧ (s.1 = [] ↔ init = [] ∧ ∀ k, k < i → P k)) (fun s => n - s.2.toNat)
    ⟨0, rfl, Nat.zero_le _, by simp, by simp⟩ (by simp; omega) ?_
  rintro ⟨out, j⟩ ⟨i, hj, hi, hl, he⟩
  simp only at hj hl he
  subst hj
  by_cases h : i < n
  · refine (step i out h hl).mono ?_
    rintro x ⟨new, rfl, h1, h2⟩
    refine ⟨fun s' hs => ?_, fun _ h => by cases h⟩
    cases hs
    refine ⟨⟨i + 1, by simp, by omega, by simp [Nat.mul_add]; omega, ?_⟩, by simp; omega⟩
    simp only [List.append_eq_nil_iff, he, h2]
    constructor
    · rintro ⟨⟨h3, h4⟩, h5⟩
      exact ⟨h3, fun k hk => by rcases Nat.lt_or_ge k i with h | h; exact h4 k h; obtain rfl : k = i := by omega
                                exact h5⟩
    · rintro ⟨h3, h4⟩
      exact ⟨⟨h3, fun k hk => h4 k (by omega)⟩, h4 i (by omega)⟩
  · obtain rfl : i = n := by omega
    rw [fin]
    exact Qfm ⟨hl, he⟩
end
theorem QcW {n b:Nat} (h:n*b≤140737488355328):okN n b:=h
theorem orT {a b:Bool}:(a||b)=true↔a=true∨b=true:=Bool.or_eq_true_iff ..
theorem orF {a b:Bool}:(a||b)=false↔a=false∧b=false:=Bool.or_eq_false_iff
theorem andT {a b:Bool}:(a&&b)=true↔a=true∧b=true:=Bool.and_eq_true_iff
theorem andF {a b:Bool}:(a&&b)=false↔a=false∨b=false:=Bool.and_eq_false_iff
theorem ntT {a:Bool}:(!a)=true↔a=false:=by cases a <;> simp
theorem ntF {a:Bool}:(!a)=false↔a=true:=by cases a <;> simp

theorem Qns (l:List Int):(QtQ l).size=l.length:=by simp [QtQ,ByteArray.size]
theorem QDb (a:Int):(a.tdiv 10).natAbs=a.natAbs / 10:=by rw [Int.natAbs_tdiv]; rfl
theorem QIk {a:Int} (h:a.natAbs≤9223372036854775808):quoK .i64 a 10=a.tdiv 10:=by
 have:=QDb a
 exact quoI (by omega) (by omega)
def QEK (n:Int):Prop:=-9223372036854775808≤n∧n≤9223372036854775807
theorem QAi {n left d:Int} {s:ByteArray} {k:Nat} (hl:left.natAbs≤9223372036854775808) (h1:left.natAbs<10 ^ k) (h2:s.size+k≤20) (hk:1≤k) :
  post (Qex n s left d) fun x=>(∀ s',x=.inl s'→(∃ k:Nat,s'.2.1.natAbs≤9223372036854775808∧s'.2.1.natAbs<10 ^ k∧s'.1.size+k≤20∧(s'.2.2=true→1≤k∧s'.2.1≠0))∧s'.2.1.natAbs+(if s'.2.2 then 1 else 0)<left.natAbs+1)∧∀ e,x=.inr e→e.size≤20:=by
 unfold Qex
 have hq:=QIk hl
 have ha:=QDb left
 refine QbP (by rw [Qns]; simp; omega) (Qic ?_)
 simp only [hq]
 obtain ⟨k,rfl⟩:∃ j,k=j+1:=⟨k-1,by omega⟩
 have hs:(catS (QtQ [cvK IntKind.u8 (addK IntKind.i64 48 d)]) s).size=1+s.size:=by unfold catS; rw [ByteArray.size_append,Qns]; rfl
 refine ⟨⟨k,by omega,by rw [ha]; rw [Nat.pow_succ] at h1; omega,by rw [hs]; omega,fun h=>?_⟩,?_⟩
 ·simp only [QFL] at h
  refine ⟨?_,h⟩
  rcases Nat.eq_zero_or_pos k with rfl|h'
  ·exfalso; apply h; have:(left.tdiv 10).natAbs=0:=by rw [ha]; simp at h1; omega
   omega
  ·exact h'
 ·cases hb:neI (left.tdiv 10) 0 with
  | true =>
   simp only [QFL] at hb
   simp only [if_true]
   have:(left.tdiv 10).natAbs≠0:=by omega
   omega
  | false=>simp only [Bool.false_eq_true,if_false]; omega
theorem QkO (n:Int) (hn:QEK n):post (Qa8 n) fun s=>s.size≤21:=by
 unfold QEK at hn
 refine Qbk (R:=fun s=>s.size≤20) ?_ fun s hs=>?_
 ·refine Qfw (fun s=>∃ k:Nat,s.2.1.natAbs≤9223372036854775808∧s.2.1.natAbs<10 ^ k∧s.1.size+k≤20∧(s.2.2=true→1≤k∧(s.2.1=0→True))) (fun s=>s.2.1.natAbs+(if s.2.2 then 1 else 0)) ⟨19,by simp only; omega,by simp only; omega,by simp [ByteArray.size_empty],by simp⟩ (by simp only; split <;> omega) ?_
  rintro ⟨s,left,again⟩ ⟨k,h0,h1,h2,h3⟩
  simp only at h0 h1 h2 h3
  cases again with
  | false=>exact Qfm (show s.size≤20 by omega)
  | true =>
   refine post.mono (Q:=fun x=>(∀ s',x=.inl s'→(∃ k:Nat,s'.2.1.natAbs≤9223372036854775808∧s'.2.1.natAbs<10 ^ k∧s'.1.size+k≤20∧(s'.2.2=true→1≤k∧s'.2.1≠0))∧s'.2.1.natAbs+(if s'.2.2 then 1 else 0)<left.natAbs+1)∧∀ e,x=.inr e→e.size≤20) ?_ ?_
   ·show post (br true (br (ltI (remK left 10) 0) _ _) _) _
    rw [QdY]
    exact Qa2 (fun _=>QAi h0 h1 h2 (h3 rfl).1) (fun _=>QAi h0 h1 h2 (h3 rfl).1)
   ·rintro x ⟨g1,g2⟩
    refine ⟨fun s' hs=>?_,g2⟩
    obtain ⟨⟨k',q1,q2,q3,q4⟩,q5⟩:=g1 s' hs
    exact ⟨⟨k',q1,q2,q3,fun h=>⟨(q4 h).1,fun _=>trivial⟩⟩,q5⟩
 ·refine Qa2 (fun _=>QbP ?_ (QaY.2 ?_)) (fun _=>QaY.2 (by omega))
  ·show 1+s.size≤_; omega
  ·unfold catS; rw [ByteArray.size_append]; show 1+s.size≤_; omega
theorem QxY {k:Nat} (h:k<4294967296):QEK (k:Int):=by unfold QEK; omega

abbrev Pt:=Qal
def okA (p:Pt):Prop:=0≤p.t∧p.t≤4096∧p.t≤p.a∧p.a≤p.t+4096
def okP (l:List Pt) (i:Nat):Prop:=∀ p,l[i]?=some p→okA p∧(0<i→∀ q,l[i-1]?=some q→q.t<p.t∧q.a≤p.a)
structure Qww (l:List Pt):Prop where
 pos:1≤l.length
 most:l.length≤16
 all:∀ i,i<l.length→okP l i
def ptI (p:Pt):Prop:=QEK p.t∧QEK p.a
theorem QCW {l:List Pt} {i:Nat} {x0:Pt} {out new:List Qaa} (hx:l[i]?=some x0) (hi:i<2000000) (hlen:l.length<2000000) (ho:out.length≤1+2*i) (hn:new.length≤1) (hw:new=[]↔okA x0) :
  post (Qdy l (i:Int) x0 (out++new)) fun x=>∃ new,x=.inl (out++new,(i:Int)+1)∧new.length≤2∧(new=[]↔okP l i):=by
 have hadd:addK .i64 (i:Int) 1=(i:Int)+1:=addI (by omega) (by omega)
 unfold Qdy
 have hokN:∀ f:Qaa,okN (out++new++[f]).length 24:=fun f=>QcW (by simp; omega)
 have leafY:(0<i→∀ q,l[i-1]?=some q→q.t<x0.t∧q.a≤x0.a)→post (some (Sum.inl (out++new,addK .i64 (i:Int) 1):(List Qaa×Int)⊕List Qaa)) fun x=>∃ new,x=.inl (out++new,(i:Int)+1)∧new.length≤2∧(new=[]↔okP l i):=by
  intro hq
  rw [hadd]
  refine ⟨_,rfl,new,rfl,by omega,?_⟩
  rw [hw]
  exact ⟨fun h p hp=>by rw [hx] at hp; cases hp; exact ⟨h,hq⟩,fun h=>(h x0 hx).1⟩
 have leafN:∀ r:ByteArray,(∃ q,0<i∧l[i-1]?=some q∧¬ (q.t<x0.t∧q.a≤x0.a))→post (chk (okN (out++new++[Qaa.mk 13 r]).length 24) (some (Sum.inl (out++new++[Qaa.mk 13 r],addK .i64 (i:Int) 1):(List Qaa×Int)⊕List Qaa))) fun x=>∃ new,x=.inl (out++new,(i:Int)+1)∧new.length≤2∧(new=[]↔okP l i):=by
  rintro r ⟨q,h0,h1,h2⟩
  refine QbP (hokN _) ?_
  rw [hadd]
  refine ⟨_,rfl,new++[_],by rw [List.append_assoc],by simp; omega,?_⟩
  constructor
  ·intro h; simp at h
  ·intro h; exact absurd ((h x0 hx).2 h0 q h1) h2
 refine Qa2 (fun h=>?_) (fun h=>leafY fun h0=>by simp at h; omega)
 simp only [Qxs] at h
 have h1:subK .i64 (i:Int) 1=((i-1:Nat):Int):=by rw [subI (by omega) (by omega)]; omega
 have hx1:l[i-1]?=some (l[i-1]'(by have:=(List.getElem?_eq_some_iff.1 hx).1; omega)):=List.getElem?_eq_getElem _
 rw [h1,QaZ hx1,Qan]
 have hd:=QkO (i:Int) (QxY (by omega))
 refine Qa2 (fun h2=>Qbk hd fun r _=>leafN r ⟨_,by omega,hx1,fun hh=>?_⟩) (fun h2=>Qa2 (fun h3=>Qbk hd fun r _=>leafN r ⟨_,by omega,hx1,fun hh=>?_⟩) (fun h3=>leafY fun _ q hq=>?_))
 ·simp only [QzK] at h2; omega
 ·simp only [Qou] at h3; omega
 ·rw [hx1] at hq; cases hq
  simp only [QD1] at h2
  simp only [Qtb] at h3
  omega
theorem QIf {x0:Pt} (hI:ptI x0):((((ltI x0.t 0)||(gtI x0.t 4096))||(ltI x0.a x0.t))||(gtI x0.a (addK .i64 x0.t 4096)))=false↔okA x0:=by
 obtain ⟨h1,h2⟩:=hI
 unfold QEK at h1 h2
 simp only [orF,Qtb,Qu6]
 unfold okA
 constructor
 ·rintro ⟨⟨⟨a,b⟩,c⟩,d⟩
  rw [addI (by omega) (by omega)] at d
  omega
 ·rintro ⟨a,b,c,d⟩
  rw [addI (by omega) (by omega)]
  omega
theorem Qoa {l:List Pt} (hlen:l.length≤1048576) (hI:∀ p∈l,ptI p):post (Qcw l) fun r=>r.length≤1+2*l.length∧(r=[]↔Qww l):=by
 have main:∀ init:List Qaa,init.length≤1→post (Qeg l init) fun r=>r.length≤init.length+2*l.length∧(r=[]↔init=[]∧∀ i,i<l.length→okP l i):=by
  intro init hin
  refine Qbk ?_ fun a h=>QaY.2 h
  refine QBl l.length 2 (okP l) init (by omega) (fun i out hi ho=>?_) (fun out=>?_)
  ·have hx:=QHL hi
   have hx':l[i]?=some l[i]:=List.getElem?_eq_getElem hi
   show post (Qcx l out (i:Int)) _
   unfold Qcx
   rw [Qbp (by simp [lenI]; exact hi),hx,Qan]
   have hp:=hI l[i] (List.getElem_mem hi)
   refine Qa2 (fun h=>Qbk (QkO (i:Int) (QxY (by omega))) fun r _=>QbP (QcW (by simp; omega)) (QCW (new:=[_]) hx' (by omega) (by omega) (by omega) (by simp) (Iff.intro (fun h=>by cases h) (fun h'=>?_)))) (fun h=>?_)
   ·rw [(QIf hp).2 h'] at h; cases h
   ·have:=QCW (out:=out) (new:=[]) hx' (by omega) (by omega) (by omega) (by simp) ⟨fun _=>(QIf hp).1 h,fun _=>rfl⟩
    rwa [List.append_nil] at this
  ·unfold Qcx
   rw [Qby (by simp [lenI])]
 unfold Qcw
 refine Qa2 (fun h=>QbP (QcW (by simp)) ((main _ (by simp)).mono ?_)) (fun h=>(main _ (by simp)).mono ?_)
 ·rintro r ⟨h1,h2⟩
  refine ⟨by simpa using h1,?_⟩
  rw [h2]
  simp only [orT,Qou,Qxs,lenI] at h
  exact ⟨fun h=>by (cases h.1),fun h'=>by have:=h'.pos; have:=h'.most; omega⟩
 ·rintro r ⟨h1,h2⟩
  refine ⟨by simp at h1 ⊢; omega,?_⟩
  rw [h2]
  simp only [orF,Qtb,Qu6,lenI] at h
  exact ⟨fun h'=>⟨by omega,by omega,h'.2⟩,fun h'=>⟨rfl,h'.all⟩⟩
end Go.Proofs.YtbilkblifgaflaaGreatDoor
namespace Go.Proofs.YtbilkblifgaflaaGreatDoor
set_option linter.unusedSimpArgs false
set_option linter.unusedVariables false
set_option linter.unusedSectionVars false

def seg (p q:Pt) (t:Int):Int:=p.a+((t-p.t)*(q.a-p.a)+(q.t-p.t)-1) / (q.t-p.t)
def arrL:List Pt→Int→Int
 | [],_=>0
 | [p],t=>t+p.a-p.t
 | p :: q :: r,t=>if t<q.t then (if t<p.t then t+p.a-p.t else seg p q t) else arrL (q :: r) t
def Srt:List Pt→Prop
 | []=>True
 | [p]=>okA p
 | p :: q :: r=>okA p∧p.t<q.t∧p.a≤q.a∧Srt (q :: r)
theorem QG7:∀ {l:List Pt},(∀ i,i<l.length→okP l i)→Srt l
 | [],_=>trivial
 | [p],h=>(h 0 (by simp) p rfl).1
 | p :: q :: r,h=>by
  have h0:=h 0 (by simp) p rfl
  have h1:=(h 1 (by simp) q rfl).2 (by omega) p rfl
  refine ⟨h0.1,h1.1,h1.2,QG7 fun i hi x hx=>?_⟩
  have h2:=h (i+1) (by simpa using hi) x hx
  refine ⟨h2.1,fun h3 y hy=>h2.2 (by omega) y ?_⟩
  obtain ⟨j,rfl⟩:∃ j,i=j+1:=⟨i-1,by omega⟩
  exact hy
theorem Qww.srt {l:List Pt} (h:Qww l):Srt l:=QG7 h.all
theorem Srt.okA_at:∀ {l:List Pt},Srt l→∀ {i:Nat} {p:Pt},l[i]?=some p→okA p
 | [],_,_,_,h=>by simp at h
 | [p],h,0,x,hx=>by cases hx; exact h
 | [p],h,i+1,x,hx=>by simp at hx
 | p :: q :: r,h,0,x,hx=>by cases hx; exact h.1
 | p :: q :: r,h,i+1,x,hx=>Srt.okA_at (l:=q :: r) h.2.2.2 hx
theorem Srt.pair:∀ {l:List Pt},Srt l→∀ {i:Nat} {p q:Pt},l[i]?=some p→l[i+1]?=some q→p.t<q.t∧p.a≤q.a
 | [],_,_,_,_,h,_=>by simp at h
 | [p],h,i,x,y,_,hy=>by simp at hy
 | p :: q :: r,h,0,x,y,hx,hy=>by cases hx; cases hy; exact ⟨h.2.1,h.2.2.1⟩
 | p :: q :: r,h,i+1,x,y,hx,hy=>Srt.pair (l:=q :: r) h.2.2.2 hx hy
theorem Srt.lt {l:List Pt} (h:Srt l) {i:Nat}:∀ {j:Nat},i<j→∀ {p q:Pt},l[i]?=some p→l[j]?=some q→p.t<q.t
 | j+1,hij,p,q,hp,hq=>by
  rcases Nat.lt_or_ge i j with h'|h'
  ·have hj:l[j]?=some (l[j]'(by have:=(List.getElem?_eq_some_iff.1 hq).1; omega)):=List.getElem?_eq_getElem _
   have:=h.lt h' hp hj
   have:=(h.pair hj hq).1
   omega
  ·obtain rfl:i=j:=by omega
   exact (h.pair hp hq).1
theorem QzZ {p q:Pt} (h:p.t<q.t):seg p q p.t=p.a:=by
 unfold seg
 rw [Int.sub_self,Int.zero_mul,Int.ediv_eq_zero_of_lt (by omega) (by omega)]; omega
theorem QyG {p q:Pt} (h:p.t<q.t):seg p q q.t=q.a:=by
 unfold seg
 rw [show (q.t-p.t)*(q.a-p.a)+(q.t-p.t)-1=(q.t-p.t-1)+(q.t-p.t)*(q.a-p.a) by omega,Int.add_mul_ediv_left _ _ (by omega),Int.ediv_eq_zero_of_lt (by omega) (by omega)]; omega
theorem Qx7 {p:Pt} {r:List Pt} (h:Srt (p :: r)):arrL (p :: r) p.t=p.a:=by
 cases r with
 | nil=>simp only [arrL]; omega
 | cons q r=>simp only [arrL]; rw [if_pos h.2.1,if_neg (by omega),QzZ h.2.1]
theorem QBP {p:Pt} {r:List Pt} (h:Srt (p :: r)) {t:Int} (ht:t≤p.t):arrL (p :: r) t=t+p.a-p.t:=by
 by_cases he:t=p.t
 ·subst he; rw [Qx7 h]; omega
 ·cases r with
  | nil=>rfl
  | cons q r=>simp only [arrL]; have:=h.2.1; rw [if_pos (by omega),if_pos (by omega)]
theorem Qwk:∀ {l:List Pt},Srt l→∀ {p:Pt},l[l.length-1]?=some p→∀ {t:Int},p.t≤t→arrL l t=t+p.a-p.t
 | [],_,_,hp,_,_=>by simp at hp
 | [x],_,p,hp,t,_=>by cases hp; rfl
 | x :: y :: r,h,p,hp,t,ht=>by
  have hp':(y :: r)[(y :: r).length-1]?=some p:=by simpa using hp
  have:y.t≤t:=by
   rcases Nat.eq_zero_or_pos r.length with h0|h0
   ·have:r=[]:=List.length_eq_zero_iff.1 h0
    subst this; cases hp'; exact ht
   ·have:=h.2.2.2.lt (i:=0) (j:=(y :: r).length-1) (by simp; omega) rfl hp'
    omega
  simp only [arrL]
  rw [if_neg (by omega)]
  exact Qwk h.2.2.2 hp' ht
theorem Qx8:∀ {l:List Pt},Srt l→∀ {j:Nat} {p q:Pt},l[j]?=some p→l[j+1]?=some q→∀ {t:Int},p.t≤t→t≤q.t→arrL l t=seg p q t
 | [],_,_,_,_,hp,_,_,_,_=>by simp at hp
 | [x],_,_,_,_,_,hq,_,_,_=>by simp at hq
 | x :: y :: r,h,0,p,q,hp,hq,t,h1,h2=>by
  cases hp; cases hq
  simp only [arrL]
  by_cases he:t<y.t
  ·rw [if_pos he,if_neg (by omega)]
  ·obtain rfl:t=y.t:=by omega
   rw [if_neg he,Qx7 h.2.2.2,QyG h.2.1]
 | x :: y :: r,h,j+1,p,q,hp,hq,t,h1,h2=>by
  have:y.t≤p.t:=by
   rcases Nat.eq_zero_or_pos j with rfl|h0
   ·cases hp; omega
   ·have:=h.2.2.2.lt (i:=0) (j:=j) h0 rfl hp; omega
  simp only [arrL]
  rw [if_neg (by omega)]
  exact Qx8 (l:=y :: r) h.2.2.2 hp hq h1 h2
theorem QyF {p q:Pt} (h1:p.t<q.t) (h2:p.a≤q.a) {t t':Int} (h:t≤t'):seg p q t≤seg p q t':=by
 unfold seg
 have:=Int.mul_le_mul_of_nonneg_right (show t-p.t≤t'-p.t by omega) (show 0≤q.a-p.a by omega)
 have:=Int.ediv_le_ediv (show 0<q.t-p.t by omega) (show (t-p.t)*(q.a-p.a)+(q.t-p.t)-1≤(t'-p.t)*(q.a-p.a)+(q.t-p.t)-1 by omega)
 omega
theorem QAd:∀ {l:List Pt},Srt l→∀ {t t':Int},t≤t'→arrL l t≤arrL l t'
 | [],_,_,_,_=>Int.le_refl _
 | [p],_,t,t',h=>by simp only [arrL]; omega
 | p :: q :: r,h,t,t',ht=>by
  have ih:=fun {a b:Int} (hab:a≤b)=>QAd h.2.2.2 hab
  have hq:=Qx7 h.2.2.2
  have hh:=h.2.1
  simp only [arrL]
  by_cases h1:t<q.t
  ·rw [if_pos h1]
   have hs:∀ x:Int,p.t≤x→p.a≤seg p q x:=fun x hx=>by have:=QyF h.2.1 h.2.2.1 hx; rwa [QzZ h.2.1] at this
   by_cases h2:t'<q.t
   ·rw [if_pos h2]
    by_cases h3:t<p.t
    ·rw [if_pos h3]
     by_cases h4:t'<p.t
     ·rw [if_pos h4]; omega
     ·rw [if_neg h4]; have:=hs t' (by omega); omega
    ·rw [if_neg h3,if_neg (by omega)]
     exact QyF h.2.1 h.2.2.1 ht
   ·rw [if_neg h2]
    have h5:=ih (show q.t≤t' by omega)
    by_cases h3:t<p.t
    ·rw [if_pos h3]; have:=h.2.2.1; omega
    ·rw [if_neg h3]
     have:=QyF h.2.1 h.2.2.1 (show t≤q.t by omega)
     rw [QyG h.2.1] at this; omega
  ·rw [if_neg h1,if_neg (by omega)]
   exact ih ht
theorem QH2 {p q:Pt} (hp:p.t≤p.a) (hq:q.t≤q.a) (h1:p.t<q.t) {t:Int} (h:p.t≤t) (h':t≤q.t):t≤seg p q t:=by
 unfold seg
 have key:(t-p.a)*(q.t-p.t)≤(t-p.t)*(q.a-p.a):=by
  have e1:0≤(t-p.t)*(q.a-q.t):=Int.mul_nonneg (by omega) (by omega)
  have e2:0≤(q.t-t)*(p.a-p.t):=Int.mul_nonneg (by omega) (by omega)
  have e3:(t-p.t)*(q.a-p.a)-(t-p.a)*(q.t-p.t)=(t-p.t)*(q.a-q.t)+(q.t-t)*(p.a-p.t):=by
   simp only [Int.sub_mul,Int.mul_sub,Int.mul_comm]
   omega
  omega
 have:=(Int.le_ediv_iff_mul_le (show 0<q.t-p.t by omega)).2 (show (t-p.a)*(q.t-p.t)≤(t-p.t)*(q.a-p.a)+(q.t-p.t)-1 by omega)
 omega
theorem QAb:∀ {l:List Pt},Srt l→l≠[]→∀ (t:Int),t≤arrL l t
 | [],_,h,_=>absurd rfl h
 | [p],h,_,t=>by simp only [arrL]; have:=h.2.2.1; omega
 | p :: q :: r,h,_,t=>by
  have hq:okA q:=h.2.2.2.okA_at (i:=0) rfl
  have h1:=h.1.2.2.1
  simp only [arrL]
  by_cases h3:t<q.t
  ·rw [if_pos h3]
   by_cases h4:t<p.t
   ·rw [if_pos h4]; omega
   ·rw [if_neg h4]; exact QH2 h1 hq.2.2.1 h.2.1 (by omega) (by omega)
  ·rw [if_neg h3]; exact QAb h.2.2.2 (by simp) t
theorem QAc:∀ {l:List Pt},Srt l→∀ {t:Int},0≤t→arrL l t≤t+8192
 | [],_,t,h=>by simp only [arrL]; omega
 | [p],h,t,_=>by simp only [arrL]; have:=h.2.2.2; omega
 | p :: q :: r,h,t,h0=>by
  have hq:okA q:=h.2.2.2.okA_at (i:=0) rfl
  have h1:=h.1.2.2.2
  simp only [arrL]
  by_cases h3:t<q.t
  ·rw [if_pos h3]
   by_cases h4:t<p.t
   ·rw [if_pos h4]; omega
   ·rw [if_neg h4]
    have:=QyF h.2.1 h.2.2.1 (show t≤q.t by omega)
    rw [QyG h.2.1] at this
    have:=hq.2.2.2; have:=hq.2.1; omega
  ·rw [if_neg h3]; exact QAc h.2.2.2 h0
end Go.Proofs.YtbilkblifgaflaaGreatDoor
namespace Go.Proofs.YtbilkblifgaflaaGreatDoor
set_option linter.unusedSimpArgs false
set_option linter.unusedVariables false
set_option linter.unusedSectionVars false

def inT (t:Int):Prop:=0≤t∧t≤1073741824
theorem QEZ {p q:Pt} (h1:okA p) (h2:okA q) (h:p.t<q.t) (h':p.a≤q.a) {t:Int} (a:p.t≤t) (b:t≤q.t) :
  0≤(t-p.t)*(q.a-p.a)∧(t-p.t)*(q.a-p.a)≤33554432∧0≤((t-p.t)*(q.a-p.a)+(q.t-p.t)-1) / (q.t-p.t)∧((t-p.t)*(q.a-p.a)+(q.t-p.t)-1) / (q.t-p.t)≤33558528:=by
 unfold okA at h1 h2
 have e1:0≤(t-p.t)*(q.a-p.a):=Int.mul_nonneg (by omega) (by omega)
 have e2:(t-p.t)*(q.a-p.a)≤4096*8192:=Int.mul_le_mul (by omega) (by omega) (by omega) (by omega)
 have e3:0≤((t-p.t)*(q.a-p.a)+(q.t-p.t)-1) / (q.t-p.t):=Int.ediv_nonneg (by omega) (by omega)
 have e4:((t-p.t)*(q.a-p.a)+(q.t-p.t)-1) / (q.t-p.t)≤(t-p.t)*(q.a-p.a)+(q.t-p.t)-1:=Int.ediv_le_self _ (by omega)
 exact ⟨e1,by omega,e3,by omega⟩
theorem Qww.at {l:List Pt} (h:Qww l) {i:Nat} {p:Pt} (hp:l[i]?=some p):okA p:=h.srt.okA_at hp
theorem Qww.bd {l:List Pt} (h:Qww l) {i:Nat} {p:Pt} (hp:l[i]?=some p):0≤p.t∧p.t≤4096∧p.t≤p.a∧p.a≤8192:=by
 have:=h.at hp; unfold okA at this; omega
theorem Qww.ptI {l:List Pt} (h:Qww l):∀ p∈l,ptI p:=fun p hp=>by
 obtain ⟨i,hi⟩:=List.getElem?_of_mem hp
 have:=h.bd hi
 unfold Go.Proofs.YtbilkblifgaflaaGreatDoor.ptI QEK; omega
theorem QHa {a b:Int} (h:0≤a):a.tdiv b=a / b:=Int.tdiv_eq_ediv_of_nonneg h

theorem quoP {a b:Int} (h:0≤a) (h':a≤9223372036854775807) (hb:0<b):quoK .i64 a b=a / b:=by
 have h1:0≤a / b:=Int.ediv_nonneg h (by omega)
 have h2:a / b≤a:=Int.ediv_le_self _ h
 have h3:=QHa (b:=b) h
 rw [quoI (by rw [h3]; omega) (by rw [h3]; omega),h3]
theorem Qwf {l:List Pt} (h:Qww l):Qcw l=some []:=by
 obtain ⟨r,h1,h2,h3⟩:=Qoa (by have:=h.most; omega) h.ptI
 rw [h1,h3.2 h]
theorem Qvv {l:List Pt} (h:Qww l) {t:Int} (ht:inT t):QhA l t=some (arrL l t):=by
 apply post.eq
 obtain ⟨p0,r0,rfl⟩:∃ p r,l=p :: r:=by
  cases l with
  | nil=>have:=h.pos; simp at this
  | cons p r=>exact ⟨p,r,rfl⟩
 generalize hl:p0 :: r0=l at h
 have h0:l[0]?=some p0:=by rw [← hl]; rfl
 have hpos:=h.pos
 have hmost:=h.most
 have hlast:l[l.length-1]?=some (l[l.length-1]'(by omega)):=List.getElem?_eq_getElem _
 unfold inT at ht
 unfold QhA
 rw [Qwf h,Qan]
 refine Qa2 (fun hb=>?_) (fun _=>?_)
 ·simp only [orT,Qxs,Qou,QFF] at hb; omega
 refine Qbk (R:=fun e=>(∃ u,e=.inl u∧∀ p,l[l.length-1]?=some p→p.t≤t∨t<p0.t)∨e=.inr (arrL l t)) ?_ ?_
 ·refine Qfw (fun i=>∃ k:Nat,i=(k:Int)∧k<l.length∧(∀ p,l[k]?=some p→p.t≤t∨t<p0.t)) (fun i=>l.length-i.toNat) ⟨0,rfl,by omega,fun p hp=>by rw [h0] at hp; cases hp; omega⟩ (by simp; omega) ?_
  rintro _ ⟨k,rfl,hk,hC⟩
  show post (QeQ l t (k:Int)) _
  unfold QeQ
  have hadd:addK .i64 (k:Int) 1=((k+1:Nat):Int):=by rw [addI (by omega) (by omega)]; omega
  rw [hadd]
  refine Qa2 (fun hb=>?_) (fun hb=>Qfm (.inl ⟨_,rfl,fun p hp=>hC p ?_⟩))
  rotate_left
  ·simp only [Qtb,lenI] at hb
   rw [show k=l.length-1 by omega]; exact hp
  simp only [Qou,lenI] at hb
  have hk1:k+1<l.length:=by omega
  have e1:l[k]?=some l[k]:=List.getElem?_eq_getElem hk
  have e2:l[k+1]?=some l[k+1]:=List.getElem?_eq_getElem hk1
  rw [QaZ e1,Qan,QaZ e2,Qan]
  generalize l[k]=p at e1
  generalize l[k+1]=q at e2
  have hp:=h.bd e1; have hq:=h.bd e2
  obtain ⟨hpq,hpa⟩:=h.srt.pair e1 e2
  refine Qa2 (fun hc=>?_) (fun hc=>Qic ⟨⟨k+1,rfl,hk1,fun x hx=>?_⟩,by simp; omega⟩)
  ·simp only [andT,QzK,Qou] at hc
   obtain ⟨n1,n2,n3,n4⟩:=QEZ (h.at e1) (h.at e2) hpq hpa hc.1 (Int.le_of_lt hc.2)
   have key:(t-p.t)*(q.a-p.a)+q.t-p.t-1=(t-p.t)*(q.a-p.a)+(q.t-p.t)-1:=by omega
   rw [← key] at n3 n4
   simp (disch:=omega) only [addI,subI,mulI,quoP]
   refine QbP (by omega) (Qfm (.inr ?_))
   rw [Qx8 h.srt e1 e2 hc.1 (Int.le_of_lt hc.2),key]
   rfl
  ·rw [e2] at hx; cases hx
   simp only [andF,QD1,Qtb] at hc
   rcases hC p e1 with h'|h'
   ·left; omega
   ·right; exact h'
 ·intro e he
  rcases he with ⟨u,rfl,hu⟩|rfl
  ·rw [QrG,show (0:Int)=((0:Nat):Int) from rfl,QaZ h0,Qan]
   have hp:=h.bd h0
   refine Qa2 (fun hb=>?_) (fun hb=>?_)
   ·simp only [Qxs] at hb
    have hs:subK .i64 (lenI l) 1=((l.length-1:Nat):Int):=by unfold lenI; rw [subI (by omega) (by omega)]; omega
    rw [hs,QaZ hlast,Qan]
    have hq:=h.bd hlast
    simp (disch:=omega) only [addI,subI,QaY]
    rw [Qwk h.srt hlast (by rcases hu _ hlast with h1|h1; exact h1; omega)]
   ·simp only [Qu6] at hb
    rw [addI (by omega) (by omega),subI (by omega) (by omega),QaY,← hl,QBP (by rw [hl]; exact h.srt) hb]
  ·rw [QAU]; exact QaY.2 rfl
theorem QCm:∀ i:Nat,i<16→(QgA (i:Int)).isSome=true:=by decide +kernel
theorem QvG {l:List Pt} (h:Qww l):QeU l=some []:=by
 have hpos:=h.pos; have hmost:=h.most
 unfold QeU
 rw [Qby (by simp only [orF,QBE,Qu6,lenI]; omega)]
 unfold QgI
 have hloop:QaX (fun s:List Qaa×Int=>Qdf l s.1 s.2) ([],0)=some []:=?_
 ·rw [hloop,Qan]
 refine QeO (e:=[]) l.length (fun i=>(([]:List Qaa),(i:Int))) (by omega) (fun i hi=>?_) ?_
 ·have e1:l[i]?=some l[i]:=List.getElem?_eq_getElem hi
  obtain ⟨r,hr⟩:=Option.isSome_iff_exists.1 (QCm i (by omega))
  show Qdf l [] (i:Int)=_
  unfold Qdf
  rw [Qbp (by simp only [Qou,lenI]; omega),QaZ e1,Qan,hr,Qan]
  have hp:=h.bd e1
  have hA:=h.at e1
  unfold okA at hA
  rw [show QgB (l[i]).t 0 4096=some true by unfold QgB; simp only [Option.some.injEq,andT,Qxr,QzK]; omega,Qan]
  rw [Qby (by simp only [Bool.not_true,Bool.false_or,orF,Qtb,Qu6]; rw [addI (by omega) (by omega)]; omega)]
  have hadd:addK .i64 (i:Int) 1=((i+1:Nat):Int):=by rw [addI (by omega) (by omega)]; omega
  unfold QgJ
  rw [hadd]
  rcases Nat.eq_zero_or_pos i with h0|h0
  ·rw [Qby (by simp only [Qu6]; omega)]
  ·have e0:l[i-1]?=some (l[i-1]'(by omega)):=List.getElem?_eq_getElem _
   have hs:subK .i64 (i:Int) 1=((i-1:Nat):Int):=by rw [subI (by omega) (by omega)]; omega
   have hpr:=h.srt.pair e0 (by rw [show i-1+1=i by omega]; exact e1)
   rw [Qbp (by simp only [Qxs]; omega),hs,QaZ e0,Qan,Qby (by simp only [QD1]; omega),Qby (by simp only [Qtb]; omega)]
 ·show Qdf l [] (l.length:Int)=_
  unfold Qdf
  rw [Qby (by simp [lenI])]
theorem QvH {l:List Pt} (h:Qww l):Qos l=some true:=by
 unfold Qos; rw [QvG h]; rfl
theorem half {i j:Nat} (h:i<100) (h':j<100):cvK .i64 (shrK .u64 (cvK .u64 (addK .i64 (i:Int) (j:Int))) 1)=(((i+j) / 2:Nat):Int):=by
 rw [addI (by omega) (by omega)]
 unfold cvK shrK
 rw [IntKind.wrap_u64,IntKind.wrap_i64]
 have e:(2:Int) ^ min (Int.toNat 1) (IntKind.u64.bits)=2:=by decide
 rw [e,Int.fdiv_eq_ediv_of_nonneg _ (by omega)]
 omega
theorem QzY {l:List Pt} (h:Qww l) {t:Int} (ht:inT t):post (Qa9 l t) fun r=>∃ i:Nat,r.1=(i:Int)∧i≤l.length∧(∀ k p,k<i→l[k]?=some p→p.t<t)∧(∀ k p,i≤k→l[k]?=some p→t≤p.t) ∧
  (r.2=true↔∃ p,l[i]?=some p∧p.t=t):=by
 have hmost:=h.most
 unfold inT at ht
 refine Qbk (R:=fun x=>∃ i:Nat,x=(i:Int)∧i≤l.length∧(∀ k p,k<i→l[k]?=some p→p.t<t)∧(∀ k p,i≤k→l[k]?=some p→t≤p.t)) ?_ ?_
 ·refine Qfw (fun s=>∃ i j:Nat,s=((i:Int),(j:Int))∧i≤j∧j≤l.length∧(∀ k p,k<i→l[k]?=some p→p.t<t)∧(∀ k p,j≤k→l[k]?=some p→t≤p.t)) (fun s=>(s.2-s.1).toNat) ⟨0,l.length,rfl,by omega,by omega,fun k p hk=>by omega,fun k p hk hp=>by have:=(List.getElem?_eq_some_iff.1 hp).1; omega⟩ (by simp [lenI]; omega) ?_
  rintro _ ⟨i,j,rfl,hij,hjl,h1,h2⟩
  show post (QaM l t (i:Int) (j:Int)) _
  unfold QaM
  rw [half (by omega) (by omega)]
  refine Qa2 (fun hb=>?_) (fun hb=>Qfm ?_)
  ·simp only [Qou] at hb
   have hm:(i+j) / 2<l.length:=by omega
   have e1:l[(i+j) / 2]?=some l[(i+j) / 2]:=List.getElem?_eq_getElem hm
   rw [QaZ e1,Qan]
   generalize l[(i+j) / 2]=p at e1
   have hp:=h.bd e1
   unfold QgK
   rw [subI (by omega) (by omega),Qan]
   refine Qa2 (fun hc=>Qic ?_) (fun hc=>Qic ?_)
   ·simp only [Qou] at hc
    refine ⟨⟨(i+j) / 2+1,j,by rw [addI (by omega) (by omega)]; simp,by omega,hjl,fun k q hk hq=>?_,h2⟩,by rw [addI (by omega) (by omega)]; simp; omega⟩
    rcases Nat.lt_or_ge k ((i+j) / 2) with hk'|hk'
    ·have:=h.srt.lt hk' hq e1; omega
    ·obtain rfl:k=(i+j) / 2:=by omega
     rw [e1] at hq; cases hq; omega
   ·simp only [Qtb] at hc
    refine ⟨⟨i,(i+j) / 2,rfl,by omega,by omega,h1,fun k q hk hq=>?_⟩,by simp; omega⟩
    rcases Nat.lt_or_ge ((i+j) / 2) k with hk'|hk'
    ·have:=h.srt.lt hk' e1 hq; omega
    ·obtain rfl:k=(i+j) / 2:=by omega
     rw [e1] at hq; cases hq; omega
  ·simp only [Qtb] at hb
   obtain rfl:i=j:=by omega
   exact ⟨i,rfl,hjl,h1,h2⟩
 ·rintro _ ⟨i,rfl,hi,h1,h2⟩
  refine Qa2 (fun hb=>?_) (fun hb=>QaY.2 ⟨i,rfl,hi,h1,h2,?_⟩)
  ·simp only [Qou,lenI] at hb
   have hi':i<l.length:=by omega
   have e1:l[i]?=some l[i]:=List.getElem?_eq_getElem hi'
   rw [QaZ e1,Qan]
   generalize l[i]=p at e1
   have hp:=h.bd e1
   unfold QgK
   rw [subI (by omega) (by omega),Qan,QaY]
   refine ⟨i,rfl,hi,h1,h2,?_⟩
   simp only [QxR,e1,Option.some.injEq,exists_eq_left']
   omega
  ·simp only [Qtb,lenI] at hb
   rw [List.getElem?_eq_none (by omega)]
   simp
theorem Qu5 {l:List Pt} (h:Qww l) {t:Int} (ht:inT t):Qme l t=some (arrL l t):=by
 apply post.eq
 have hpos:=h.pos; have hmost:=h.most
 obtain ⟨⟨x,f⟩,hx,i,rfl,hi,h1,h2,h3⟩:=QzY h ht
 simp only at h3
 unfold Qme
 rw [hx,Qan]
 unfold inT at ht
 refine Qa2 (fun hb=>?_) (fun hb=>?_)
 ·obtain ⟨p,e1,hpt⟩:=h3.1 hb
  show post (bnd (getI l (i:Int)) _) _
  rw [QaZ e1,Qan,QaY]
  subst hpt
  rcases Nat.lt_or_ge (i+1) l.length with h'|h'
  ·have e2:l[i+1]?=some l[i+1]:=List.getElem?_eq_getElem h'
   have hlt:=(h.srt.pair e1 e2).1
   rw [Qx8 h.srt e1 e2 (by omega) (by omega),QzZ hlt]
  ·have hil:i=l.length-1:=by have:=(List.getElem?_eq_some_iff.1 e1).1; omega
   rw [hil] at e1
   rw [Qwk h.srt e1 (by omega)]; omega
 ·have hnf:∀ p,l[i]?=some p→p.t≠t:=fun p hp he=>by
   have:=h3.2 ⟨p,hp,he⟩
   simp only at hb
   rw [this] at hb; cases hb
  have e0:l[0]?=some l[0]:=List.getElem?_eq_getElem (by omega)
  show post (br (eqI (i:Int) 0) _ _) _
  refine Qa2 (fun hc=>?_) (fun hc=>?_)
  ·simp only [QxR] at hc
   obtain rfl:i=0:=by omega
   rw [show (0:Int)=((0:Nat):Int) from rfl,QaZ e0,Qan]
   have hp:=h.bd e0
   have h4:=h2 0 _ (by omega) e0
   generalize l[0]=p at e0 hp h4
   obtain ⟨r,hr⟩:∃ r,l=p :: r:=by
    cases l with
    | nil=>simp at hpos
    | cons x r=>cases e0; exact ⟨r,rfl⟩
   simp (disch:=omega) only [addI,subI,QaY]
   rw [hr,QBP (by rw [← hr]; exact h.srt) h4]
  ·simp only [QBE] at hc
   have e1:l[i-1]?=some (l[i-1]'(by omega)):=List.getElem?_eq_getElem _
   have hs:subK .i64 (i:Int) 1=((i-1:Nat):Int):=by rw [subI (by omega) (by omega)]; omega
   have hp:=h.bd e1
   have h4:=h1 (i-1) _ (by omega) e1
   show post (br (eqI (i:Int) (lenI l)) (bnd (getI l (subK .i64 (i:Int) 1)) _) _) _
   rw [hs]
   refine Qa2 (fun hd=>?_) (fun hd=>?_)
   ·simp only [QxR,lenI] at hd
    obtain rfl:i=l.length:=by omega
    rw [QaZ e1,Qan]
    simp (disch:=omega) only [addI,subI,QaY]
    rw [Qwk h.srt e1 (by omega)]
   ·simp only [QBE,lenI] at hd
    have e2:l[i]?=some (l[i]'(by omega)):=List.getElem?_eq_getElem _
    have hq:=h.bd e2
    have h5:=h2 i _ (by omega) e2
    show post (bnd (getI l ((i-1:Nat):Int)) fun x3=>bnd (getI l (i:Int)) fun x4=>_) _
    rw [QaZ e1,Qan,QaZ e2,Qan]
    have e2':l[i-1+1]?=some (l[i]'(by omega)):=by rw [show i-1+1=i by omega]; exact e2
    generalize l[i-1]=p at e1 hp h4
    generalize l[i]=q at e2 e2' hq h5
    obtain ⟨hpq,hpa⟩:=h.srt.pair e1 e2'
    obtain ⟨n1,n2,n3,n4⟩:=QEZ (h.at e1) (h.at e2) hpq hpa (Int.le_of_lt h4) h5
    simp (disch:=omega) only [addI,subI,mulI,quoP]
    refine QbP (by omega) (QaY.2 ?_)
    rw [Qx8 h.srt e1 e2' (Int.le_of_lt h4) h5]
    rfl
theorem Qu4 {l:List Pt} (h:Qww l) {t:Int} (ht:inT t):Qmd l t=some (arrL l t):=by
 unfold Qmd
 rw [show QgB t 0 1073741824=some true by unfold QgB; unfold inT at ht; simp only [Option.some.injEq,andT,Qxr,QzK]; omega,Qan,QdY,QvH h,Qan,QdY,Qu5 h ht,Qan]
end Go.Proofs.YtbilkblifgaflaaGreatDoor
namespace Go.Proofs.YtbilkblifgaflaaGreatDoor
set_option linter.unusedSimpArgs false
set_option linter.unusedVariables false
set_option linter.unusedSectionVars false

class Sm (α : Type) where
  sm : α → Prop
instance:Sm Qaa:=⟨fun f=>f.at_.size≤64⟩
instance:Sm Int:=⟨fun _=>True⟩
section
variable {α β : Type} [Sm α]
def Ext (l0:List α) (c:Nat) (P:Prop) (r:List α):Prop:=∃ new,r=l0++new∧new.length≤c∧(new=[]→P)∧∀ x∈new,Sm.sm x
theorem Ext.nil {l0:List α} {c:Nat} {P:Prop} (h:P):Ext l0 c P l0:=⟨[],by simp,by simp,fun _=>h,by simp⟩
theorem Ext.one {l0:List α} {c:Nat} {P:Prop} {x:α} (hc:1≤c) (hx:Sm.sm x):Ext l0 c P (l0++[x]):=⟨[x],rfl,hc,fun h=>by (cases h),fun y hy=>by rw [List.mem_singleton.1 hy]; exact hx⟩
theorem Ext.trans {a b r:List α} {c d e:Nat} {P Q R:Prop} (h:Ext a c P b) (h':Ext b d Q r) (he:c+d≤e) (hr:P→Q→R):Ext a e R r:=by
 obtain ⟨n,rfl,h1,h2,h5⟩:=h
 obtain ⟨m,rfl,h3,h4,h6⟩:=h'
 refine ⟨n++m,by simp,by simp; omega,fun h=>?_,fun x hx=>by rcases List.mem_append.1 hx with h|h; exact h5 x h; exact h6 x h⟩
 rw [List.append_eq_nil_iff] at h
 exact hr (h2 h.1) (h4 h.2)
theorem Ext.len {a r:List α} {c:Nat} {P:Prop} (h:Ext a c P r):r.length≤a.length+c:=by obtain ⟨n,rfl,h1,_⟩:=h; simp; omega
theorem Ext.of_nil {r:List α} {c:Nat} {P:Prop} (h:Ext [] c P r) (hr:r=[]):P:=by
 obtain ⟨n,rfl,_,h2,_⟩:=h
 exact h2 (by simpa using hr)
theorem Ext.sms {r:List α} {c:Nat} {P:Prop} (h:Ext [] c P r):∀ x∈r,Sm.sm x:=by
 obtain ⟨n,rfl,_,_,h2⟩:=h
 simpa using h2
theorem Ext.mono {a r:List α} {c d:Nat} {P Q:Prop} (h:Ext a c P r) (hc:c≤d) (hp:P→Q):Ext a d Q r:=by
 obtain ⟨n,rfl,h1,h2,h3⟩:=h
 exact ⟨n,rfl,by omega,fun hn=>hp (h2 hn),h3⟩
def RndE (out:List α) (i:Int) (c:Nat) (P:Prop) (x:(List α×Int)⊕β):Prop:=∃ r,x=.inl (r,i)∧Ext out c P r
theorem QAS {out:List α} {i j:Int} {c:Nat} {P:Prop} (hi:j=i) (h:P):post (some (Sum.inl (out,j):(List α×Int)⊕β)) (RndE out i c P):=⟨_,rfl,out,by rw [hi],.nil h⟩
theorem Qw9 {out:List α} {x:α} {i j:Int} {c:Nat} {P:Prop} (hi:j=i) (hc:1≤c) (hx:Sm.sm x):post (some (Sum.inl (out++[x],j):(List α×Int)⊕β)) (RndE out i c P):=⟨_,rfl,_,by rw [hi],.one hc hx⟩
theorem Ql7 {B:List α×Int→Option ((List α×Int)⊕(List α))} (n c:Nat) (P:Nat→Prop) (l0:List α) (hn:n<18446744073709551615)
  (step:∀ (i:Nat) (out:List α),i<n→out.length≤l0.length+c*i→post (B (out,(i:Int))) (RndE out ((i:Int)+1) c (P i)))
  (fin:∀ out,B (out,(n:Int))=some (.inr out)):post (QaX B (l0,0)) (Ext l0 (c*n) (∀ i,i<n→P i)):=by
 refine Qfw (fun s=>∃ i:Nat,s.2=(i:Int)∧i≤n∧Ext l0 (c*i) (∀ k,k<i→P k) s.1) (fun s=>n-s.2.toNat)
  ⟨0,rfl,Nat.zero_le _,.nil (by simp)⟩ (by simp; omega) ?_
 rintro ⟨out,j⟩ ⟨i,hj,hi,hl⟩
 simp only at hj hl
 subst hj
 by_cases h:i<n
 ·refine (step i out h hl.len).mono ?_
  rintro x ⟨r,rfl,h1⟩
  refine ⟨fun s' hs=>?_,fun _ h=>by cases h⟩
  cases hs
  refine ⟨⟨i+1,by simp,by omega,hl.trans h1 (by rw [Nat.mul_add]; omega) fun h2 h3 k hk=>?_⟩,by simp; omega⟩
  rcases Nat.lt_or_ge k i with h|h
  ·exact h2 k h
  ·obtain rfl:k=i:=by omega
   exact h3
 ·obtain rfl:i=n:=by omega
  rw [fin]
  exact Qfm hl
end
theorem QDs {e:Int} {s:ByteArray} (h:s.size≤64):Sm.sm (Qaa.mk e s):=h
theorem QgR (a b:ByteArray):(catS a b).size=a.size+b.size:=by unfold catS; exact ByteArray.size_append
theorem Qzf {B:Bool×Int→Option ((Bool×Int)⊕Bool)} (n:Nat) (P:Nat→Prop) (hn:n<18446744073709551615)
  (step:∀ (k:Nat) (b:Bool),k<n→post (B (b,(k:Int))) fun x=>∃ b',x=.inl (b',(k:Int)+1)∧(b'=true↔b=true∨P k))
  (fin:∀ b,B (b,(n:Int))=some (.inr b)):post (QaX B (false,0)) fun r=>(r=true↔∃ k,k<n∧P k):=by
 refine Qfw (fun s=>∃ i:Nat,s.2=(i:Int)∧i≤n∧(s.1=true↔∃ k,k<i∧P k)) (fun s=>n-s.2.toNat) ⟨0,rfl,Nat.zero_le _,by simp⟩ (by simp; omega) ?_
 rintro ⟨b,j⟩ ⟨i,hj,hi,hl⟩
 simp only at hj hl
 subst hj
 by_cases h:i<n
 ·refine (step i b h).mono ?_
  rintro x ⟨b',rfl,h1⟩
  refine ⟨fun s' hs=>?_,fun _ h=>by cases h⟩
  cases hs
  refine ⟨⟨i+1,by simp,by omega,?_⟩,by simp; omega⟩
  simp only
  rw [h1,hl]
  constructor
  ·rintro (⟨k,h2,h3⟩|h2)
   ·exact ⟨k,by omega,h3⟩
   ·exact ⟨i,by omega,h2⟩
  ·rintro ⟨k,h2,h3⟩
   rcases Nat.lt_or_ge k i with h|h
   ·exact .inl ⟨k,h,h3⟩
   ·obtain rfl:k=i:=by omega
    exact .inr h3
 ·obtain rfl:i=n:=by omega
  rw [fin]
  exact Qfm hl
theorem inc {i n:Nat} (h:i<n) (hn:n≤1048576):addK .i64 (i:Int) 1=(i:Int)+1:=addI (by omega) (by omega)
theorem dec {i:Nat} (h:0<i) (hn:i≤1048576):subK .i64 (i:Int) 1=((i-1:Nat):Int):=by rw [subI (by omega) (by omega)]; omega

theorem QEG {s:ByteArray} {i:Int} (h0:0≤i) (h1:i<s.size):∃ b,getS s i=some b:=by
 unfold getS
 rw [if_pos h0]
 exact ⟨_,getElem?_pos s i.toNat (by omega)⟩
theorem Qwo (s:ByteArray) (hs:s.size≤1048576):post (QdO s) fun _=>True:=by
 unfold QdO
 refine Qa2 (fun _=>QaY.2 trivial) (fun hb=>?_)
 simp only [orF,Qtb,Qu6,Qx2] at hb
 obtain ⟨b,hb0⟩:=QEG (s:=s) (i:=0) (by omega) (by omega)
 rw [hb0,Qan]
 refine Qbk (R:=fun _=>True) ⟨_,rfl,trivial⟩ fun r _=>Qa2 (fun _=>QaY.2 trivial) fun _=>?_
 refine Qbk (R:=fun _=>True) ?_ fun e _=>?_
 ·refine Qfw (fun i=>∃ k:Nat,i=(k:Int)∧k≤s.size) (fun i=>s.size-i.toNat) ⟨0,rfl,Nat.zero_le _⟩ (by simp; omega) ?_
  rintro _ ⟨k,rfl,hk⟩
  show post (QfH s b (k:Int)) _
  unfold QfH
  refine Qa2 (fun hb=>?_) (fun _=>Qfm trivial)
  simp only [Qou,Qx2] at hb
  obtain ⟨c,hc⟩:=QEG (s:=s) (i:=k) (by omega) (by omega)
  rw [hc,Qan,inc (n:=s.size) (by omega) hs]
  have leaf:post (some (Sum.inl ((k:Int)+1):Int⊕(Unit⊕Bool))) fun x=>(∀ s',x=.inl s'→(∃ k:Nat,s'=(k:Int)∧k≤s.size)∧s.size-s'.toNat<s.size-(k:Int).toNat)∧∀ e,x=.inr e→True :=
   Qic ⟨⟨k+1,by simp,by omega⟩,by simp; omega⟩
  refine Qbk (R:=fun _=>True) ⟨_,rfl,trivial⟩ fun r1 _=>Qa2 (fun _=>leaf) fun _=>?_
  exact Qbk (R:=fun _=>True) ⟨_,rfl,trivial⟩ fun r2 _=>Qa2 (fun _=>leaf) fun _=>Qfm trivial
 ·cases e with
  | inl u=>exact QaY.2 trivial
  | inr r=>exact QaY.2 trivial

structure ArcI (a:Qai):Prop where
 travel:a.travel.length≤1048576
 slow:a.slow.length≤1048576
 pts:∀ p∈a.travel,ptI p
 pts2:∀ p∈a.slow,ptI p
structure NetI (n:Qag):Prop where
 places:n.places.length≤1048576
 arcs:n.arcs.length≤1048576
 names:∀ s∈n.places,s.size≤1048576
 arcI:∀ a∈n.arcs,ArcI a
def okS (l:List Pt) (i:Nat):Prop:=∀ p,l[i]?=some p→0≤p.t∧p.t≤4096∧0≤p.a∧p.a≤4096∧(0<i→∀ q,l[i-1]?=some q→q.t<p.t)
structure QBC (np:Nat) (a:Qai):Prop where
 from0:0≤a.from_
 from1:a.from_<np
 to0:0≤a.to_
 to1:a.to_<np
 prof0:0≤a.profile
 prof1:a.profile≤7
 miles0:0≤a.miles
 miles1:a.miles≤10000
 ne:a.from_≠a.to_
 travel:Qww a.travel
 slow:a.slow.length≤16
 slowAll:∀ i,i<a.slow.length→okS a.slow i
def Qwx (a b:Qai):Prop:=a.from_=b.from_∧a.to_=b.to_∧a.profile=b.profile
structure Qzv (n:Qag):Prop where
 places:n.places.length≤24
 arcs:n.arcs.length≤1024
 all:∀ a∈n.arcs,QBC n.places.length a
 once:∀ (i k:Nat) (a b:Qai),k<i→n.arcs[i]?=some a→n.arcs[k]?=some b→¬ Qwx a b

theorem QwE {n:Qag} (hn:NetI n):post (Qcj n) (Ext [] (1+n.places.length) (n.places.length≤24)):=by
 have hpl:=hn.places
 have main:∀ l0:List Qaa,l0.length≤1→post (QbO n l0) (Ext l0 n.places.length True):=by
  intro l0 hin
  refine Qbk (R:=Ext l0 n.places.length True) ?_ fun a h=>QaY.2 h
  refine (Ql7 n.places.length 1 (fun _=>True) l0 (by omega) (fun i out hi ho=>?_) (fun out=>?_)).mono fun r h=>h.mono (by omega) fun _=>trivial
  ·show post (QaQ n l0 out (i:Int)) _
   unfold QaQ
   rw [Qbp (by simp [lenI]; exact hi),inc hi hpl]
   refine Qbk (QkO (i:Int) (QxY (by omega))) fun r hr=>QbP (by show 6+r.size≤_; omega) ?_
   have e1:n.places[i]?=some n.places[i]:=List.getElem?_eq_getElem hi
   rw [QaZ e1,Qan]
   have hok:∀ f:Qaa,okN (out++[f]).length 24:=fun f=>QcW (by simp; omega)
   have hsm:∀ {e:Int},Sm.sm (Qaa.mk e (catS QbU r)):=QDs (by rw [QgR]; show 6+r.size≤64; omega)
   refine Qbk (Qwo _ (hn.names _ (List.getElem_mem hi))) fun r1 _=>Qa2 (fun _=>?_) (fun _=>QbP (hok _) (Qw9 rfl (by omega) hsm))
   refine Qbk (R:=fun _=>True) ((Qzf i (fun k=>∃ x,n.places[k]?=some x∧eqS x n.places[i]=true) (by omega) (fun k b hk=>?_) (fun b=>?_)).mono fun _ _=>trivial) fun tw _=>Qa2 (fun _=>QbP (hok _) (Qw9 rfl (by omega) hsm)) (fun _=>QAS rfl trivial)
   ·show post (QaR n l0 out (i:Int) r b (k:Int)) _
    unfold QaR
    rw [Qbp (by simp; omega),inc (n:=i) hk (by omega)]
    have e2:n.places[k]?=some (n.places[k]'(by omega)):=List.getElem?_eq_getElem _
    refine Qa2 (fun h=>QaY.2 ⟨true,rfl,by simp [h]⟩) (fun h=>?_)
    rw [QaZ e2,Qan,QaZ e1,Qan,QaY]
    exact ⟨_,rfl,by simp [h,e2]⟩
   ·show QaR n l0 out (i:Int) r b (i:Int)=_
    unfold QaR
    rw [Qby (by simp)]
  ·show QaQ n l0 out (n.places.length:Int)=_
   unfold QaQ
   rw [Qby (by simp [lenI])]
 unfold Qcj
 refine Qa2 (fun h=>QbP (QcW (by simp)) ((main _ (by simp)).mono fun r h'=>?_)) (fun h=>(main _ (by simp)).mono fun r h'=>h'.mono (by omega) fun _=>?_)
 ·exact (Ext.one (l0:=[]) (P:=n.places.length≤24) (Nat.le_refl 1) (QDs (s:=Qd6) (show 6≤64 by omega))).trans h' (Nat.le_refl _) fun h _=>h
 ·simp only [Qu6,lenI] at h; omega
theorem QE5 (t:Int):QgD t=some (decide (0≤t∧t≤4096)):=by
 unfold QgD
 congr 1
 rw [Bool.eq_iff_iff,andT,Qxr,QzK,decide_eq_true_iff]
theorem QAY {r:ByteArray} (hr:r.size≤21) {x0:Qai} {l l0:List Qaa} (hI:ArcI x0) (hin:l0.length≤4194304):post (QbH r x0 l l0) (Ext l0 x0.slow.length (∀ i,i<x0.slow.length→okS x0.slow i)):=by
 have hsl:=hI.slow
 have hsm:∀ {e:Int},Sm.sm (Qaa.mk e (catS QaT r)):=QDs (by rw [QgR]; show 4+r.size≤64; omega)
 refine Qbk (R:=Ext l0 x0.slow.length (∀ i,i<x0.slow.length→okS x0.slow i)) ?_ fun a h=>QaY.2 h
 refine (Ql7 x0.slow.length 1 (okS x0.slow) l0 (by omega) (fun i out hi ho=>?_) (fun out=>?_)).mono fun r h=>h.mono (by omega) id
 ·show post (Qbc r x0 l out (i:Int)) _
  unfold Qbc
  have hok:∀ f:Qaa,okN (out++[f]).length 24:=fun f=>QcW (by simp; omega)
  have e1:x0.slow[i]?=some x0.slow[i]:=List.getElem?_eq_getElem hi
  rw [Qbp (by simp [lenI]; exact hi),inc hi hsl,QaZ e1,Qan,QE5,Qan,QE5]
  generalize x0.slow[i]=p at e1
  have no:post (chk (okN (out++[Qaa.mk 2 (catS QaT r)]).length 24) (some (Sum.inl (out++[Qaa.mk 2 (catS QaT r)],(i:Int)+1):(List Qaa×Int)⊕(List Qaa)))) (RndE out ((i:Int)+1) 1 (okS x0.slow i)):=QbP (hok _) (Qw9 rfl (by omega) hsm)
  refine Qa2 (fun h1=>?_) (fun _=>no)
  rw [Qan]
  refine Qa2 (fun h2=>Qa2 (fun h3=>?_) (fun h3=>QAS rfl ?_)) (fun _=>no)
  ·simp only [Qxs] at h3
   have e2:x0.slow[i-1]?=some (x0.slow[i-1]'(by omega)):=List.getElem?_eq_getElem _
   rw [dec (by omega) (by omega),QaZ e2,Qan]
   refine Qa2 (fun _=>no) (fun h4=>QAS rfl ?_)
   simp only [QD1,decide_eq_true_iff] at h1 h2 h4
   intro x hx; rw [e1] at hx; cases hx
   exact ⟨h1.1,h1.2,h2.1,h2.2,fun _ q hq=>by rw [e2] at hq; cases hq; exact h4⟩
  ·simp only [Qu6,decide_eq_true_iff] at h1 h2 h3
   intro x hx; rw [e1] at hx; cases hx
   exact ⟨h1.1,h1.2,h2.1,h2.2,fun h=>by omega⟩
 ·show Qbc r x0 l out (x0.slow.length:Int)=_
  unfold Qbc
  rw [Qby (by simp [lenI])]
theorem QyU {n:Qag} (hn:NetI n) {i:Nat} {a:Qai} (ha:n.arcs[i]?=some a) :
  post (Qei n (i:Int)) (Ext [] 3145735 (QBC n.places.length a∧∀ (k:Nat) (b:Qai),k<i→n.arcs[k]?=some b→¬ Qwx a b)):=by
 have hi:i<n.arcs.length:=(List.getElem?_eq_some_iff.1 ha).1
 have hal:=hn.arcs
 have hI:=hn.arcI a (List.mem_of_getElem? ha)
 have hsl:=hI.slow
 have htl:=hI.travel
 unfold Qei
 refine Qbk (QkO (i:Int) (QxY (by omega))) fun r hr=>QbP (by show 4+r.size≤_; omega) ?_
 rw [QaZ ha,Qan]
 have hsm:∀ {e:Int},Sm.sm (Qaa.mk e (catS QaT r)):=QDs (by rw [QgR]; show 4+r.size≤64; omega)
 have gen:∀ (l l0:List Qaa),l0.length≤3→post (QbT r a l l0) (Ext l0 3145732 (Qww a.travel∧a.slow.length≤16∧∀ i,i<a.slow.length→okS a.slow i)):=by
  intro l l0 hin
  unfold QbT
  refine Qbk (Qoa htl hI.pts) fun r1 hr1=>?_
  refine Qbk (R:=Ext l0 2097153 (Qww a.travel)) ?_ fun l4 h4=>?_
  ·refine (Ql7 r1.length 1 (fun _=>False) l0 (by omega) (fun k out hk ho=>?_) (fun out=>?_)).mono fun x hx=>?_
   ·show post (Qbb r a l r1 out (k:Int)) _
    unfold Qbb
    have e1:r1[k]?=some r1[k]:=List.getElem?_eq_getElem hk
    have hadd:addK .i64 (k:Int) 1=(k:Int)+1:=addI (by omega) (by omega)
    rw [Qbp (by simp [lenI]; exact hk),hadd,QaZ e1,Qan]
    exact QbP (QcW (by simp; omega)) (Qw9 rfl (by omega) hsm)
   ·show Qbb r a l r1 out (r1.length:Int)=_
    unfold Qbb
    rw [Qby (by simp [lenI])]
   ·refine hx.mono (by omega) fun h=>hr1.2.1 ?_
    cases r1 with
    | nil=>rfl
    | cons y ys=>exact (h 0 (by simp)).elim
  ·have h4l:=h4.len
   refine Qa2 (fun h=>QbP (QcW (by simp; omega)) ?_) (fun h=>?_)
   ·refine ((QAY hr hI (by simp; omega)).mono fun _ h=>h.mono hsl id:post (QbH r a l _) (Ext _ 1048576 _)).mono fun x hx=>?_
    refine h4.trans ((Ext.one (P:=False) (Nat.le_refl 1) hsm).trans hx (e:=1048577) (by omega) (fun h _=>h)) (by omega) fun h1 h2=>h2.elim
   ·refine ((QAY hr hI (by omega)).mono fun _ h=>h.mono hsl id:post (QbH r a l _) (Ext _ 1048576 _)).mono fun x hx=>?_
    simp only [Qu6,lenI] at h
    exact h4.trans hx (by omega) fun h1 h2=>⟨h1,by omega,h2⟩
 have gen2:∀ (l l0:List Qaa),l0.length≤2→post (QcD n (i:Int) r a l l0) (Ext l0 3145733 ((∀ (k:Nat) (b:Qai),k<i→n.arcs[k]?=some b→¬ Qwx a b)∧Qww a.travel∧a.slow.length≤16∧∀ i,i<a.slow.length→okS a.slow i)):=by
  intro l l0 hin
  unfold QcD
  refine Qbk (Qzf i (fun k=>∃ b,n.arcs[k]?=some b∧Qwx a b) (by omega) (fun k b hk=>?_) (fun b=>?_)) fun tw htw=>Qa2 (fun h=>QbP (QcW (by simp; omega)) ?_) (fun h=>?_)
  ·show post (Qba n (i:Int) r a l l0 b (k:Int)) _
   unfold Qba
   have e1:n.arcs[k]?=some (n.arcs[k]'(by omega)):=List.getElem?_eq_getElem _
   rw [Qbp (by simp; omega),inc (n:=i) hk (by omega),QaZ e1,Qan,QaY]
   refine ⟨_,rfl,?_⟩
   simp only [orT,andT,QxR,e1,Option.some.injEq,exists_eq_left',Qwx,and_assoc]
  ·show Qba n (i:Int) r a l l0 b (i:Int)=_
   unfold Qba
   rw [Qby (by simp)]
  ·exact (gen l _ (by simp; omega)).mono fun x hx=>(Ext.one (P:=False) (Nat.le_refl 1) hsm).trans hx (by omega) fun h _=>h.elim
  ·refine (gen l _ (by omega)).mono fun x hx=>hx.mono (by omega) fun h'=>⟨fun k b hk hb hs=>?_,h'⟩
   rw [htw.2 ⟨k,hk,b,hb,hs⟩] at h; cases h
 have fin:∀ (l:List Qaa),l.length≤1→post (QcC n (i:Int) r a l) (Ext l 3145734 (0≤a.profile∧a.profile≤7∧0≤a.miles∧a.miles≤10000∧a.from_≠a.to_∧(∀ (k:Nat) (b:Qai),k<i→n.arcs[k]?=some b→¬ Qwx a b)∧Qww a.travel∧a.slow.length≤16∧∀ i,i<a.slow.length→okS a.slow i)):=by
  intro l hl
  unfold QcC
  refine Qa2 (fun h=>QbP (QcW (by simp; omega)) ?_) (fun h=>?_)
  ·exact (gen2 l _ (by simp; omega)).mono fun x hx=>(Ext.one (P:=False) (Nat.le_refl 1) hsm).trans hx (by omega) fun h _=>h.elim
  ·simp only [orF,Qtb,Qu6,QBE] at h
   exact (gen2 l _ (by omega)).mono fun x hx=>hx.mono (by omega) fun h'=>⟨h.1.1.1.1,h.1.1.1.2,h.1.1.2,h.1.2,h.2,h'⟩
 refine Qa2 (fun h=>QbP (QcW (by simp)) ?_) (fun h=>?_)
 ·exact (fin _ (by simp)).mono fun x hx=>(Ext.one (l0:=[]) (P:=False) (Nat.le_refl 1) hsm).trans hx (by omega) fun h _=>h.elim
 ·simp only [orF,Qtb,QFu,lenI] at h
  exact (fin _ (by simp)).mono fun x hx=>hx.mono (by omega) fun ⟨h1,h2,h3,h4,h5,h6,h7,h8,h9⟩=>⟨⟨h.1.1.1,h.1.1.2,h.1.2,h.2,h1,h2,h3,h4,h5,h7,h8,h9⟩,h6⟩
theorem QsL {n:Qag} (hn:NetI n):post (QfU n) (Ext [] (1048578+3145735*n.arcs.length) (Qzv n)):=by
 have hal:=hn.arcs
 have hpl:=hn.places
 unfold QfU
 refine Qbk (QwE hn) fun r hr=>?_
 have hrl:=hr.len
 have main:∀ l0:List Qaa,l0.length≤1048578→post (Qeh n l0) (Ext l0 (3145735*n.arcs.length) (∀ i,i<n.arcs.length→∀ a,n.arcs[i]?=some a→QBC n.places.length a∧∀ (k:Nat) (b:Qai),k<i→n.arcs[k]?=some b→¬ Qwx a b)):=by
  intro l0 hin
  refine QqM ?_
  refine (Ql7 n.arcs.length 3145735 _ l0 (by omega) (fun i out hi ho=>?_) (fun out=>?_)).mono fun r h=>QaY.2 h
  ·show post (Qbt n l0 out (i:Int)) _
   unfold Qbt
   have e1:n.arcs[i]?=some n.arcs[i]:=List.getElem?_eq_getElem hi
   rw [Qbp (by simp [lenI]; exact hi),inc hi hal]
   refine Qbk (QyU hn e1) fun r1 hr1=>?_
   obtain ⟨new,h1,h2,h3,h4⟩:=hr1
   rw [List.nil_append] at h1
   subst h1
   refine QbP (QcW (by simp; omega)) (QaY.2 ⟨_,rfl,_,rfl,h2,fun h a ha=>?_,h4⟩)
   rw [e1] at ha; cases ha
   exact h3 h
  ·show Qbt n l0 out (n.arcs.length:Int)=_
   unfold Qbt
   rw [Qby (by simp [lenI])]
 refine Qa2 (fun h=>QbP (QcW (by simp at hrl ⊢; omega)) ((main _ (by simp at hrl ⊢; omega)).mono fun x hx=>?_)) (fun h=>(main _ (by simp at hrl; omega)).mono fun x hx=>?_)
 ·exact hr.trans ((Ext.one (P:=False) (Nat.le_refl 1) (QDs (s:=Qg8) (show 4≤64 by omega))).trans hx (Nat.le_refl _) (R:=False) fun h _=>h) (by omega) fun _ h=>h.elim
 ·simp only [Qu6,lenI] at h
  refine hr.trans hx (by omega) fun h1 h2=>⟨h1,by omega,fun a ha=>?_,fun i k a b hk ha hb=>(h2 i (List.getElem?_eq_some_iff.1 ha).1 a ha).2 k b hk hb⟩
  obtain ⟨i,hi⟩:=List.getElem?_of_mem ha
  exact (h2 i (List.getElem?_eq_some_iff.1 hi).1 a hi).1
end Go.Proofs.YtbilkblifgaflaaGreatDoor
namespace Go.Proofs.YtbilkblifgaflaaGreatDoor
set_option linter.unusedSimpArgs false
set_option linter.unusedVariables false
set_option linter.unusedSectionVars false

def Qh3 (l:List Pt) (t:Int):Int:=l.foldr (fun p s=>(if p.t≤t then p.a else 0)+s) 0
theorem QyI (l m:List Pt) (t:Int):Qh3 (l++m) t=Qh3 l t+Qh3 m t:=by
 induction l with
 | nil=>simp [Qh3]
 | cons p l ih=>simp only [Qh3,List.cons_append,List.foldr_cons] at ih ⊢; omega
theorem QqV {l:List Pt} {t:Int} {i:Nat} {p:Pt} (h:l[i]?=some p):Qh3 (l.take (i+1)) t=Qh3 (l.take i) t+(if p.t≤t then p.a else 0):=by
 rw [List.take_add_one,h,QyI]; simp [Qh3]
theorem QFN {l:List Pt} (h:∀ i,i<l.length→okS l i) {i:Nat} {p:Pt} (hp:l[i]?=some p):0≤p.t∧p.t≤4096∧0≤p.a∧p.a≤4096:=by
 have:=h i (List.getElem?_eq_some_iff.1 hp).1 p hp
 exact ⟨this.1,this.2.1,this.2.2.1,this.2.2.2.1⟩
theorem Qxh {l:List Pt} (h:∀ i,i<l.length→okS l i) (t:Int):∀ i:Nat,i≤l.length→0≤Qh3 (l.take i) t∧Qh3 (l.take i) t≤4096*i
 | 0,_=>by simp [Qh3]
 | i+1,hi=>by
  have e1:l[i]?=some (l[i]'(by omega)):=List.getElem?_eq_getElem _
  have ih:=Qxh h t i (by omega)
  have:=QFN h e1
  rw [QqV e1]
  split <;> omega
def arrA (a:Qai) (t:Int):Int:=arrL a.travel t+Qh3 a.slow t
theorem Qww.ne {l:List Pt} (h:Qww l):l≠[]:=fun e=>by have:=h.pos; rw [e] at this; simp at this
theorem Qxi {l:List Pt} (h:∀ i,i<l.length→okS l i) (hl:l.length≤16) (t:Int):0≤Qh3 l t∧Qh3 l t≤65536:=by
 have:=Qxh h t l.length (Nat.le_refl _)
 rw [List.take_length] at this; omega
theorem QAa {np:Nat} {a:Qai} (h:QBC np a) (t:Int):t≤arrA a t:=by
 have:=QAb h.travel.srt h.travel.ne t
 have:=Qxi h.slowAll h.slow t
 unfold arrA; omega
theorem QEA {np:Nat} {a:Qai} (h:QBC np a) {t:Int} (ht:0≤t):arrA a t≤t+73728:=by
 have:=QAc h.travel.srt ht
 have:=Qxi h.slowAll h.slow t
 unfold arrA; omega
theorem Qz1 {l:List Pt} (h:∀ i,i<l.length→okS l i) {t t':Int} (ht:t≤t'):Qh3 l t≤Qh3 l t':=by
 have:∀ i:Nat,i≤l.length→Qh3 (l.take i) t≤Qh3 (l.take i) t':=by
  intro i
  induction i with
  | zero=>intro _; simp [Qh3]
  | succ i ih =>
   intro hi
   have e1:l[i]?=some (l[i]'(by omega)):=List.getElem?_eq_getElem _
   have:=QFN h e1
   rw [QqV e1,QqV e1]
   have:=ih (by omega)
   split <;> split <;> omega
 have:=this l.length (Nat.le_refl _)
 rwa [List.take_length] at this
theorem QDz {np:Nat} {a:Qai} (h:QBC np a) {t t':Int} (ht:t≤t'):arrA a t≤arrA a t':=by
 have:=QAd h.travel.srt ht
 have:=Qz1 h.slowAll ht
 unfold arrA; omega
theorem QAX {l:List Pt} {t r:Int} (h:∀ i,i<l.length→okS l i) (hl:l.length≤16) (hr:0≤r) (hr':r≤2147483648) {B:Int×Int→Option ((Int×Int)⊕Int)}
  (hB:∀ out i,B (out,i)=br (ltI i (lenI l)) (bnd (getI l i) fun x0=>br (leI x0.t t) (some (.inl ((addK .i64 out x0.a),(addK .i64 i 1)))) (some (.inl (out,(addK .i64 i 1))))) (some (.inr out))) :
  QaX B (r,0)=some (r+Qh3 l t):=by
 have e:QaX B ((fun i:Nat=>(r+Qh3 (l.take i) t,(i:Int))) 0)=some (r+Qh3 l t):=by
  refine QeO l.length (fun i:Nat=>(r+Qh3 (l.take i) t,(i:Int))) (by omega) (fun i hi=>?_) ?_
  ·have e1:l[i]?=some l[i]:=List.getElem?_eq_getElem hi
   have hb:=Qxh h t i (by omega)
   have hp:=QFN h e1
   show B (_,_)=some (.inl (_,_))
   rw [hB,Qbp (by simp [lenI]; exact hi),QaZ e1,Qan,QqV e1,show addK .i64 (i:Int) 1=((i+1:Nat):Int) by rw [addI (by omega) (by omega)]; omega]
   by_cases hc:l[i].t≤t
   ·rw [Qbp (by simpa using hc),if_pos hc,addI (by omega) (by omega),Int.add_assoc]
   ·rw [Qby (by simp; omega),if_neg hc,Int.add_zero]
  ·show B (_,_)=_
   rw [hB,Qby (by simp [lenI]),List.take_length]
 simpa [Qh3] using e
theorem QyS {np:Nat} {a:Qai} (h:QBC np a) {t:Int} (ht:inT t):QhJ a t=some (arrA a t):=by
 have h1:=QAb h.travel.srt h.travel.ne t
 have h2:=QAc h.travel.srt ht.1
 unfold inT at ht
 unfold QhJ
 rw [Qu4 h.travel ht,Qan,QAX h.slowAll h.slow (by omega) (by omega) (fun out i=>rfl),Qan]
 rfl
theorem QtL {np:Nat} {a:Qai} (h:QBC np a) {t:Int} (ht:inT t):Qgh a t=some (arrA a t):=by
 have h1:=QAb h.travel.srt h.travel.ne t
 have h2:=QAc h.travel.srt ht.1
 unfold inT at ht
 unfold Qgh
 rw [Qvv h.travel ht,Qan,QAX h.slowAll h.slow (by omega) (by omega) (fun out i=>rfl),Qan]
 rfl

theorem QAn {α E:Type} {l:List α} (p:α→Bool) (Y:α→E) (N:E) (hl:l.length≤1048576) {B:Int→Option (Int⊕E)}
  (hB:∀ i,B i=br (ltI i (lenI l)) (bnd (getI l i) fun x=>br (p x) (some (.inr (Y x))) (some (.inl (addK .i64 i 1)))) (some (.inr N))) :
  QaX B 0=some (match l.find? p with|some x=>Y x|none=>N):=by
 apply post.eq
 refine Qfw (fun i=>∃ k:Nat,i=(k:Int)∧k≤l.length∧(l.drop k).find? p=l.find? p) (fun i=>l.length-i.toNat) ⟨0,rfl,Nat.zero_le _,rfl⟩ (by simp; omega) ?_
 rintro _ ⟨k,rfl,hk,hf⟩
 rw [hB]
 refine Qa2 (fun hb=>?_) (fun hb=>Qfm ?_)
 ·simp only [Qou,lenI] at hb
  have hk':k<l.length:=by omega
  have e1:l[k]?=some l[k]:=List.getElem?_eq_getElem hk'
  rw [List.drop_eq_getElem_cons hk',List.find?_cons] at hf
  rw [QaZ e1,Qan,inc hk' hl]
  refine Qa2 (fun hc=>Qfm ?_) (fun hc=>Qic ⟨⟨k+1,by simp,by omega,?_⟩,by simp; omega⟩)
  ·rw [hc] at hf; simp only at hf; rw [← hf]
  ·rw [hc] at hf; simpa using hf
 ·simp only [Qtb,lenI] at hb
  rw [List.drop_eq_nil_of_le (by omega)] at hf
  rw [← hf]; rfl
def QDU (profile from_ to_:Int) (a:Qai):Bool:=decide (a.from_=from_∧a.to_=to_∧a.profile=profile)
def QBg (n:Qag) (profile from_ to_:Int):Qai×Bool:=match n.arcs.find? (QDU profile from_ to_) with
 | some a=>(a,true)
 | none=>(Qai.mk 0 0 0 0 [] [],false)
theorem QGC {n:Qag} (h:n.arcs.length≤1048576) (profile from_ to_:Int):Qn1 n profile from_ to_=some (QBg n profile from_ to_):=by
 unfold Qn1 QBg
 have:=QAn (QDU profile from_ to_) (fun a=>(Sum.inr (a,true):Unit⊕(Qai×Bool))) (.inl ()) h (B:=fun s=>QhI n profile from_ to_ s) (fun i=>by
  unfold QhI
  congr 2
  funext x
  unfold QfE
  rw [Qan]
  congr 1
  unfold QDU
  rw [Bool.eq_iff_iff]
  simp [and_assoc])
 rw [Qfs this]
 cases n.arcs.find? (QDU profile from_ to_) <;> rfl
theorem Qzi {n:Qag} (h:n.arcs.length≤1048576) (profile from_ to_:Int):QiS n profile from_ to_=some (QBg n profile from_ to_):=by
 unfold QiS QBg
 have:=QAn (QDU profile from_ to_) (fun a=>(Sum.inr (a,true):Unit⊕(Qai×Bool))) (.inl ()) h (B:=fun s=>QfJ n profile from_ to_ s) (fun i=>by
  unfold QfJ
  congr 2
  funext x
  congr 1
  unfold QDU
  rw [Bool.eq_iff_iff]
  simp [and_assoc])
 rw [Qfs this]
 cases n.arcs.find? (QDU profile from_ to_) <;> rfl
theorem Qyi {n:Qag} {profile from_ to_:Int} (h:(QBg n profile from_ to_).2=true):(QBg n profile from_ to_).1∈n.arcs∧QDU profile from_ to_ (QBg n profile from_ to_).1=true:=by
 unfold QBg at h ⊢
 cases hf:n.arcs.find? (QDU profile from_ to_) with
 | none=>rw [hf] at h; cases h
 | some a=>exact ⟨List.mem_of_find?_eq_some hf,List.find?_some hf⟩
def QfT (n:Qag) (i:Int):Bool:=decide (0≤i∧i<n.places.length)
theorem Qt2 (n:Qag) (i:Int):QeD n i=some (QfT n i):=by
 unfold QeD QfT lenI
 congr 1
 rw [Bool.eq_iff_iff]; simp
theorem QuI (n:Qag) (i:Int):QgT n i=some (QfT n i):=by
 unfold QgT QfT lenI
 congr 1
 rw [Bool.eq_iff_iff]; simp
def goN (n:Qag) (profile from_ to_ t:Int):Int×Int×Int :=
 if QfT n from_=true∧QfT n to_=true then
  if from_=to_ then (t,0,0) else
  if (QBg n profile from_ to_).2=true then (arrA (QBg n profile from_ to_).1 t,(QBg n profile from_ to_).1.miles,0) else (0,0,12)
 else (0,0,11)
theorem go_eq {n:Qag} (h:Qzv n) (profile from_ to_:Int) {t:Int} (ht:inT t):Qn2 n profile from_ to_ t=some (goN n profile from_ to_ t):=by
 unfold Qn2 goN
 rw [Qt2,Qan,Qt2,Qan,QGC (by have:=h.arcs; omega),Qan]
 simp only [QH8,QxR]
 by_cases h1:QfT n from_=true
 ·by_cases h2:QfT n to_=true
  ·rw [if_pos h1,if_pos h2,if_pos (And.intro h1 h2)]
   by_cases h3:from_=to_
   ·rw [if_pos h3,if_pos h3]
   ·rw [if_neg h3,if_neg h3]
    by_cases h4:(QBg n profile from_ to_).2=true
    ·rw [if_pos h4,if_pos h4,QyS (h.all _ (Qyi h4).1) ht,Qan]
    ·rw [if_neg h4,if_neg h4]
  ·rw [if_pos h1,if_neg h2,if_neg (fun h:QfT n from_=true∧QfT n to_=true=>h2 h.2)]
 ·rw [if_neg h1,if_neg (fun h:QfT n from_=true∧QfT n to_=true=>h1 h.1)]
theorem QBo {n:Qag} (h:Qzv n) (profile from_ to_:Int) {t:Int} (ht:inT t):Qlp n profile from_ to_ t=some (goN n profile from_ to_ t):=by
 unfold Qlp goN
 rw [QuI,Qan,QuI,Qan,Qzi (by have:=h.arcs; omega),Qan]
 simp only [QH8,QxR]
 by_cases h1:QfT n from_=true
 ·by_cases h2:QfT n to_=true
  ·rw [if_pos h1,if_pos h2,if_pos (And.intro h1 h2)]
   by_cases h3:from_=to_
   ·rw [if_pos h3,if_pos h3]
   ·rw [if_neg h3,if_neg h3]
    by_cases h4:(QBg n profile from_ to_).2=true
    ·rw [if_pos h4,if_pos h4,QtL (h.all _ (Qyi h4).1) ht,Qan]
    ·rw [if_neg h4,if_neg h4]
  ·rw [if_pos h1,if_neg h2,if_neg (fun h:QfT n from_=true∧QfT n to_=true=>h2 h.2)]
 ·rw [if_neg h1,if_neg (fun h:QfT n from_=true∧QfT n to_=true=>h1 h.1)]

end Go.Proofs.YtbilkblifgaflaaGreatDoor
namespace Go.Proofs.YtbilkblifgaflaaGreatDoor
set_option linter.unusedSimpArgs false
set_option linter.unusedVariables false
set_option linter.unusedSectionVars false

def Stg (f:List Int→Option (List Int)) (c:Nat) (P:Prop):Prop:=∀ l:List Int,l.length+c≤100→post (f l) (Ext l c P)
section
variable {f : List Int → Option (List Int)} {c : Nat} {P Q : Prop} {l : List Int} {e : Int}
theorem Stg.bad (h:Stg f c P) (hl:l.length+(c+1)≤100):post (chk (okN (l++[e]).length 8) (f (l++[e]))) (Ext l (c+1) Q) :=
 QbP (QcW (by simp; omega)) ((h (l++[e]) (by simp; omega)).mono fun x hx=>(Ext.one (P:=False) (Nat.le_refl 1) trivial).trans hx (by omega) fun h _=>h.elim)
theorem Stg.good (h:Stg f c P) (hl:l.length+(c+1)≤100) (hp:P→Q):post (f l) (Ext l (c+1) Q):=(h l (by omega)).mono fun x hx=>hx.mono (by omega) hp
theorem QxQ (hl:l.length+1≤100):post (chk (okN (l++[e]).length 8) (some (l++[e]))) (Ext l 1 Q):=QbP (QcW (by simp; omega)) (QaY.2 (.one (Nat.le_refl 1) trivial))
theorem QB8 (hq:Q):post (some l) (Ext l 1 Q):=QaY.2 (.nil hq)
end
section
variable {α : Type} {n lo hi : Int} {f : Bool → Option α} {Q : α → Prop}
theorem Qjj (h:post (f (decide (lo≤n∧n≤hi))) Q):post (bnd (QaU n lo hi) f) Q:=by
 have:QaU n lo hi=some (decide (lo≤n∧n≤hi)):=by
  unfold QaU
  congr 1
  rw [Bool.eq_iff_iff,andT,Qxr,QzK,decide_eq_true_iff]
 rw [this]; exact h
theorem QwA (h:post (f (decide (lo≤n∧n≤hi))) Q):post (bnd (Qb2 n lo hi) f) Q:=Qjj h
end
theorem Qwr {E:Type} {B:Int→Option (Int⊕E)} (n:Nat) (R:E→Prop) (P:Nat→Prop) (hn:n<18446744073709551615)
  (step:∀ i,i<n→post (B (i:Int)) fun x=>(x=.inl ((i:Int)+1)∧P i)∨∃ e,x=.inr e∧R e) (fin:post (B (n:Int)) fun x=>∃ e,x=.inr e∧((∀ i,i<n→P i)→R e)):post (QaX B 0) R:=by
 refine Qfw (fun i=>∃ k:Nat,i=(k:Int)∧k≤n∧∀ j,j<k→P j) (fun i=>n-i.toNat) ⟨0,rfl,Nat.zero_le _,by simp⟩ (by simp; omega) ?_
 rintro _ ⟨k,rfl,hk,hP⟩
 by_cases h:k<n
 ·refine (step k h).mono ?_
  rintro x (⟨rfl,hp⟩|⟨e,rfl,he⟩)
  ·refine ⟨fun s' hs=>?_,fun _ h=>by (cases h)⟩
   cases hs
   refine ⟨⟨k+1,by simp,by omega,fun j hj=>?_⟩,by simp; omega⟩
   rcases Nat.lt_or_ge j k with h|h
   ·exact hP j h
   ·obtain rfl:j=k:=by omega
    exact hp
  ·exact ⟨fun _ h=>(by cases h),fun e' he'=>by cases he'; exact he⟩
 ·obtain rfl:k=n:=by omega
  refine fin.mono ?_
  rintro x ⟨e,rfl,he⟩
  exact ⟨fun _ h=>(by cases h),fun e' he'=>by cases he'; exact he hP⟩

structure QHg (np dims:Nat) (t:Qaf):Prop where
 count:0≤t.count∧t.count≤10
 from_:0≤t.from_∧t.from_<np
 to_:0≤t.to_∧t.to_<np
 dims1:1≤dims∧dims≤3
 cap:t.cap.length=dims
 caps:∀ i,i<t.cap.length→∀ x,t.cap[i]?=some x→0≤x∧x≤1000
 skills:0≤t.skills∧t.skills≤1073741823
 opn:0≤t.open_∧t.open_≤t.close
 close:t.close≤4096
 drive:1≤t.drive∧t.drive≤4096
 rest:0≤t.rest_∧t.rest_≤4096
 profile:0≤t.profile∧t.profile≤7
 fixed:0≤t.fixed∧t.fixed≤100000
 perMile:0≤t.perMile∧t.perMile≤100
 perTick:0≤t.perTick∧t.perTick≤100
section
variable {x0 : Qaf} {n : Qag} {l0 : List Qaf}
abbrev P8 (x0:Qaf):Prop:=(0≤x0.profile∧x0.profile≤7)∧(0≤x0.fixed∧x0.fixed≤100000)∧(0≤x0.perMile∧x0.perMile≤100)∧(0≤x0.perTick∧x0.perTick≤100)
theorem ty8:Stg (QdH x0) 1 (P8 x0):=fun l hl=>by
 unfold QdH
 refine Qjj (Qa2 (fun h1=>Qjj (Qa2 (fun h2=>Qjj (Qa2 (fun h3=>Qjj (Qa2 (fun h4=>QB8 ?_) (fun _=>QxQ hl))) (fun _=>QxQ hl))) (fun _=>QxQ hl))) (fun _=>QxQ hl))
 exact ⟨of_decide_eq_true h1,of_decide_eq_true h2,of_decide_eq_true h3,of_decide_eq_true h4⟩
abbrev P7 (x0:Qaf):Prop:=(1≤x0.drive∧x0.drive≤4096)∧(0≤x0.rest_∧x0.rest_≤4096)∧P8 x0
theorem ty7:Stg (QdG x0) 2 (P7 x0):=fun l hl=>by
 unfold QdG
 exact Qjj (Qa2 (fun h1=>Qjj (Qa2 (fun h2=>ty8.good hl fun h=>⟨of_decide_eq_true h1,of_decide_eq_true h2,h⟩) (fun _=>ty8.bad hl))) (fun _=>ty8.bad hl))
abbrev P6 (x0:Qaf):Prop:=(0≤x0.open_∧x0.open_≤x0.close)∧x0.close≤4096∧P7 x0
theorem ty6:Stg (QdF x0) 3 (P6 x0):=fun l hl=>by
 unfold QdF
 refine Qjj (Qa2 (fun _=>ty7.bad hl) (fun h1=>ty7.good hl fun h=>?_))
 simp only [orF,ntF,Qu6] at h1
 exact ⟨of_decide_eq_true h1.1,h1.2,h⟩
abbrev P5 (x0:Qaf):Prop:=(0≤x0.skills∧x0.skills≤1073741823)∧P6 x0
theorem ty5:Stg (QdE x0) 4 (P5 x0):=fun l hl=>by
 unfold QdE
 exact Qjj (Qa2 (fun h1=>ty6.good hl fun h=>⟨of_decide_eq_true h1,h⟩) (fun _=>ty6.bad hl))
def Qur (l:List Qaf):Nat:=match l with
 | []=>0
 | t :: _=>t.cap.length
theorem QyW:QfC l0=some (Qur l0:Int):=by
 unfold QfC Qur
 cases l0 with
 | nil=>rfl
 | cons t r =>
  rw [Qby (by simp [lenI]; omega),show (0:Int)=((0:Nat):Int) from rfl,QaZ (a:=t) rfl]; rfl
abbrev P4 (dims:Nat) (x0:Qaf):Prop:=(1≤dims∧dims≤3)∧x0.cap.length=dims∧(∀ i,i<x0.cap.length→∀ x,x0.cap[i]?=some x→0≤x∧x≤1000)∧P5 x0
theorem QFe {c:List Int} {dims:Nat} (hc:c.length≤1048576):post (Qdz c dims) fun r=>r=true→(1≤dims∧dims≤3)∧c.length=dims∧∀ i,i<c.length→∀ x,c[i]?=some x→0≤x∧x≤1000:=by
 unfold Qdz
 refine Qjj (Qa2 (fun _=>QaY.2 fun h=>by cases h) (fun h1=>?_))
 simp only [orF,ntF,QES,lenI,decide_eq_true_iff] at h1
 have h2:=of_decide_eq_true h1.1
 refine Qbk (R:=fun e:Unit⊕Bool=>(∃ u,e=.inl u∧∀ i,i<c.length→∀ x,c[i]?=some x→0≤x∧x≤1000)∨e=.inr false) ?_ fun e he=>?_
 ·refine Qwr (B:=fun s=>Qa6 c s) c.length _ (fun i=>∀ x,c[i]?=some x→0≤x∧x≤1000) (by omega) (fun i hi=>?_) ?_
  ·show post (Qa6 c (i:Int)) _
   unfold Qa6
   have e1:c[i]?=some c[i]:=List.getElem?_eq_getElem hi
   rw [Qbp (by simp [lenI]; omega),QaZ e1,Qan,inc hi hc]
   exact Qjj (Qa2 (fun h=>QaY.2 (.inl ⟨rfl,fun x hx=>by rw [e1] at hx; cases hx; exact of_decide_eq_true h⟩)) (fun _=>QaY.2 (.inr ⟨_,rfl,.inr rfl⟩)))
  ·show post (Qa6 c (c.length:Int)) _
   unfold Qa6
   rw [Qby (by simp [lenI])]
   exact QaY.2 ⟨_,rfl,fun h=>.inl ⟨_,rfl,h⟩⟩
 ·rcases he with ⟨u,rfl,h⟩|rfl
  ·have hd:(1≤dims∧dims≤3)∧c.length=dims:=by omega
   rw [QrG]; exact QaY.2 fun _=>⟨hd.1,hd.2,h⟩
  ·rw [QAU]; exact QaY.2 fun h=>by cases h
theorem ty4 (hc:x0.cap.length≤1048576):Stg (QdD l0 x0) 5 (P4 (Qur l0) x0):=fun l hl=>by
 unfold QdD
 rw [QyW,Qan]
 exact Qbk (QFe hc) fun r hr=>Qa2 (fun h=>ty5.good hl fun h'=>⟨(hr h).1,(hr h).2.1,(hr h).2.2,h'⟩) (fun _=>ty5.bad hl)
abbrev P3 (np dims:Nat) (x0:Qaf):Prop:=(0≤x0.from_∧x0.from_<np)∧(0≤x0.to_∧x0.to_<np)∧P4 dims x0
theorem ty3 (hn:n.places.length≤1048576) (hc:x0.cap.length≤1048576):Stg (QdC n l0 x0) 6 (P3 n.places.length (Qur l0) x0):=fun l hl=>by
 unfold QdC
 have hs:subK .i64 (lenI n.places) 1=(n.places.length:Int)-1:=by unfold lenI; exact subI (by omega) (by omega)
 rw [hs]
 refine Qjj (Qa2 (fun h1=>Qjj (Qa2 (fun h2=>(ty4 hc).good hl fun h=>⟨?_,?_,h⟩) (fun _=>(ty4 hc).bad hl))) (fun _=>(ty4 hc).bad hl))
 ·have:=of_decide_eq_true h1; omega
 ·have:=of_decide_eq_true h2; omega
theorem ty2 (hn:n.places.length≤1048576) (hc:x0.cap.length≤1048576):Stg (QdB n l0 x0) 7 ((0≤x0.count∧x0.count≤10)∧P3 n.places.length (Qur l0) x0):=fun l hl=>by
 unfold QdB
 exact Qjj (Qa2 (fun h1=>(ty3 hn hc).good hl fun h=>⟨of_decide_eq_true h1,h⟩) (fun _=>(ty3 hn hc).bad hl))
theorem QCs {i:Nat} {s:ByteArray} (hi:i≤l0.length) (hl:l0.length≤1048576):post (QfW l0 (i:Int) s) fun _=>True:=by
 unfold QfW
 refine Qbk (R:=fun _=>True) ?_ fun e _=>by cases e <;> exact QaY.2 trivial
 refine Qwr (B:=fun x=>Qbu l0 (i:Int) s x) i _ (fun _=>True) (by omega) (fun k hk=>?_) ?_
 ·show post (Qbu l0 (i:Int) s (k:Int)) _
  unfold Qbu
  have e1:l0[k]?=some (l0[k]'(by omega)):=List.getElem?_eq_getElem _
  rw [Qbp (by simp; omega),QaZ e1,Qan,inc (n:=i) hk (by omega)]
  exact Qa2 (fun _=>QaY.2 (.inr ⟨_,rfl,trivial⟩)) (fun _=>QaY.2 (.inl ⟨rfl,trivial⟩))
 ·show post (Qbu l0 (i:Int) s (i:Int)) _
  unfold Qbu
  rw [Qby (by simp)]
  exact QaY.2 ⟨_,rfl,fun _=>trivial⟩
structure TypI (t:Qaf):Prop where
 name:t.name.size≤1048576
 cap:t.cap.length≤1048576
theorem QzU (hn:n.places.length≤1048576) (hl:l0.length≤1048576) {i:Nat} (hx:l0[i]?=some x0) (hI:TypI x0):post (Qel n l0 (i:Int)) (Ext [] 9 (QHg n.places.length (Qur l0) x0)):=by
 unfold Qel
 rw [QaZ hx,Qan]
 have hi:=(List.getElem?_eq_some_iff.1 hx).1
 have h1:Stg (QdA n l0 (i:Int) x0) 8 ((0≤x0.count∧x0.count≤10)∧P3 n.places.length (Qur l0) x0):=fun l hl'=>by
  unfold QdA
  exact Qbk (QCs (by omega) hl) fun r _=>Qa2 (fun _=>(ty2 hn hI.cap).bad hl') (fun _=>(ty2 hn hI.cap).good hl' id)
 refine Qbk (Qwo _ hI.name) fun r _=>Qa2 (fun _=>h1.good (by simp) fun h=>?_) (fun _=>h1.bad (l:=[]) (by simp))
 obtain ⟨a,⟨b,c,d,e,f,g,⟨h,i,j,k,l,m,o,p⟩⟩⟩:=h
 exact ⟨a,b,c,d,e,f,g,h,i,j,k,l,m,o,p⟩
theorem QyV {r:List Int} {s:ByteArray} {i:Nat} (hi:i<1048576) (hr:r.length≤100) (out:List Qaa) (ho:out.length≤209715200) {B:List Qaa×Int→Option ((List Qaa×Int)⊕(List Qaa))}
  (hB:∀ l3 k,B (l3,k)=br (ltI k (lenI r)) (bnd (getI r k) fun x0=>bnd (Qa8 (i:Int)) fun r2=>chk (okN (l3++[(Qaa.mk x0 r2)]).length 24) (some (.inl ((l3++[(Qaa.mk x0 r2)]),(addK .i64 k 1))))) (some (.inr l3))) :
  post (QaX B (out,0)) (Ext out r.length (r=[])):=by
 refine (Ql7 r.length 1 (fun _=>False) out (by omega) (fun k o hk ho'=>?_) (fun o=>?_)).mono fun x hx=>hx.mono (by omega) fun h=>?_
 ·have e1:r[k]?=some r[k]:=List.getElem?_eq_getElem hk
  rw [hB,Qbp (by simp [lenI]; exact hk),QaZ e1,Qan,inc hk (by omega)]
  exact Qbk (QkO (i:Int) (QxY (by omega))) fun s hs=>QbP (QcW (by simp; omega)) (Qw9 rfl (by omega) (QDs (by omega)))
 ·rw [hB,Qby (by simp [lenI])]
 ·cases r with
  | nil=>rfl
  | cons y ys=>exact (h 0 (by simp)).elim
theorem Ext.len0 {α:Type} [Sm α] {r:List α} {c:Nat} {P:Prop} (h:Ext [] c P r):r.length≤c:=by have:=h.len; simpa using this
theorem QwC (hn:n.places.length≤1048576) (hl:l0.length≤1048576) (hI:∀ t∈l0,TypI t):post (QfV n l0) (Ext [] (1+9*l0.length) ((1≤l0.length∧l0.length≤6)∧∀ t∈l0,QHg n.places.length (Qur l0) t)):=by
 have main:∀ l1:List Qaa,l1.length≤1→post (Qej n l0 l1) (Ext l1 (9*l0.length) (∀ i,i<l0.length→∀ t,l0[i]?=some t→QHg n.places.length (Qur l0) t)):=by
  intro l1 h1
  refine QqM ?_
  refine (Ql7 l0.length 9 _ l1 (by omega) (fun i out hi ho=>?_) (fun out=>?_)).mono fun r h=>QaY.2 h
  ·show post (Qcd n l0 out (i:Int)) _
   unfold Qcd
   have e1:l0[i]?=some l0[i]:=List.getElem?_eq_getElem hi
   rw [Qbp (by simp [lenI]; exact hi),inc hi hl]
   refine Qbk (QzU hn hl e1 (hI _ (List.getElem_mem hi))) fun r1 hr1=>?_
   have:=hr1.len0
   refine Qbk (QyV (i:=i) (s:=ByteArray.empty) (by omega) (by omega) out (by omega) (fun _ _=>rfl)) fun l4 h4=>QaY.2 ⟨_,rfl,h4.mono this fun h=>?_⟩
   intro t ht
   rw [e1] at ht; cases ht
   exact hr1.of_nil h
  ·show Qcd n l0 out (l0.length:Int)=_
   unfold Qcd
   rw [Qby (by simp [lenI])]
 unfold QfV
 refine Qjj (Qa2 (fun h=>(main [] (by simp)).mono fun r hr=>hr.mono (by omega) fun h'=>⟨?_,fun t ht=>?_⟩) (fun h=>QbP (QcW (by simp)) ((main _ (by simp)).mono fun r hr=>(Ext.one (P:=False) (Nat.le_refl 1) (QDs (s:=ByteArray.empty) (by simp [ByteArray.size_empty]))).trans hr (by omega) fun h _=>h.elim)))
 ·have:=of_decide_eq_true h; simp only [lenI] at this; omega
 ·obtain ⟨i,hi⟩:=List.getElem?_of_mem ht
  exact h' i (List.getElem?_eq_some_iff.1 hi).1 t hi
end
end Go.Proofs.YtbilkblifgaflaaGreatDoor
namespace Go.Proofs.YtbilkblifgaflaaGreatDoor
set_option linter.unusedSimpArgs false
set_option linter.unusedVariables false
set_option linter.unusedSectionVars false

def QDw (np:Nat) (s:Qap):Prop:=(s.place=-1∧s.open_=0∧s.close=0∧s.service=0)∨(0≤s.place∧s.place<np∧0≤s.open_∧s.open_≤s.close∧s.close≤4096∧0≤s.service∧s.service≤4096)
structure QF9 (np dims types:Nat) (o:Qac):Prop where
 load:o.load.length=dims
 loads:∀ i,i<o.load.length→∀ x,o.load[i]?=some x→0≤x∧x≤1000
 pick:QDw np o.pick
 drop:QDw np o.drop
 one:¬ (o.pick.place=-1∧o.drop.place=-1)
 skills:0≤o.skills∧o.skills≤1073741823
 penalty:-1≤o.penalty∧o.penalty≤1000000
 split:1≤o.split∧o.split≤4
 whole:1<o.split→o.pick.place=-1∨o.drop.place=-1
 last:-1≤o.last_∧o.last_<types
 now:-1≤o.now∧o.now<types
section
variable {x0 : Qac} {types : Nat} {np : Nat} {dims : Nat}
abbrev Q5 (types:Nat) (x0:Qac):Prop:=(-1≤x0.penalty∧x0.penalty≤1000000)∧(1≤x0.split∧x0.split≤4)∧(1<x0.split→x0.pick.place=-1∨x0.drop.place=-1)∧(-1≤x0.last_∧x0.last_<types)∧(-1≤x0.now∧x0.now<types)
theorem or5:Stg (Qcf types x0) 1 (Q5 types x0):=fun l hl=>by
 unfold Qcf
 refine QwA (Qa2 (fun h1=>QwA (Qa2 (fun _=>QxQ hl) (fun h2=>QB8 ?_))) (fun _=>QxQ hl))
 simp only [orF,andF,ntF,Qu6,QES,Qtb,QFu] at h2
 have h3:=of_decide_eq_true h1
 have h4:=of_decide_eq_true h2.1.1.1.1.1
 obtain ⟨⟨⟨⟨⟨_,h5⟩,h6⟩,h7⟩,h8⟩,h9⟩:=h2
 exact ⟨h3,h4,fun h=>by rcases h5 with h5|h5; omega; exact h5,⟨h6,h7⟩,⟨h8,h9⟩⟩
abbrev Q6 (types:Nat) (x0:Qac):Prop:=(0≤x0.skills∧x0.skills≤1073741823)∧Q5 types x0
theorem or6:Stg (Qbm types x0) 2 (Q6 types x0):=fun l hl=>by
 unfold Qbm
 exact QwA (Qa2 (fun h1=>or5.good hl fun h=>⟨of_decide_eq_true h1,h⟩) (fun _=>or5.bad hl))
def QHx (s:Qap):Prop:=(s.place=-1∧s.open_=0∧s.close=0∧s.service=0)∨(0≤s.place∧0≤s.open_∧s.open_≤s.close∧s.close≤4096∧0≤s.service∧s.service≤4096)
theorem QDn (s:Qap):post (Qcc s) fun r=>r=0→QHx s:=by
 unfold Qcc
 refine Qa2 (fun h=>QaY.2 fun _=>.inl ?_) (fun _=>Qa2 (fun _=>QaY.2 fun h=>absurd h (by decide)) (fun h=>QaY.2 fun _=>.inr ?_))
 ·simp only [andT,QxR] at h; exact ⟨h.1.1.1,h.1.1.2,h.1.2,h.2⟩
 ·simp only [orF,Qtb,Qu6] at h; omega
abbrev Q4 (types:Nat) (x0:Qac):Prop:=QHx x0.pick∧QHx x0.drop∧Q6 types x0
theorem or4:Stg (QbY types x0) 3 (Q4 types x0):=fun l hl=>by
 unfold QbY
 refine Qbk (QDn _) fun r4 h4=>Qa2 (fun _=>or6.bad hl) (fun h=>Qbk (QDn _) fun r8 h8=>Qa2 (fun _=>or6.bad hl) (fun h'=>or6.good hl fun h6=>⟨h4 (by simpa using h),h8 (by simpa using h'),h6⟩))
abbrev Q3 (types:Nat) (x0:Qac):Prop:=¬ (x0.pick.place=-1∧x0.drop.place=-1)∧Q4 types x0
theorem or3:Stg (Qbv types x0) 4 (Q3 types x0):=fun l hl=>by
 unfold Qbv
 refine Qa2 (fun _=>or4.bad hl) (fun h=>or4.good hl fun h'=>⟨?_,h'⟩)
 simp only [andF,QBE] at h; omega
abbrev Q2 (np types:Nat) (x0:Qac):Prop:=(-1≤x0.pick.place∧x0.pick.place<np)∧(-1≤x0.drop.place∧x0.drop.place<np)∧Q3 types x0
theorem or2 (hn:np≤1048576):Stg (Qa7 np types x0) 5 (Q2 np types x0):=fun l hl=>by
 unfold Qa7
 have hs:subK .i64 (np:Int) 1=(np:Int)-1:=subI (by omega) (by omega)
 rw [hs]
 refine QwA (Qa2 (fun h1=>QwA (Qa2 (fun h2=>or3.good hl fun h=>⟨?_,?_,h⟩) (fun _=>or3.bad hl))) (fun _=>or3.bad hl))
 ·have:=of_decide_eq_true h1; omega
 ·have:=of_decide_eq_true h2; omega
theorem QzT {c:List Int} (hc:c.length≤1048576):post (Qef c dims) fun r=>r=true→c.length=dims∧∀ i,i<c.length→∀ x,c[i]?=some x→0≤x∧x≤1000:=by
 unfold Qef
 refine Qa2 (fun _=>QaY.2 fun h=>by cases h) (fun h1=>?_)
 simp only [QES,lenI] at h1
 have hd:c.length=dims:=by omega
 refine Qbk (R:=fun e:Unit⊕Bool=>(∃ u,e=.inl u∧∀ i,i<c.length→∀ x,c[i]?=some x→0≤x∧x≤1000)∨e=.inr false) ?_ fun e he=>?_
 ·refine Qwr (B:=fun s=>Qbl c s) c.length _ (fun i=>∀ x,c[i]?=some x→0≤x∧x≤1000) (by omega) (fun i hi=>?_) ?_
  ·show post (Qbl c (i:Int)) _
   unfold Qbl
   have e1:c[i]?=some c[i]:=List.getElem?_eq_getElem hi
   rw [Qbp (by simp [lenI]; omega),QaZ e1,Qan,inc hi hc]
   refine Qa2 (fun _=>QaY.2 (.inr ⟨_,rfl,.inr rfl⟩)) (fun h2=>Qa2 (fun _=>QaY.2 (.inr ⟨_,rfl,.inr rfl⟩)) (fun h3=>QaY.2 (.inl ⟨rfl,fun x hx=>?_⟩)))
   rw [e1] at hx; cases hx
   simp only [Qtb,Qu6] at h2 h3
   exact ⟨h2,h3⟩
  ·show post (Qbl c (c.length:Int)) _
   unfold Qbl
   rw [Qby (by simp [lenI])]
   exact QaY.2 ⟨_,rfl,fun h=>.inl ⟨_,rfl,h⟩⟩
 ·rcases he with ⟨u,rfl,h⟩|rfl
  ·rw [QrG]; exact QaY.2 fun _=>⟨hd,h⟩
  ·rw [QAU]; exact QaY.2 fun h=>by cases h
structure OrdI (o:Qac):Prop where
 name:o.name.size≤1048576
 load:o.load.length≤1048576
theorem QzV {l:List Qac} (hn:np≤1048576) (hl:l.length≤1048576) {i:Nat} (hx:l[i]?=some x0) (hI:OrdI x0):post (Qeo np dims types l (i:Int)) (Ext [] 9 (QF9 np dims types x0)):=by
 unfold Qeo
 rw [QaZ hx,Qan]
 have hi:=(List.getElem?_eq_some_iff.1 hx).1
 have hb:Stg (fun l2=>bnd (Qef x0.load dims) fun r1=>br r1 (Qa7 np types x0 l2) (chk (okN (l2++[17]).length 8) (Qa7 np types x0 (l2++[17])))) 6 ((x0.load.length=dims∧∀ i,i<x0.load.length→∀ x,x0.load[i]?=some x→0≤x∧x≤1000)∧Q2 np types x0):=fun l hl' =>
  Qbk (QzT hI.load) fun r hr=>Qa2 (fun h=>(or2 hn).good hl' fun h'=>⟨hr h,h'⟩) (fun _=>(or2 hn).bad hl')
 have h1:Stg (QdI np dims types l (i:Int) x0) 7 ((x0.load.length=dims∧∀ i,i<x0.load.length→∀ x,x0.load[i]?=some x→0≤x∧x≤1000)∧Q2 np types x0):=fun l1 hl'=>by
  unfold QdI
  refine Qbk (R:=Ext l1 1 True) ?_ fun l2 h2=>?_
  ·refine Qwr (B:=fun s=>Qbn np dims types l (i:Int) x0 l1 s) i _ (fun _=>True) (by omega) (fun k hk=>?_) ?_
   ·show post (Qbn np dims types l (i:Int) x0 l1 (k:Int)) _
    unfold Qbn
    have e1:l[k]?=some (l[k]'(by omega)):=List.getElem?_eq_getElem _
    rw [Qbp (by simp; omega),QaZ e1,Qan,inc (n:=i) hk (by omega)]
    exact Qa2 (fun _=>QbP (QcW (by simp; omega)) (QaY.2 (.inr ⟨_,rfl,.one (Nat.le_refl 1) trivial⟩))) (fun _=>QaY.2 (.inl ⟨rfl,trivial⟩))
   ·show post (Qbn np dims types l (i:Int) x0 l1 (i:Int)) _
    unfold Qbn
    rw [Qby (by simp)]
    exact QaY.2 ⟨_,rfl,fun _=>.nil trivial⟩
  ·have:=h2.len
   exact (hb l2 (by omega)).mono fun r hr=>h2.trans hr (by omega) fun _ h=>h
 refine Qbk (Qwo _ hI.name) fun r _=>Qa2 (fun _=>(h1.good (l:=[]) (by simp) fun h=>?_:post _ (Ext [] 8 (QF9 np dims types x0))).mono fun r hr=>hr.mono (by omega) id) (fun _=>(h1.bad (l:=[]) (by simp):post _ (Ext [] 8 (QF9 np dims types x0))).mono fun r hr=>hr.mono (by omega) id)
 obtain ⟨⟨a,b⟩,⟨c0,c⟩,⟨d0,d⟩,e,f,g,h,⟨i,j,k,m,o⟩⟩:=h
 refine ⟨a,b,?_,?_,e,h,i,j,k,m,o⟩
 ·rcases f with f|f
  ·exact .inl f
  ·exact .inr ⟨f.1,c,f.2⟩
 ·rcases g with g|g
  ·exact .inl g
  ·exact .inr ⟨g.1,d,g.2⟩
theorem QwD {n:Qag} {l:List Qac} (hn:n.places.length≤1048576) (hl:l.length≤1048576) (hI:∀ t∈l,OrdI t):post (QfX n dims types l) (Ext [] (1+9*l.length) (l.length≤10∧∀ t∈l,QF9 n.places.length dims types t)):=by
 have main:∀ l1:List Qaa,l1.length≤1→post (Qem n dims types l l1) (Ext l1 (9*l.length) (∀ i,i<l.length→∀ t,l[i]?=some t→QF9 n.places.length dims types t)):=by
  intro l1 h1
  refine QqM ?_
  refine (Ql7 l.length 9 _ l1 (by omega) (fun i out hi ho=>?_) (fun out=>?_)).mono fun r h=>QaY.2 h
  ·show post (Qce n dims types l out (i:Int)) _
   unfold Qce
   have e1:l[i]?=some l[i]:=List.getElem?_eq_getElem hi
   rw [Qbp (by simp [lenI]; exact hi),inc hi hl]
   refine Qbk (QzV hn hl e1 (hI _ (List.getElem_mem hi))) fun r1 hr1=>?_
   have:=hr1.len0
   refine Qbk (QyV (i:=i) (s:=ByteArray.empty) (by omega) (by omega) out (by omega) (fun _ _=>rfl)) fun l4 h4=>QaY.2 ⟨_,rfl,h4.mono this fun h=>?_⟩
   intro t ht
   rw [e1] at ht; cases ht
   exact hr1.of_nil h
  ·show Qce n dims types l out (l.length:Int)=_
   unfold Qce
   rw [Qby (by simp [lenI])]
 unfold QfX
 refine Qa2 (fun h=>QbP (QcW (by simp)) ((main _ (by simp)).mono fun r hr=>(Ext.one (P:=False) (Nat.le_refl 1) (QDs (s:=ByteArray.empty) (by simp [ByteArray.size_empty]))).trans hr (by omega) fun h _=>h.elim)) (fun h=>(main [] (by simp)).mono fun r hr=>hr.mono (by omega) fun h'=>⟨?_,fun t ht=>?_⟩)
 ·simp only [Qu6,lenI] at h; omega
 ·obtain ⟨i,hi⟩:=List.getElem?_of_mem ht
  exact h' i (List.getElem?_eq_some_iff.1 hi).1 t hi
end
def QBa (orders:Nat) (p:Qav):Prop:=0≤p.x0∧p.x0<orders∧0≤p.x1∧p.x1<orders∧p.x0≠p.x1
theorem Qup {i:Nat} (hi:i<1048576):post (QfK (i:Int)) fun s=>s.size≤21:=by
 unfold QfK
 refine Qbk (R:=fun e=>e.2.size≤20) ?_ fun e he=>QbP (by rw [Qns]; simp; omega) (QaY.2 (by rw [QgR,Qns]; simp; omega))
 refine Qfw (fun s=>∃ m k:Nat,s.1=(m:Int)∧m<1048576∧m<10 ^ k∧s.2.size+k≤20) (fun s=>s.1.toNat) ⟨i,7,rfl,hi,by omega,by simp [ByteArray.size_empty]⟩ (by simp; omega) ?_
 rintro ⟨_,s⟩ ⟨m,k,rfl,h0,h1,h2⟩
 simp only at h2
 show post (Qez (m:Int) s) _
 unfold Qez
 refine Qa2 (fun hb=>QbP (by rw [Qns]; simp; omega) (Qic ?_)) (fun _=>Qfm (show s.size≤20 by omega))
 simp only [Qxr] at hb
 have hq:quoK .i64 (m:Int) 10=((m / 10:Nat):Int):=by rw [QIk (by omega),Int.tdiv_eq_ediv_of_nonneg (by omega)]; omega
 obtain ⟨k,rfl⟩:∃ j,k=j+1:=⟨k-1,by
  rcases Nat.eq_zero_or_pos k with rfl|h
  ·simp at h1; omega
  ·omega⟩
 rw [hq]
 refine ⟨⟨m / 10,k,rfl,by omega,by rw [Nat.pow_succ] at h1; omega,?_⟩,by simp; omega⟩
 rw [QgR,Qns]
 simp; omega
theorem QxT {orders:Nat} {l:List Qav} {word:ByteArray} {turned:Bool} (hl:l.length≤1048576) (hw:word.size≤20):post (QeB orders l word turned) (Ext [] (1+l.length) (l.length≤16∧∀ p∈l,QBa orders p)):=by
 have main:∀ l1:List Qaa,l1.length≤1→post (Qd2 orders l word turned l1) (Ext l1 l.length (∀ i,i<l.length→∀ p,l[i]?=some p→QBa orders p)):=by
  intro l1 h1
  refine QqM ?_
  refine (Ql7 l.length 1 _ l1 (by omega) (fun i out hi ho=>?_) (fun out=>?_)).mono fun r h=>QaY.2 (h.mono (by omega) id)
  ·show post (Qbx orders l word turned out (i:Int)) _
   unfold Qbx
   have e1:l[i]?=some l[i]:=List.getElem?_eq_getElem hi
   rw [Qbp (by simp [lenI]; exact hi),inc hi hl,QaZ e1,Qan]
   have hs1:Qa1.size=1:=rfl
   refine QbP (by omega) (Qbk (Qup (by omega)) fun r hr=>QbP (by rw [QgR]; omega) ?_)
   have hsm:∀ {e:Int},Sm.sm (Qaa.mk e (catS (catS word Qa1) r)):=QDs (by rw [QgR,QgR]; omega)
   generalize l[i]=p at e1
   refine Qa2 (fun _=>QbP (QcW (by simp; omega)) (Qw9 rfl (Nat.le_refl 1) hsm)) (fun h=>?_)
   refine Qbk (R:=fun _=>True) ?_ fun tw _=>Qa2 (fun _=>QbP (QcW (by simp; omega)) (Qw9 rfl (Nat.le_refl 1) hsm)) (fun _=>QAS rfl ?_)
   ·refine Qfw (fun s=>∃ k:Nat,s.2=(k:Int)∧k≤i) (fun s=>i-s.2.toNat) ⟨0,rfl,Nat.zero_le _⟩ (by simp; omega) ?_
    rintro ⟨b,_⟩ ⟨k,rfl,hk⟩
    show post (QbM orders l word turned out (i:Int) p r b (k:Int)) _
    unfold QbM
    refine Qa2 (fun hb=>?_) (fun _=>Qfm trivial)
    simp only [Qou] at hb
    have hk':k<i:=by omega
    rw [inc (n:=i) hk' (by omega)]
    have leaf:∀ b:Bool,post (some (Sum.inl (b,(k:Int)+1):(Bool×Int)⊕Bool)) fun x=>(∀ s',x=.inl s'→(∃ k:Nat,s'.2=(k:Int)∧k≤i)∧i-s'.2.toNat<i-((b,(k:Int)):Bool×Int).2.toNat)∧∀ e,x=.inr e→True :=
     fun b=>Qic ⟨⟨k+1,by simp,by omega⟩,by simp; omega⟩
    refine Qa2 (fun _=>leaf _) (fun _=>?_)
    have e2:l[k]?=some (l[k]'(by omega)):=List.getElem?_eq_getElem _
    rw [QaZ e2,Qan]
    exact Qa2 (fun _=>Qa2 (fun _=>leaf _) (fun _=>Qa2 (fun _=>Qa2 (fun _=>leaf _) (fun _=>leaf _)) (fun _=>leaf _))) (fun _=>Qa2 (fun _=>Qa2 (fun _=>leaf _) (fun _=>leaf _)) (fun _=>leaf _))
   ·intro q hq
    rw [e1] at hq; cases hq
    simp only [orF,Qtb,QFu,QBE] at h
    exact ⟨h.1.1.1.1,h.1.1.1.2,h.1.1.2,h.1.2,h.2⟩
  ·show Qbx orders l word turned out (l.length:Int)=_
   unfold Qbx
   rw [Qby (by simp [lenI])]
 unfold QeB
 refine Qa2 (fun h=>QbP (QcW (by simp)) ((main _ (by simp)).mono fun r hr=>(Ext.one (P:=False) (Nat.le_refl 1) (QDs (by omega))).trans hr (by omega) fun h _=>h.elim)) (fun h=>(main [] (by simp)).mono fun r hr=>hr.mono (by omega) fun h'=>⟨?_,fun t ht=>?_⟩)
 ·simp only [Qu6,lenI] at h; omega
 ·obtain ⟨i,hi⟩:=List.getElem?_of_mem ht
  exact h' i (List.getElem?_eq_some_iff.1 hi).1 t hi
theorem Qmf {word:ByteArray} {r:List Qaa} (hw:word.size≤20) (hr:r.length≤5000000000000) (hs:∀ f∈r,Sm.sm f):post (Qg0 word r) fun x=>x.length=r.length:=by
 refine QqM ?_
 refine Qfw (fun s=>∃ k:Nat,s.2=(k:Int)∧k≤r.length∧s.1.length=k) (fun s=>r.length-s.2.toNat) ⟨0,rfl,Nat.zero_le _,rfl⟩ (by simp; omega) ?_
 rintro ⟨out,_⟩ ⟨k,rfl,hk,hl⟩
 show post (Qfi word r out (k:Int)) _
 unfold Qfi Qgs
 refine Qa2 (fun hb=>?_) (fun hb=>Qfm (QaY.2 ?_))
 ·simp only [Qou,lenI] at hb
  simp only at hl
  have hk':k<r.length:=by omega
  have e1:r[k]?=some r[k]:=List.getElem?_eq_getElem hk'
  have hsk:(r[k]).at_.size≤64:=hs _ (List.getElem_mem hk')
  have hadd:addK .i64 (k:Int) 1=(k:Int)+1:=addI (by omega) (by omega)
  have hs1:Qa1.size=1:=rfl
  rw [QaZ e1,Qan,Qan,hadd]
  have leaf:∀ f:Qaa,post (chk (okN (out++[f]).length 24) (some (Sum.inl (out++[f],(k:Int)+1):(List Qaa×Int)⊕(List Qaa)))) fun x=>(∀ s',x=.inl s'→(∃ k:Nat,s'.2=(k:Int)∧k≤r.length∧s'.1.length=k)∧r.length-s'.2.toNat<r.length-((out,(k:Int)):List Qaa×Int).2.toNat)∧∀ e,x=.inr e→post (some e) fun x=>x.length=r.length :=
   fun f=>QbP (QcW (by simp; omega)) (Qic ⟨⟨k+1,by simp,by omega,by simp; omega⟩,by simp; omega⟩)
  exact Qa2 (fun _=>leaf _) (fun _=>QbP (by omega) (QbP (by rw [QgR]; omega) (leaf _)))
 ·simp only [Qtb,lenI] at hb
  simp only at hl
  omega
structure Qxq (x:Qab):Prop where
 net:NetI x.net
 types:x.types.length≤1048576
 orders:x.orders.length≤1048576
 apart:x.apart.length≤1048576
 before:x.before.length≤1048576
 typI:∀ t∈x.types,TypI t
 ordI:∀ t∈x.orders,OrdI t
structure QkJ (x:Qab):Prop where
 net:Qzv x.net
 types1:1≤x.types.length
 types:x.types.length≤6
 typ:∀ t∈x.types,QHg x.net.places.length (Qur x.types) t
 orders:x.orders.length≤10
 ord:∀ o∈x.orders,QF9 x.net.places.length (Qur x.types) x.types.length o
 apart:x.apart.length≤16
 aparts:∀ p∈x.apart,QBa x.orders.length p
 before:x.before.length≤16
 befores:∀ p∈x.before,QBa x.orders.length p
theorem QzA {x:Qab} (hI:Qxq x):post (QbZ x) fun r=>r=[]→QkJ x:=by
 have h1:=hI.types; have h2:=hI.orders; have h3:=hI.apart; have h4:=hI.before; have h5:=hI.net.arcs
 unfold QbZ
 refine Qbk (QsL (n:=x.net) hI.net) fun r hr=>?_
 have l1:=hr.len0
 refine Qbk (Qmf (show 3≤20 by omega) (by omega) hr.sms:post (QeR Qob r) _) fun r1 hr1=>?_
 refine Qbk (QwC (n:=x.net) hI.net.places h1 hI.typI) fun r2 hr2=>?_
 have l2:=hr2.len0
 refine Qbk (Qmf (show 5≤20 by omega) (by omega) hr2.sms) fun r3 hr3=>QbP (QcW (by simp; omega)) ?_
 rw [QyW,Qan]
 refine Qbk (QwD (n:=x.net) (types:=x.types.length) hI.net.places h2 hI.ordI) fun r5 hr5=>?_
 have l5:=hr5.len0
 refine Qbk (Qmf (show 6≤20 by omega) (by omega) hr5.sms) fun r6 hr6=>QbP (QcW (by simp; omega)) ?_
 have hC:post (QfY (lenI x.orders) x.apart x.before) fun r=>r.length≤2+x.apart.length+x.before.length∧(∀ f∈r,Sm.sm f)∧(r=[]→(x.apart.length≤16∧∀ p∈x.apart,QBa x.orders.length p)∧(x.before.length≤16∧∀ p∈x.before,QBa x.orders.length p)):=by
  unfold QfY
  refine Qbk (QxT (orders:=x.orders.length) (word:=Qt7) (turned:=true) h3 (show 5≤20 by omega)) fun a ha=>Qbk (QxT (orders:=x.orders.length) (word:=QsP) (turned:=false) h4 (show 6≤20 by omega)) fun b hb=>?_
  have la:=ha.len0
  have lb:=hb.len0
  refine QbP (QcW (by simp; omega)) (QaY.2 ⟨by simp; omega,fun f hf=>?_,fun h=>?_⟩)
  ·rcases List.mem_append.1 hf with h|h
   ·exact ha.sms f h
   ·exact hb.sms f h
  ·rw [List.append_eq_nil_iff] at h
   exact ⟨ha.of_nil h.1,hb.of_nil h.2⟩
 refine Qbk hC fun r7 ⟨l7,s7,c7⟩=>Qbk (Qmf (show 5≤20 by omega) (by omega) s7) fun r8 hr8=>QbP (QcW (by simp; omega)) (QaY.2 fun h=>?_)
 simp only [List.append_eq_nil_iff] at h
 obtain ⟨⟨⟨e1,e3⟩,e6⟩,e8⟩:=h
 have nil:∀ {a b:List Qaa},a.length=b.length→a=[]→b=[]:=fun h h'=>List.length_eq_zero_iff.1 (by rw [← h,h']; rfl)
 obtain ⟨⟨t1,t2⟩,t3⟩:=hr2.of_nil (nil hr3 e3)
 obtain ⟨o1,o2⟩:=hr5.of_nil (nil hr6 e6)
 obtain ⟨⟨a1,a2⟩,⟨b1,b2⟩⟩:=c7 (nil hr8 e8)
 exact ⟨hr.of_nil (nil hr1 e1),t1,t2,t3,o1,o2,a1,a2,b1,b2⟩
end Go.Proofs.YtbilkblifgaflaaGreatDoor
namespace Go.Proofs.YtbilkblifgaflaaGreatDoor
set_option linter.unusedSimpArgs false
set_option linter.unusedVariables false
set_option linter.unusedSectionVars false

def QIm:Qap:=Qap.mk 0 0 0 0
def QIH:Qaf:=Qaf.mk ByteArray.empty 0 0 0 [] 0 0 0 0 0 0 0 0 0
def QEw:QaN:=QaN.mk false 0 [] 0 0
def zLab:Qaj:=Qaj.mk 0 0 QEw
def atS (v:Qad) (o:Qac):Qap:=if v.drop=true then o.drop else o.pick
def QIl (x:Qab) (v:Qad):Option Qap :=
 match (if 0≤v.order then x.orders[v.order.toNat]? else none) with
 | none=>none
 | some o=>if 0≤(atS v o).place then some (atS v o) else none
def preR (x:Qab) (r:Qax):Bool:=decide (0≤r.type_∧r.type_<x.types.length∧0≤r.start∧r.start≤4096∧r.visits.length≤20)
def QHY (x:Qab) (r:Qax):Bool:=preR x r&&r.visits.all fun v=>(QIl x v).isSome
def QG9 (x:Qab) (r:Qax):List Qap:=r.visits.map fun v=>(QIl x v).getD QIm
def typS (x:Qab) (r:Qax):Qaf:=x.types.getD r.type_.toNat QIH
end Go.Proofs.YtbilkblifgaflaaGreatDoor
namespace Go.Proofs.YtbilkblifgaflaaGreatDoor
set_option linter.unusedSimpArgs false
set_option linter.unusedVariables false
set_option linter.unusedSectionVars false

theorem QGJ {n:Qag} (h:Qzv n) {profile a b t:Int} (ht:inT t) (h0:(goN n profile a b t).2.2=0):t≤(goN n profile a b t).1∧(goN n profile a b t).1≤t+73728∧0≤(goN n profile a b t).2.1∧(goN n profile a b t).2.1≤10000:=by
 unfold goN at h0 ⊢
 split at h0
 ·rename_i h1
  rw [if_pos h1]
  split at h0
  ·rename_i h2
   rw [if_pos h2]; exact ⟨Int.le_refl _,by simp only; omega,by simp,by simp⟩
  ·rename_i h2
   rw [if_neg h2]
   split at h0
   ·rename_i h3
    rw [if_pos h3]
    have ha:=h.all _ (Qyi h3).1
    exact ⟨QAa ha t,QEA ha ht.1,ha.miles0,ha.miles1⟩
   ·simp at h0
 ·simp at h0
structure SOK (s:Qap):Prop where
 open0:0≤s.open_
 open1:s.open_≤s.close
 close:s.close≤4096
 serv0:0≤s.service
 serv1:s.service≤4096
def endS (t:Qaf):Qap:=Qap.mk t.to_ 0 t.close 0
section
variable (n : Qag) (t : Qaf) (stops : List Qap)
def QBi:Nat→Int
 | 0=>t.from_
 | k+1=>(stops.getD k QIm).place
def stopK (k:Nat):Qap:=stops.getD k (endS t)
def QHX (ts:List QaD) (i:Nat) (dep:Int) (rest:Bool):List QaD:=match ts[i]? with
 | some m=>ts.set i (QaD.mk m.arrive m.begin dep rest)
 | none=>ts
def depS (l:Qaj) (rest:Bool):Int:=l.ready+(if rest=true then t.rest_ else 0)
def sinS (l:Qaj) (rest:Bool):Int:=if rest=true then 0 else l.since
def QEs (l:Qaj) (k:Nat) (dep:Int) (rest:Bool):List QaD:=if k=0 then l.sheet.times else QHX l.sheet.times (k-1) dep rest
def shS (l:Qaj) (k:Nat) (rest:Bool) (dep:Int) (g:Int×Int×Int):QaN :=
 QaN.mk (if k=0 then rest else l.sheet.rest_) (if k=0 then dep else l.sheet.depart)
  (if k<stops.length then QEs l k dep rest++[QaD.mk g.1 (max g.1 (stopK t stops k).open_) 0 false] else QEs l k dep rest)
  (if k<stops.length then l.sheet.end_ else g.1) (l.sheet.miles+g.2.1)
def nxtD (l:Qaj) (k:Nat) (rest:Bool) (dep sn:Int):Qaj×Int :=
 if (goN n t.profile (QBi t stops k) (stopK t stops k).place dep).2.2≠0 then (zLab,12)
 else if (stopK t stops k).close<(goN n t.profile (QBi t stops k) (stopK t stops k).place dep).1 then (zLab,if k<stops.length then 14 else 15)
 else if t.drive<sn+(goN n t.profile (QBi t stops k) (stopK t stops k).place dep).1-dep then (zLab,16)
 else (Qaj.mk (max (goN n t.profile (QBi t stops k) (stopK t stops k).place dep).1 (stopK t stops k).open_+(stopK t stops k).service) (sn+(goN n t.profile (QBi t stops k) (stopK t stops k).place dep).1-dep)
  (shS t stops l k rest dep (goN n t.profile (QBi t stops k) (stopK t stops k).place dep)),0)
def nxt (l:Qaj) (k:Nat) (rest:Bool):Qaj×Int:=nxtD n t stops l k rest (depS t l rest) (sinS l rest)
end
structure LabI (k:Nat) (l:Qaj):Prop where
 ready0:0≤l.ready
 ready1:l.ready≤8192
 since0:0≤l.since
 since1:l.since≤4096
 miles0:0≤l.sheet.miles
 miles1:l.sheet.miles≤10000*k
 times:l.sheet.times.length=k
structure Qx6 (n:Qag) (t:Qaf) (stops:List Qap):Prop where
 net:Qzv n
 opn:0≤t.open_∧t.open_≤t.close
 close:t.close≤4096
 drive:1≤t.drive∧t.drive≤4096
 rest:0≤t.rest_∧t.rest_≤4096
 few:stops.length≤20
 stops:∀ s∈stops,SOK s
section
variable {n : Qag} {t : Qaf} {stops : List Qap} {l : Qaj} {k : Nat} {rest : Bool} {dep sn : Int}
theorem Qx6.stopK (h:Qx6 n t stops) (k:Nat):SOK (stopK t stops k):=by
 unfold Go.Proofs.YtbilkblifgaflaaGreatDoor.stopK
 rw [List.getD_eq_getElem?_getD]
 cases hs:stops[k]? with
 | some s=>exact h.stops s (List.mem_of_getElem? hs)
 | none=>exact ⟨Int.le_refl _,by have:=h.opn; show 0≤t.close; omega,h.close,Int.le_refl _,by show (0:Int)≤4096; omega⟩
theorem QDa (h:k<stops.length):stops[k]?=some (stopK t stops k):=by
 unfold stopK; rw [List.getD_eq_getElem?_getD,List.getElem?_eq_getElem h]; rfl
theorem QA1 (h:¬ k<stops.length):stopK t stops k=endS t:=by
 unfold stopK; rw [List.getD_eq_getElem?_getD,List.getElem?_eq_none (by omega)]; rfl
theorem QEe {ts:List QaD} {i:Nat}:(QHX ts i dep rest).length=ts.length:=by unfold QHX; split <;> simp
theorem QDg:(QEs l k dep rest).length=l.sheet.times.length:=by unfold QEs; split; rfl; exact QEe
theorem QGW (h:Qx6 n t stops) (hl:LabI k l) (h0:(nxt n t stops l k rest).2=0) :
  (goN n t.profile (QBi t stops k) (stopK t stops k).place (depS t l rest)).2.2=0∧(goN n t.profile (QBi t stops k) (stopK t stops k).place (depS t l rest)).1≤(stopK t stops k).close ∧
  sinS l rest+(goN n t.profile (QBi t stops k) (stopK t stops k).place (depS t l rest)).1-depS t l rest≤t.drive ∧
  (nxt n t stops l k rest).1=Qaj.mk (max (goN n t.profile (QBi t stops k) (stopK t stops k).place (depS t l rest)).1 (stopK t stops k).open_+(stopK t stops k).service) (sinS l rest+(goN n t.profile (QBi t stops k) (stopK t stops k).place (depS t l rest)).1-depS t l rest)
   (shS t stops l k rest (depS t l rest) (goN n t.profile (QBi t stops k) (stopK t stops k).place (depS t l rest))):=by
 unfold nxt nxtD at h0 ⊢
 split at h0
 ·simp at h0
 ·rename_i h1
  split at h0
  ·simp only at h0; split at h0 <;> simp at h0
  ·rename_i h2
   split at h0
   ·simp at h0
   ·rename_i h3
    rw [if_neg h1,if_neg h2,if_neg h3]
    exact ⟨by simpa using h1,by omega,by omega,rfl⟩
theorem QGx (h:Qx6 n t stops) (hl:LabI k l):inT (depS t l rest):=by
 have h1:=hl.ready0; have h2:=hl.ready1; have h3:=h.rest
 unfold depS inT
 split <;> omega
theorem QGV (h:Qx6 n t stops) (hl:LabI k l) (hk:k<stops.length) (h0:(nxt n t stops l k rest).2=0):LabI (k+1) (nxt n t stops l k rest).1:=by
 obtain ⟨g0,g1,g2,g3⟩:=QGW h hl h0
 have hin:=QGx (rest:=rest) h hl
 have hb:=QGJ h.net hin g0
 have hS:=h.stopK k
 have:=hS.open0; have:=hS.open1; have:=hS.close; have:=hS.serv0; have:=hS.serv1
 have hd:=h.drive
 have hm0:=hl.miles0; have hm1:=hl.miles1
 have hsn:0≤sinS l rest:=by unfold sinS; split; omega; exact hl.since0
 unfold inT at hin
 rw [g3]
 refine ⟨by simp only; omega,by simp only; omega,by simp only; omega,by simp only; omega,?_,?_,?_⟩
 ·show 0≤l.sheet.miles+_; omega
 ·show l.sheet.miles+_≤_; rw [Int.natCast_add,Int.mul_add]; omega
 ·show (if k<stops.length then _ else _:List QaD).length=_
  rw [if_pos hk,List.length_append,QDg,hl.times]; rfl
end
end Go.Proofs.YtbilkblifgaflaaGreatDoor
