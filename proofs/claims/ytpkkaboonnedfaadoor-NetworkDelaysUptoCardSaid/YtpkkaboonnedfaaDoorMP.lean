/- Part MP of the proof: texts Nqa Nqb Nqc Nqd Nqe Nqf Nqg Nqz. -/
import Derived.Test.YtpkkaboonnedfaaDoorMT
import Derived.KernelRfl
namespace Go.Proofs.YtpkkaboonnedfaaDoor
set_option linter.unusedSimpArgs false
set_option linter.unusedVariables false
set_option linter.unusedSectionVars false

section
variable {α : Type}
theorem QiW {B : List α × Int → Option ((List α × Int) ⊕ (List α))} (n c : Nat) (P : Nat → Prop) (init : List α) (hn : n < 18446744073709551615)
    (step : ∀ (i : Nat) (out : List α), i < n → out.length ≤ init.length + c * i → post (B (out, (i : Int))) fun x => ∃ new, x = .inl (out ++ new, (i : Int) + 1) ∧ new.length ≤ c ∧ (new = [] ↔ P i))
    (fin : ∀ out, B (out, (n : Int)) = some (.inr out)) : post (loopF B (init, 0)) fun r => r.length ≤ init.length + c * n ∧ (r = [] ↔ init = [] ∧ ∀ i, i < n → P i) := by
  refine QdX (fun s => ∃ i : Nat, s.2 = (i : Int) ∧ i ≤ n ∧ s.1.length ≤ init.length + c * i ∧ (s.1 = [] ↔ init = [] ∧ ∀ k, k < i → P k)) (fun s => n - s.2.toNat)
    ⟨0, rfl, Nat.zero_le _, by simp, by simp⟩ (by simp; omega) ?_
  rintro ⟨out, j⟩ ⟨i, hj, hi, hl, he⟩
  simp only at hj hl he
  subst hj
  by_cases h : i < n
  · refine (step i out h hl).mono ?_
    rintro x ⟨new, rfl, h1, h2⟩
    refine ⟨fun s' hs => ?_, fun _ h => by cases h⟩
    cases hs
    refine ⟨⟨i + 1, by simp, by omega, by simp [Nat.mul_add]; omega, ?_⟩, by simp; omega⟩
    simp only [List.append_eq_nil_iff, he, h2]
    constructor
    · rintro ⟨⟨h3, h4⟩, h5⟩
      exact ⟨h3, fun k hk => by rcases Nat.lt_or_ge k i with h | h; exact h4 k h; obtain rfl : k = i := by omega
                                exact h5⟩
    · rintro ⟨h3, h4⟩
      exact ⟨⟨h3, fun k hk => h4 k (by omega)⟩, h4 i (by omega)⟩
  · obtain rfl : i = n := by omega
    rw [fin]
    exact QdH ⟨hl, he⟩
end
theorem QdP {n b:Nat} (h:n*b≤140737488355328):okN n b:=h
theorem orT {a b:Bool}:(a||b)=true↔a=true∨b=true:=Bool.or_eq_true_iff ..
theorem orF {a b:Bool}:(a||b)=false↔a=false∧b=false:=Bool.or_eq_false_iff
theorem andT {a b:Bool}:(a&&b)=true↔a=true∧b=true:=Bool.and_eq_true_iff
theorem ntF {a:Bool}:(!a)=false↔a=true:=by cases a <;> simp

theorem QgW (l:List Int):(Qg7 l).size=l.length:=by simp [Qg7,ByteArray.size]
theorem Qj7 (a:Int):(a.tdiv 10).natAbs=a.natAbs / 10:=by rw [Int.natAbs_tdiv]; rfl
theorem quo10 {a:Int} (h:a.natAbs≤9223372036854775808):quoK .i64 a 10=a.tdiv 10:=by
 have:=Qj7 a
 exact quoI (by omega) (by omega)
def isI64 (n:Int):Prop:=-9223372036854775808≤n∧n≤9223372036854775807
theorem Qih {n left d:Int} {s:ByteArray} {k:Nat} (hl:left.natAbs≤9223372036854775808) (h1:left.natAbs<10 ^ k) (h2:s.size+k≤20) (hk:1≤k) :
  post (Qa6 n s left d) fun x=>(∀ s',x=.inl s'→(∃ k:Nat,s'.2.1.natAbs≤9223372036854775808∧s'.2.1.natAbs<10 ^ k∧s'.1.size+k≤20∧(s'.2.2=true→1≤k∧s'.2.1≠0))∧s'.2.1.natAbs+(if s'.2.2 then 1 else 0)<left.natAbs+1)∧∀ e,x=.inr e→e.size≤20:=by
 unfold Qa6
 have hq:=quo10 hl
 have ha:=Qj7 left
 refine Qa5 (by rw [QgW]; simp; omega) (Qfk ?_)
 simp only [hq]
 obtain ⟨k,rfl⟩:∃ j,k=j+1:=⟨k-1,by omega⟩
 have hs:(catS (Qg7 [cvK IntKind.u8 (addK IntKind.i64 48 d)]) s).size=1+s.size:=by unfold catS; rw [ByteArray.size_append,QgW]; rfl
 refine ⟨⟨k,by omega,by rw [ha]; rw [Nat.pow_succ] at h1; omega,by rw [hs]; omega,fun h=>?_⟩,?_⟩
 ·simp only [neI_t] at h
  refine ⟨?_,h⟩
  rcases Nat.eq_zero_or_pos k with rfl|h'
  ·exfalso; apply h; have:(left.tdiv 10).natAbs=0:=by rw [ha]; simp at h1; omega
   omega
  ·exact h'
 ·cases hb:neI (left.tdiv 10) 0 with
  | true =>
   simp only [neI_t] at hb
   simp only [if_true]
   have:(left.tdiv 10).natAbs≠0:=by omega
   omega
  | false=>simp only [Bool.false_eq_true,if_false]; omega
theorem Qdz (n:Int) (hn:isI64 n):post (QaW n) fun s=>s.size≤21:=by
 unfold isI64 at hn
 refine QaZ (R:=fun s=>s.size≤20) ?_ fun s hs=>?_
 ·refine QdX (fun s=>∃ k:Nat,s.2.1.natAbs≤9223372036854775808∧s.2.1.natAbs<10 ^ k∧s.1.size+k≤20∧(s.2.2=true→1≤k∧(s.2.1=0→True))) (fun s=>s.2.1.natAbs+(if s.2.2 then 1 else 0)) ⟨19,by simp only; omega,by simp only; omega,by simp [ByteArray.size_empty],by simp⟩ (by simp only; split <;> omega) ?_
  rintro ⟨s,left,again⟩ ⟨k,h0,h1,h2,h3⟩
  simp only at h0 h1 h2 h3
  cases again with
  | false=>exact QdH (show s.size≤20 by omega)
  | true =>
   refine post.mono (Q:=fun x=>(∀ s',x=.inl s'→(∃ k:Nat,s'.2.1.natAbs≤9223372036854775808∧s'.2.1.natAbs<10 ^ k∧s'.1.size+k≤20∧(s'.2.2=true→1≤k∧s'.2.1≠0))∧s'.2.1.natAbs+(if s'.2.2 then 1 else 0)<left.natAbs+1)∧∀ e,x=.inr e→e.size≤20) ?_ ?_
   ·show post (br true (br (ltI (remK left 10) 0) _ _) _) _
    rw [QdR]
    exact QaL (fun _=>Qih h0 h1 h2 (h3 rfl).1) (fun _=>Qih h0 h1 h2 (h3 rfl).1)
   ·rintro x ⟨g1,g2⟩
    refine ⟨fun s' hs=>?_,g2⟩
    obtain ⟨⟨k',q1,q2,q3,q4⟩,q5⟩:=g1 s' hs
    exact ⟨⟨k',q1,q2,q3,fun h=>⟨(q4 h).1,fun _=>trivial⟩⟩,q5⟩
 ·refine QaL (fun _=>Qa5 ?_ (Qaw.2 ?_)) (fun _=>Qaw.2 (by omega))
  ·show 1+s.size≤_; omega
  ·unfold catS; rw [ByteArray.size_append]; show 1+s.size≤_; omega
theorem QhG {k:Nat} (h:k<4294967296):isI64 (k:Int):=by unfold isI64; omega

abbrev Pt:=Qab
def okA (p:Pt):Prop:=0≤p.t∧p.t≤4096∧p.t≤p.a∧p.a≤p.t+4096
def okP (l:List Pt) (i:Nat):Prop:=∀ p,l[i]?=some p→okA p∧(0<i→∀ q,l[i-1]?=some q→q.t<p.t∧q.a≤p.a)
structure Right (l:List Pt):Prop where
 pos:1≤l.length
 most:l.length≤16
 all:∀ i,i<l.length→okP l i
def ptI (p:Pt):Prop:=isI64 p.t∧isI64 p.a
theorem QjS {l:List Pt} {i:Nat} {x0:Pt} {out new:List Qaa} (hx:l[i]?=some x0) (hi:i<2000000) (hlen:l.length<2000000) (ho:out.length≤1+2*i) (hn:new.length≤1) (hw:new=[]↔okA x0) :
  post (Qbf l (i:Int) x0 (out++new)) fun x=>∃ new,x=.inl (out++new,(i:Int)+1)∧new.length≤2∧(new=[]↔okP l i):=by
 have hadd:addK .i64 (i:Int) 1=(i:Int)+1:=addI (by omega) (by omega)
 unfold Qbf
 have hokN:∀ f:Qaa,okN (out++new++[f]).length 24:=fun f=>QdP (by simp; omega)
 have leafY:(0<i→∀ q,l[i-1]?=some q→q.t<x0.t∧q.a≤x0.a)→post (some (Sum.inl (out++new,addK .i64 (i:Int) 1):(List Qaa×Int)⊕List Qaa)) fun x=>∃ new,x=.inl (out++new,(i:Int)+1)∧new.length≤2∧(new=[]↔okP l i):=by
  intro hq
  rw [hadd]
  refine ⟨_,rfl,new,rfl,by omega,?_⟩
  rw [hw]
  exact ⟨fun h p hp=>by rw [hx] at hp; cases hp; exact ⟨h,hq⟩,fun h=>(h x0 hx).1⟩
 have leafN:∀ r:ByteArray,(∃ q,0<i∧l[i-1]?=some q∧¬ (q.t<x0.t∧q.a≤x0.a))→post (chk (okN (out++new++[Qaa.mk 13 r]).length 24) (some (Sum.inl (out++new++[Qaa.mk 13 r],addK .i64 (i:Int) 1):(List Qaa×Int)⊕List Qaa))) fun x=>∃ new,x=.inl (out++new,(i:Int)+1)∧new.length≤2∧(new=[]↔okP l i):=by
  rintro r ⟨q,h0,h1,h2⟩
  refine Qa5 (hokN _) ?_
  rw [hadd]
  refine ⟨_,rfl,new++[_],by rw [List.append_assoc],by simp; omega,?_⟩
  constructor
  ·intro h; simp at h
  ·intro h; exact absurd ((h x0 hx).2 h0 q h1) h2
 refine QaL (fun h=>?_) (fun h=>leafY fun h0=>by simp at h; omega)
 simp only [gtI_t] at h
 have h1:subK .i64 (i:Int) 1=((i-1:Nat):Int):=by rw [subI (by omega) (by omega)]; omega
 have hx1:l[i-1]?=some (l[i-1]'(by have:=(List.getElem?_eq_some_iff.1 hx).1; omega)):=List.getElem?_eq_getElem _
 rw [h1,QaR hx1,Qak]
 have hd:=Qdz (i:Int) (QhG (by omega))
 refine QaL (fun h2=>QaZ hd fun r _=>leafN r ⟨_,by omega,hx1,fun hh=>?_⟩) (fun h2=>QaL (fun h3=>QaZ hd fun r _=>leafN r ⟨_,by omega,hx1,fun hh=>?_⟩) (fun h3=>leafY fun _ q hq=>?_))
 ·simp only [leI_t] at h2; omega
 ·simp only [ltI_t] at h3; omega
 ·rw [hx1] at hq; cases hq
  simp only [leI_f] at h2
  simp only [ltI_f] at h3
  omega
theorem okA_b {x0:Pt} (hI:ptI x0):((((ltI x0.t 0)||(gtI x0.t 4096))||(ltI x0.a x0.t))||(gtI x0.a (addK .i64 x0.t 4096)))=false↔okA x0:=by
 obtain ⟨h1,h2⟩:=hI
 unfold isI64 at h1 h2
 simp only [orF,ltI_f,gtI_f]
 unfold okA
 constructor
 ·rintro ⟨⟨⟨a,b⟩,c⟩,d⟩
  rw [addI (by omega) (by omega)] at d
  omega
 ·rintro ⟨a,b,c,d⟩
  rw [addI (by omega) (by omega)]
  omega
theorem QgB {l:List Pt} (hlen:l.length≤1048576) (hI:∀ p∈l,ptI p):post (Qb8 l) fun r=>r.length≤1+2*l.length∧(r=[]↔Right l):=by
 have main:∀ init:List Qaa,init.length≤1→post (Qbv l init) fun r=>r.length≤init.length+2*l.length∧(r=[]↔init=[]∧∀ i,i<l.length→okP l i):=by
  intro init hin
  refine QaZ ?_ fun a h=>Qaw.2 h
  refine QiW l.length 2 (okP l) init (by omega) (fun i out hi ho=>?_) (fun out=>?_)
  ·have hx:=QlU hi
   have hx':l[i]?=some l[i]:=List.getElem?_eq_getElem hi
   show post (Qa2 l out (i:Int)) _
   unfold Qa2
   rw [Qc2 (by simp [lenI]; exact hi),hx,Qak]
   have hp:=hI l[i] (List.getElem_mem hi)
   refine QaL (fun h=>QaZ (Qdz (i:Int) (QhG (by omega))) fun r _=>Qa5 (QdP (by simp; omega)) (QjS (new:=[_]) hx' (by omega) (by omega) (by omega) (by simp) (Iff.intro (fun h=>by cases h) (fun h'=>?_)))) (fun h=>?_)
   ·rw [(okA_b hp).2 h'] at h; cases h
   ·have:=QjS (out:=out) (new:=[]) hx' (by omega) (by omega) (by omega) (by simp) ⟨fun _=>(okA_b hp).1 h,fun _=>rfl⟩
    rwa [List.append_nil] at this
  ·unfold Qa2
   rw [Qb5 (by simp [lenI])]
 unfold Qb8
 refine QaL (fun h=>Qa5 (QdP (by simp)) ((main _ (by simp)).mono ?_)) (fun h=>(main _ (by simp)).mono ?_)
 ·rintro r ⟨h1,h2⟩
  refine ⟨by simpa using h1,?_⟩
  rw [h2]
  simp only [orT,ltI_t,gtI_t,lenI] at h
  exact ⟨fun h=>by (cases h.1),fun h'=>by have:=h'.pos; have:=h'.most; omega⟩
 ·rintro r ⟨h1,h2⟩
  refine ⟨by simp at h1 ⊢; omega,?_⟩
  rw [h2]
  simp only [orF,ltI_f,gtI_f,lenI] at h
  exact ⟨fun h'=>⟨by omega,by omega,h'.2⟩,fun h'=>⟨rfl,h'.all⟩⟩
end Go.Proofs.YtpkkaboonnedfaaDoor
namespace Go.Proofs.YtpkkaboonnedfaaDoor
set_option linter.unusedSimpArgs false
set_option linter.unusedVariables false
set_option linter.unusedSectionVars false

def seg (p q:Pt) (t:Int):Int:=p.a+((t-p.t)*(q.a-p.a)+(q.t-p.t)-1) / (q.t-p.t)
def arrL:List Pt→Int→Int
 | [],_=>0
 | [p],t=>t+p.a-p.t
 | p :: q :: r,t=>if t<q.t then (if t<p.t then t+p.a-p.t else seg p q t) else arrL (q :: r) t
def Srt:List Pt→Prop
 | []=>True
 | [p]=>okA p
 | p :: q :: r=>okA p∧p.t<q.t∧p.a≤q.a∧Srt (q :: r)
theorem QlQ:∀ {l:List Pt},(∀ i,i<l.length→okP l i)→Srt l
 | [],_=>trivial
 | [p],h=>(h 0 (by simp) p rfl).1
 | p :: q :: r,h=>by
  have h0:=h 0 (by simp) p rfl
  have h1:=(h 1 (by simp) q rfl).2 (by omega) p rfl
  refine ⟨h0.1,h1.1,h1.2,QlQ fun i hi x hx=>?_⟩
  have h2:=h (i+1) (by simpa using hi) x hx
  refine ⟨h2.1,fun h3 y hy=>h2.2 (by omega) y ?_⟩
  obtain ⟨j,rfl⟩:∃ j,i=j+1:=⟨i-1,by omega⟩
  exact hy
theorem Right.srt {l:List Pt} (h:Right l):Srt l:=QlQ h.all
theorem Srt.okA_at:∀ {l:List Pt},Srt l→∀ {i:Nat} {p:Pt},l[i]?=some p→okA p
 | [],_,_,_,h=>by simp at h
 | [p],h,0,x,hx=>by cases hx; exact h
 | [p],h,i+1,x,hx=>by simp at hx
 | p :: q :: r,h,0,x,hx=>by cases hx; exact h.1
 | p :: q :: r,h,i+1,x,hx=>Srt.okA_at (l:=q :: r) h.2.2.2 hx
theorem Srt.pair:∀ {l:List Pt},Srt l→∀ {i:Nat} {p q:Pt},l[i]?=some p→l[i+1]?=some q→p.t<q.t∧p.a≤q.a
 | [],_,_,_,_,h,_=>by simp at h
 | [p],h,i,x,y,_,hy=>by simp at hy
 | p :: q :: r,h,0,x,y,hx,hy=>by cases hx; cases hy; exact ⟨h.2.1,h.2.2.1⟩
 | p :: q :: r,h,i+1,x,y,hx,hy=>Srt.pair (l:=q :: r) h.2.2.2 hx hy
theorem Srt.lt {l:List Pt} (h:Srt l) {i:Nat}:∀ {j:Nat},i<j→∀ {p q:Pt},l[i]?=some p→l[j]?=some q→p.t<q.t
 | j+1,hij,p,q,hp,hq=>by
  rcases Nat.lt_or_ge i j with h'|h'
  ·have hj:l[j]?=some (l[j]'(by have:=(List.getElem?_eq_some_iff.1 hq).1; omega)):=List.getElem?_eq_getElem _
   have:=h.lt h' hp hj
   have:=(h.pair hj hq).1
   omega
  ·obtain rfl:i=j:=by omega
   exact (h.pair hp hq).1
theorem Qj1 {p q:Pt} (h:p.t<q.t):seg p q p.t=p.a:=by
 unfold seg
 rw [Int.sub_self,Int.zero_mul,Int.ediv_eq_zero_of_lt (by omega) (by omega)]; omega
theorem QiH {p q:Pt} (h:p.t<q.t):seg p q q.t=q.a:=by
 unfold seg
 rw [show (q.t-p.t)*(q.a-p.a)+(q.t-p.t)-1=(q.t-p.t-1)+(q.t-p.t)*(q.a-p.a) by omega,Int.add_mul_ediv_left _ _ (by omega),Int.ediv_eq_zero_of_lt (by omega) (by omega)]; omega
theorem Qic {p:Pt} {r:List Pt} (h:Srt (p :: r)):arrL (p :: r) p.t=p.a:=by
 cases r with
 | nil=>simp only [arrL]; omega
 | cons q r=>simp only [arrL]; rw [if_pos h.2.1,if_neg (by omega),Qj1 h.2.1]
theorem QkZ {p:Pt} {r:List Pt} (h:Srt (p :: r)) {t:Int} (ht:t≤p.t):arrL (p :: r) t=t+p.a-p.t:=by
 by_cases he:t=p.t
 ·subst he; rw [Qic h]; omega
 ·cases r with
  | nil=>rfl
  | cons q r=>simp only [arrL]; have:=h.2.1; rw [if_pos (by omega),if_pos (by omega)]
theorem Qg5:∀ {l:List Pt},Srt l→∀ {p:Pt},l[l.length-1]?=some p→∀ {t:Int},p.t≤t→arrL l t=t+p.a-p.t
 | [],_,_,hp,_,_=>by simp at hp
 | [x],_,p,hp,t,_=>by cases hp; rfl
 | x :: y :: r,h,p,hp,t,ht=>by
  have hp':(y :: r)[(y :: r).length-1]?=some p:=by simpa using hp
  have:y.t≤t:=by
   rcases Nat.eq_zero_or_pos r.length with h0|h0
   ·have:r=[]:=List.length_eq_zero_iff.1 h0
    subst this; cases hp'; exact ht
   ·have:=h.2.2.2.lt (i:=0) (j:=(y :: r).length-1) (by simp; omega) rfl hp'
    omega
  simp only [arrL]
  rw [if_neg (by omega)]
  exact Qg5 h.2.2.2 hp' ht
theorem QhQ:∀ {l:List Pt},Srt l→∀ {j:Nat} {p q:Pt},l[j]?=some p→l[j+1]?=some q→∀ {t:Int},p.t≤t→t≤q.t→arrL l t=seg p q t
 | [],_,_,_,_,hp,_,_,_,_=>by simp at hp
 | [x],_,_,_,_,_,hq,_,_,_=>by simp at hq
 | x :: y :: r,h,0,p,q,hp,hq,t,h1,h2=>by
  cases hp; cases hq
  simp only [arrL]
  by_cases he:t<y.t
  ·rw [if_pos he,if_neg (by omega)]
  ·obtain rfl:t=y.t:=by omega
   rw [if_neg he,Qic h.2.2.2,QiH h.2.1]
 | x :: y :: r,h,j+1,p,q,hp,hq,t,h1,h2=>by
  have:y.t≤p.t:=by
   rcases Nat.eq_zero_or_pos j with rfl|h0
   ·cases hp; omega
   ·have:=h.2.2.2.lt (i:=0) (j:=j) h0 rfl hp; omega
  simp only [arrL]
  rw [if_neg (by omega)]
  exact QhQ (l:=y :: r) h.2.2.2 hp hq h1 h2
theorem Qlp {p q:Pt} (h1:p.t<q.t) (h2:p.a≤q.a) {t t':Int} (h:t≤t'):seg p q t≤seg p q t':=by
 unfold seg
 have:=Int.mul_le_mul_of_nonneg_right (show t-p.t≤t'-p.t by omega) (show 0≤q.a-p.a by omega)
 have:=Int.ediv_le_ediv (show 0<q.t-p.t by omega) (show (t-p.t)*(q.a-p.a)+(q.t-p.t)-1≤(t'-p.t)*(q.a-p.a)+(q.t-p.t)-1 by omega)
 omega
theorem QlZ {p q:Pt} (hp:p.t≤p.a) (hq:q.t≤q.a) (h1:p.t<q.t) {t:Int} (h:p.t≤t) (h':t≤q.t):t≤seg p q t:=by
 unfold seg
 have key:(t-p.a)*(q.t-p.t)≤(t-p.t)*(q.a-p.a):=by
  have e1:0≤(t-p.t)*(q.a-q.t):=Int.mul_nonneg (by omega) (by omega)
  have e2:0≤(q.t-t)*(p.a-p.t):=Int.mul_nonneg (by omega) (by omega)
  have e3:(t-p.t)*(q.a-p.a)-(t-p.a)*(q.t-p.t)=(t-p.t)*(q.a-q.t)+(q.t-t)*(p.a-p.t):=by
   simp only [Int.sub_mul,Int.mul_sub,Int.mul_comm]
   omega
  omega
 have:=(Int.le_ediv_iff_mul_le (show 0<q.t-p.t by omega)).2 (show (t-p.a)*(q.t-p.t)≤(t-p.t)*(q.a-p.a)+(q.t-p.t)-1 by omega)
 omega
theorem Qi8:∀ {l:List Pt},Srt l→l≠[]→∀ (t:Int),t≤arrL l t
 | [],_,h,_=>absurd rfl h
 | [p],h,_,t=>by simp only [arrL]; have:=h.2.2.1; omega
 | p :: q :: r,h,_,t=>by
  have hq:okA q:=h.2.2.2.okA_at (i:=0) rfl
  have h1:=h.1.2.2.1
  simp only [arrL]
  by_cases h3:t<q.t
  ·rw [if_pos h3]
   by_cases h4:t<p.t
   ·rw [if_pos h4]; omega
   ·rw [if_neg h4]; exact QlZ h1 hq.2.2.1 h.2.1 (by omega) (by omega)
  ·rw [if_neg h3]; exact Qi8 h.2.2.2 (by simp) t
theorem Qi9:∀ {l:List Pt},Srt l→∀ {t:Int},0≤t→arrL l t≤t+8192
 | [],_,t,h=>by simp only [arrL]; omega
 | [p],h,t,_=>by simp only [arrL]; have:=h.2.2.2; omega
 | p :: q :: r,h,t,h0=>by
  have hq:okA q:=h.2.2.2.okA_at (i:=0) rfl
  have h1:=h.1.2.2.2
  simp only [arrL]
  by_cases h3:t<q.t
  ·rw [if_pos h3]
   by_cases h4:t<p.t
   ·rw [if_pos h4]; omega
   ·rw [if_neg h4]
    have:=Qlp h.2.1 h.2.2.1 (show t≤q.t by omega)
    rw [QiH h.2.1] at this
    have:=hq.2.2.2; have:=hq.2.1; omega
  ·rw [if_neg h3]; exact Qi9 h.2.2.2 h0
end Go.Proofs.YtpkkaboonnedfaaDoor
namespace Go.Proofs.YtpkkaboonnedfaaDoor
set_option linter.unusedSimpArgs false
set_option linter.unusedVariables false
set_option linter.unusedSectionVars false

def inT (t:Int):Prop:=0≤t∧t≤1073741824
theorem QlO {p q:Pt} (h1:okA p) (h2:okA q) (h:p.t<q.t) (h':p.a≤q.a) {t:Int} (a:p.t≤t) (b:t≤q.t) :
  0≤(t-p.t)*(q.a-p.a)∧(t-p.t)*(q.a-p.a)≤33554432∧0≤((t-p.t)*(q.a-p.a)+(q.t-p.t)-1) / (q.t-p.t)∧((t-p.t)*(q.a-p.a)+(q.t-p.t)-1) / (q.t-p.t)≤33558528:=by
 unfold okA at h1 h2
 have e1:0≤(t-p.t)*(q.a-p.a):=Int.mul_nonneg (by omega) (by omega)
 have e2:(t-p.t)*(q.a-p.a)≤4096*8192:=Int.mul_le_mul (by omega) (by omega) (by omega) (by omega)
 have e3:0≤((t-p.t)*(q.a-p.a)+(q.t-p.t)-1) / (q.t-p.t):=Int.ediv_nonneg (by omega) (by omega)
 have e4:((t-p.t)*(q.a-p.a)+(q.t-p.t)-1) / (q.t-p.t)≤(t-p.t)*(q.a-p.a)+(q.t-p.t)-1:=Int.ediv_le_self _ (by omega)
 exact ⟨e1,by omega,e3,by omega⟩
theorem Right.at {l:List Pt} (h:Right l) {i:Nat} {p:Pt} (hp:l[i]?=some p):okA p:=h.srt.okA_at hp
theorem Right.bd {l:List Pt} (h:Right l) {i:Nat} {p:Pt} (hp:l[i]?=some p):0≤p.t∧p.t≤4096∧p.t≤p.a∧p.a≤8192:=by
 have:=h.at hp; unfold okA at this; omega
theorem Right.ptI {l:List Pt} (h:Right l):∀ p∈l,ptI p:=fun p hp=>by
 obtain ⟨i,hi⟩:=List.getElem?_of_mem hp
 have:=h.bd hi
 unfold Go.Proofs.YtpkkaboonnedfaaDoor.ptI isI64; omega
theorem QlR {a b:Int} (h:0≤a):a.tdiv b=a / b:=Int.tdiv_eq_ediv_of_nonneg h

theorem quoP {a b:Int} (h:0≤a) (h':a≤9223372036854775807) (hb:0<b):quoK .i64 a b=a / b:=by
 have h1:0≤a / b:=Int.ediv_nonneg h (by omega)
 have h2:a / b≤a:=Int.ediv_le_self _ h
 have h3:=QlR (b:=b) h
 rw [quoI (by rw [h3]; omega) (by rw [h3]; omega),h3]
theorem Qju:∀ i:Nat,i<16→(QbR (i:Int)).isSome=true:=by decide +kernel
theorem Qel {l:List Pt} (h:Right l):Qct l=some []:=by
 have hpos:=h.pos; have hmost:=h.most
 unfold Qct
 rw [Qb5 (by simp only [orF,eqI_f,gtI_f,lenI]; omega)]
 unfold Qcp
 have hloop:loopF (fun s:List Qaa×Int=>Qbd l s.1 s.2) ([],0)=some []:=?_
 ·rw [hloop,Qak]
 refine Qfi (e:=[]) l.length (fun i=>(([]:List Qaa),(i:Int))) (by omega) (fun i hi=>?_) ?_
 ·have e1:l[i]?=some l[i]:=List.getElem?_eq_getElem hi
  obtain ⟨r,hr⟩:=Option.isSome_iff_exists.1 (Qju i (by omega))
  show Qbd l [] (i:Int)=_
  unfold Qbd
  rw [Qc2 (by simp only [ltI_t,lenI]; omega),QaR e1,Qak,hr,Qak]
  have hp:=h.bd e1
  have hA:=h.at e1
  unfold okA at hA
  rw [show QbN (l[i]).t 0 4096=some true by unfold QbN; simp only [Option.some.injEq,andT,geI_t,leI_t]; omega,Qak]
  rw [Qb5 (by simp only [Bool.not_true,Bool.false_or,orF,ltI_f,gtI_f]; rw [addI (by omega) (by omega)]; omega)]
  have hadd:addK .i64 (i:Int) 1=((i+1:Nat):Int):=by rw [addI (by omega) (by omega)]; omega
  unfold Qcq
  rw [hadd]
  rcases Nat.eq_zero_or_pos i with h0|h0
  ·rw [Qb5 (by simp only [gtI_f]; omega)]
  ·have e0:l[i-1]?=some (l[i-1]'(by omega)):=List.getElem?_eq_getElem _
   have hs:subK .i64 (i:Int) 1=((i-1:Nat):Int):=by rw [subI (by omega) (by omega)]; omega
   have hpr:=h.srt.pair e0 (by rw [show i-1+1=i by omega]; exact e1)
   rw [Qc2 (by simp only [gtI_t]; omega),hs,QaR e0,Qak,Qb5 (by simp only [leI_f]; omega),Qb5 (by simp only [ltI_f]; omega)]
 ·show Qbd l [] (l.length:Int)=_
  unfold Qbd
  rw [Qb5 (by simp [lenI])]
theorem Qf2 {l:List Pt} (h:Right l):QdL l=some true:=by
 unfold QdL; rw [Qel h]; rfl
theorem half {i j:Nat} (h:i<100) (h':j<100):cvK .i64 (shrK .u64 (cvK .u64 (addK .i64 (i:Int) (j:Int))) 1)=(((i+j) / 2:Nat):Int):=by
 rw [addI (by omega) (by omega)]
 unfold cvK shrK
 rw [IntKind.wrap_u64,IntKind.wrap_i64]
 have e:(2:Int) ^ min (Int.toNat 1) (IntKind.u64.bits)=2:=by decide
 rw [e,Int.fdiv_eq_ediv_of_nonneg _ (by omega)]
 omega
theorem Qh5 {l:List Pt} (h:Right l) {t:Int} (ht:inT t):post (Qap l t) fun r=>∃ i:Nat,r.1=(i:Int)∧i≤l.length∧(∀ k p,k<i→l[k]?=some p→p.t<t)∧(∀ k p,i≤k→l[k]?=some p→t≤p.t) ∧
  (r.2=true↔∃ p,l[i]?=some p∧p.t=t):=by
 have hmost:=h.most
 unfold inT at ht
 refine QaZ (R:=fun x=>∃ i:Nat,x=(i:Int)∧i≤l.length∧(∀ k p,k<i→l[k]?=some p→p.t<t)∧(∀ k p,i≤k→l[k]?=some p→t≤p.t)) ?_ ?_
 ·refine QdX (fun s=>∃ i j:Nat,s=((i:Int),(j:Int))∧i≤j∧j≤l.length∧(∀ k p,k<i→l[k]?=some p→p.t<t)∧(∀ k p,j≤k→l[k]?=some p→t≤p.t)) (fun s=>(s.2-s.1).toNat) ⟨0,l.length,rfl,by omega,by omega,fun k p hk=>by omega,fun k p hk hp=>by have:=(List.getElem?_eq_some_iff.1 hp).1; omega⟩ (by simp [lenI]; omega) ?_
  rintro _ ⟨i,j,rfl,hij,hjl,h1,h2⟩
  show post (Qai l t (i:Int) (j:Int)) _
  unfold Qai
  rw [half (by omega) (by omega)]
  refine QaL (fun hb=>?_) (fun hb=>QdH ?_)
  ·simp only [ltI_t] at hb
   have hm:(i+j) / 2<l.length:=by omega
   have e1:l[(i+j) / 2]?=some l[(i+j) / 2]:=List.getElem?_eq_getElem hm
   rw [QaR e1,Qak]
   generalize l[(i+j) / 2]=p at e1
   have hp:=h.bd e1
   unfold QbB
   rw [subI (by omega) (by omega),Qak]
   refine QaL (fun hc=>Qfk ?_) (fun hc=>Qfk ?_)
   ·simp only [ltI_t] at hc
    refine ⟨⟨(i+j) / 2+1,j,by rw [addI (by omega) (by omega)]; simp,by omega,hjl,fun k q hk hq=>?_,h2⟩,by rw [addI (by omega) (by omega)]; simp; omega⟩
    rcases Nat.lt_or_ge k ((i+j) / 2) with hk'|hk'
    ·have:=h.srt.lt hk' hq e1; omega
    ·obtain rfl:k=(i+j) / 2:=by omega
     rw [e1] at hq; cases hq; omega
   ·simp only [ltI_f] at hc
    refine ⟨⟨i,(i+j) / 2,rfl,by omega,by omega,h1,fun k q hk hq=>?_⟩,by simp; omega⟩
    rcases Nat.lt_or_ge ((i+j) / 2) k with hk'|hk'
    ·have:=h.srt.lt hk' e1 hq; omega
    ·obtain rfl:k=(i+j) / 2:=by omega
     rw [e1] at hq; cases hq; omega
  ·simp only [ltI_f] at hb
   obtain rfl:i=j:=by omega
   exact ⟨i,rfl,hjl,h1,h2⟩
 ·rintro _ ⟨i,rfl,hi,h1,h2⟩
  refine QaL (fun hb=>?_) (fun hb=>Qaw.2 ⟨i,rfl,hi,h1,h2,?_⟩)
  ·simp only [ltI_t,lenI] at hb
   have hi':i<l.length:=by omega
   have e1:l[i]?=some l[i]:=List.getElem?_eq_getElem hi'
   rw [QaR e1,Qak]
   generalize l[i]=p at e1
   have hp:=h.bd e1
   unfold QbB
   rw [subI (by omega) (by omega),Qak,Qaw]
   refine ⟨i,rfl,hi,h1,h2,?_⟩
   simp only [eqI_t,e1,Option.some.injEq,exists_eq_left']
   omega
  ·simp only [ltI_f,lenI] at hb
   rw [List.getElem?_eq_none (by omega)]
   simp
theorem QfM {l:List Pt} (h:Right l) {t:Int} (ht:inT t):Qdd l t=some (arrL l t):=by
 apply post.eq
 have hpos:=h.pos; have hmost:=h.most
 obtain ⟨⟨x,f⟩,hx,i,rfl,hi,h1,h2,h3⟩:=Qh5 h ht
 simp only at h3
 unfold Qdd
 rw [hx,Qak]
 unfold inT at ht
 refine QaL (fun hb=>?_) (fun hb=>?_)
 ·obtain ⟨p,e1,hpt⟩:=h3.1 hb
  show post (bnd (getI l (i:Int)) _) _
  rw [QaR e1,Qak,Qaw]
  subst hpt
  rcases Nat.lt_or_ge (i+1) l.length with h'|h'
  ·have e2:l[i+1]?=some l[i+1]:=List.getElem?_eq_getElem h'
   have hlt:=(h.srt.pair e1 e2).1
   rw [QhQ h.srt e1 e2 (by omega) (by omega),Qj1 hlt]
  ·have hil:i=l.length-1:=by have:=(List.getElem?_eq_some_iff.1 e1).1; omega
   rw [hil] at e1
   rw [Qg5 h.srt e1 (by omega)]; omega
 ·have hnf:∀ p,l[i]?=some p→p.t≠t:=fun p hp he=>by
   have:=h3.2 ⟨p,hp,he⟩
   simp only at hb
   rw [this] at hb; cases hb
  have e0:l[0]?=some l[0]:=List.getElem?_eq_getElem (by omega)
  show post (br (eqI (i:Int) 0) _ _) _
  refine QaL (fun hc=>?_) (fun hc=>?_)
  ·simp only [eqI_t] at hc
   obtain rfl:i=0:=by omega
   rw [show (0:Int)=((0:Nat):Int) from rfl,QaR e0,Qak]
   have hp:=h.bd e0
   have h4:=h2 0 _ (by omega) e0
   generalize l[0]=p at e0 hp h4
   obtain ⟨r,hr⟩:∃ r,l=p :: r:=by
    cases l with
    | nil=>simp at hpos
    | cons x r=>cases e0; exact ⟨r,rfl⟩
   simp (disch:=omega) only [addI,subI,Qaw]
   rw [hr,QkZ (by rw [← hr]; exact h.srt) h4]
  ·simp only [eqI_f] at hc
   have e1:l[i-1]?=some (l[i-1]'(by omega)):=List.getElem?_eq_getElem _
   have hs:subK .i64 (i:Int) 1=((i-1:Nat):Int):=by rw [subI (by omega) (by omega)]; omega
   have hp:=h.bd e1
   have h4:=h1 (i-1) _ (by omega) e1
   show post (br (eqI (i:Int) (lenI l)) (bnd (getI l (subK .i64 (i:Int) 1)) _) _) _
   rw [hs]
   refine QaL (fun hd=>?_) (fun hd=>?_)
   ·simp only [eqI_t,lenI] at hd
    obtain rfl:i=l.length:=by omega
    rw [QaR e1,Qak]
    simp (disch:=omega) only [addI,subI,Qaw]
    rw [Qg5 h.srt e1 (by omega)]
   ·simp only [eqI_f,lenI] at hd
    have e2:l[i]?=some (l[i]'(by omega)):=List.getElem?_eq_getElem _
    have hq:=h.bd e2
    have h5:=h2 i _ (by omega) e2
    show post (bnd (getI l ((i-1:Nat):Int)) fun x3=>bnd (getI l (i:Int)) fun x4=>_) _
    rw [QaR e1,Qak,QaR e2,Qak]
    have e2':l[i-1+1]?=some (l[i]'(by omega)):=by rw [show i-1+1=i by omega]; exact e2
    generalize l[i-1]=p at e1 hp h4
    generalize l[i]=q at e2 e2' hq h5
    obtain ⟨hpq,hpa⟩:=h.srt.pair e1 e2'
    obtain ⟨n1,n2,n3,n4⟩:=QlO (h.at e1) (h.at e2) hpq hpa (Int.le_of_lt h4) h5
    simp (disch:=omega) only [addI,subI,mulI,quoP]
    refine Qa5 (by omega) (Qaw.2 ?_)
    rw [QhQ h.srt e1 e2' (Int.le_of_lt h4) h5]
    rfl
theorem QfL {l:List Pt} (h:Right l) {t:Int} (ht:inT t):Qdc l t=some (arrL l t):=by
 unfold Qdc
 rw [show QbN t 0 1073741824=some true by unfold QbN; unfold inT at ht; simp only [Option.some.injEq,andT,geI_t,leI_t]; omega,Qak,QdR,Qf2 h,Qak,QdR,QfM h ht,Qak]
end Go.Proofs.YtpkkaboonnedfaaDoor
namespace Go.Proofs.YtpkkaboonnedfaaDoor
set_option linter.unusedSimpArgs false
set_option linter.unusedVariables false
set_option linter.unusedSectionVars false

class Sm (α : Type) where
  sm : α → Prop
instance:Sm Qaa:=⟨fun f=>f.at_.size≤64⟩
instance:Sm Int:=⟨fun _=>True⟩
section
variable {α β : Type} [Sm α]
def Ext (l0:List α) (c:Nat) (P:Prop) (r:List α):Prop:=∃ new,r=l0++new∧new.length≤c∧(new=[]→P)∧∀ x∈new,Sm.sm x
theorem Ext.nil {l0:List α} {c:Nat} {P:Prop} (h:P):Ext l0 c P l0:=⟨[],by simp,by simp,fun _=>h,by simp⟩
theorem Ext.one {l0:List α} {c:Nat} {P:Prop} {x:α} (hc:1≤c) (hx:Sm.sm x):Ext l0 c P (l0++[x]):=⟨[x],rfl,hc,fun h=>by (cases h),fun y hy=>by rw [List.mem_singleton.1 hy]; exact hx⟩
theorem Ext.trans {a b r:List α} {c d e:Nat} {P Q R:Prop} (h:Ext a c P b) (h':Ext b d Q r) (he:c+d≤e) (hr:P→Q→R):Ext a e R r:=by
 obtain ⟨n,rfl,h1,h2,h5⟩:=h
 obtain ⟨m,rfl,h3,h4,h6⟩:=h'
 refine ⟨n++m,by simp,by simp; omega,fun h=>?_,fun x hx=>by rcases List.mem_append.1 hx with h|h; exact h5 x h; exact h6 x h⟩
 rw [List.append_eq_nil_iff] at h
 exact hr (h2 h.1) (h4 h.2)
theorem Ext.len {a r:List α} {c:Nat} {P:Prop} (h:Ext a c P r):r.length≤a.length+c:=by obtain ⟨n,rfl,h1,_⟩:=h; simp; omega
theorem Ext.of_nil {r:List α} {c:Nat} {P:Prop} (h:Ext [] c P r) (hr:r=[]):P:=by
 obtain ⟨n,rfl,_,h2,_⟩:=h
 exact h2 (by simpa using hr)
theorem Ext.mono {a r:List α} {c d:Nat} {P Q:Prop} (h:Ext a c P r) (hc:c≤d) (hp:P→Q):Ext a d Q r:=by
 obtain ⟨n,rfl,h1,h2,h3⟩:=h
 exact ⟨n,rfl,by omega,fun hn=>hp (h2 hn),h3⟩
def RndE (out:List α) (i:Int) (c:Nat) (P:Prop) (x:(List α×Int)⊕β):Prop:=∃ r,x=.inl (r,i)∧Ext out c P r
theorem QiG {out:List α} {i j:Int} {c:Nat} {P:Prop} (hi:j=i) (h:P):post (some (Sum.inl (out,j):(List α×Int)⊕β)) (RndE out i c P):=⟨_,rfl,out,by rw [hi],.nil h⟩
theorem Qg3 {out:List α} {x:α} {i j:Int} {c:Nat} {P:Prop} (hi:j=i) (hc:1≤c) (hx:Sm.sm x):post (some (Sum.inl (out++[x],j):(List α×Int)⊕β)) (RndE out i c P):=⟨_,rfl,_,by rw [hi],.one hc hx⟩
theorem Qeh {B:List α×Int→Option ((List α×Int)⊕(List α))} (n c:Nat) (P:Nat→Prop) (l0:List α) (hn:n<18446744073709551615)
  (step:∀ (i:Nat) (out:List α),i<n→out.length≤l0.length+c*i→post (B (out,(i:Int))) (RndE out ((i:Int)+1) c (P i)))
  (fin:∀ out,B (out,(n:Int))=some (.inr out)):post (loopF B (l0,0)) (Ext l0 (c*n) (∀ i,i<n→P i)):=by
 refine QdX (fun s=>∃ i:Nat,s.2=(i:Int)∧i≤n∧Ext l0 (c*i) (∀ k,k<i→P k) s.1) (fun s=>n-s.2.toNat)
  ⟨0,rfl,Nat.zero_le _,.nil (by simp)⟩ (by simp; omega) ?_
 rintro ⟨out,j⟩ ⟨i,hj,hi,hl⟩
 simp only at hj hl
 subst hj
 by_cases h:i<n
 ·refine (step i out h hl.len).mono ?_
  rintro x ⟨r,rfl,h1⟩
  refine ⟨fun s' hs=>?_,fun _ h=>by cases h⟩
  cases hs
  refine ⟨⟨i+1,by simp,by omega,hl.trans h1 (by rw [Nat.mul_add]; omega) fun h2 h3 k hk=>?_⟩,by simp; omega⟩
  rcases Nat.lt_or_ge k i with h|h
  ·exact h2 k h
  ·obtain rfl:k=i:=by omega
   exact h3
 ·obtain rfl:i=n:=by omega
  rw [fin]
  exact QdH hl
end
theorem sm_at {e:Int} {s:ByteArray} (h:s.size≤64):Sm.sm (Qaa.mk e s):=h
theorem Qg8 (a b:ByteArray):(catS a b).size=a.size+b.size:=by unfold catS; exact ByteArray.size_append
theorem Qgz {B:Bool×Int→Option ((Bool×Int)⊕Bool)} (n:Nat) (P:Nat→Prop) (hn:n<18446744073709551615)
  (step:∀ (k:Nat) (b:Bool),k<n→post (B (b,(k:Int))) fun x=>∃ b',x=.inl (b',(k:Int)+1)∧(b'=true↔b=true∨P k))
  (fin:∀ b,B (b,(n:Int))=some (.inr b)):post (loopF B (false,0)) fun r=>(r=true↔∃ k,k<n∧P k):=by
 refine QdX (fun s=>∃ i:Nat,s.2=(i:Int)∧i≤n∧(s.1=true↔∃ k,k<i∧P k)) (fun s=>n-s.2.toNat) ⟨0,rfl,Nat.zero_le _,by simp⟩ (by simp; omega) ?_
 rintro ⟨b,j⟩ ⟨i,hj,hi,hl⟩
 simp only at hj hl
 subst hj
 by_cases h:i<n
 ·refine (step i b h).mono ?_
  rintro x ⟨b',rfl,h1⟩
  refine ⟨fun s' hs=>?_,fun _ h=>by cases h⟩
  cases hs
  refine ⟨⟨i+1,by simp,by omega,?_⟩,by simp; omega⟩
  simp only
  rw [h1,hl]
  constructor
  ·rintro (⟨k,h2,h3⟩|h2)
   ·exact ⟨k,by omega,h3⟩
   ·exact ⟨i,by omega,h2⟩
  ·rintro ⟨k,h2,h3⟩
   rcases Nat.lt_or_ge k i with h|h
   ·exact .inl ⟨k,h,h3⟩
   ·obtain rfl:k=i:=by omega
    exact .inr h3
 ·obtain rfl:i=n:=by omega
  rw [fin]
  exact QdH hl
theorem inc {i n:Nat} (h:i<n) (hn:n≤1048576):addK .i64 (i:Int) 1=(i:Int)+1:=addI (by omega) (by omega)
theorem dec {i:Nat} (h:0<i) (hn:i≤1048576):subK .i64 (i:Int) 1=((i-1:Nat):Int):=by rw [subI (by omega) (by omega)]; omega

theorem QkI {s:ByteArray} {i:Int} (h0:0≤i) (h1:i<s.size):∃ b,getS s i=some b:=by
 unfold getS
 rw [if_pos h0]
 exact ⟨_,getElem?_pos s i.toNat (by omega)⟩
theorem Qix (s:ByteArray) (hs:s.size≤1048576):post (Qba s) fun _=>True:=by
 unfold Qba
 refine QaL (fun _=>Qaw.2 trivial) (fun hb=>?_)
 simp only [orF,ltI_f,gtI_f,sizeS] at hb
 obtain ⟨b,hb0⟩:=QkI (s:=s) (i:=0) (by omega) (by omega)
 rw [hb0,Qak]
 refine QaZ (R:=fun _=>True) ⟨_,rfl,trivial⟩ fun r _=>QaL (fun _=>Qaw.2 trivial) fun _=>?_
 refine QaZ (R:=fun _=>True) ?_ fun e _=>?_
 ·refine QdX (fun i=>∃ k:Nat,i=(k:Int)∧k≤s.size) (fun i=>s.size-i.toNat) ⟨0,rfl,Nat.zero_le _⟩ (by simp; omega) ?_
  rintro _ ⟨k,rfl,hk⟩
  show post (Qbn s b (k:Int)) _
  unfold Qbn
  refine QaL (fun hb=>?_) (fun _=>QdH trivial)
  simp only [ltI_t,sizeS] at hb
  obtain ⟨c,hc⟩:=QkI (s:=s) (i:=k) (by omega) (by omega)
  rw [hc,Qak,inc (n:=s.size) (by omega) hs]
  have leaf:post (some (Sum.inl ((k:Int)+1):Int⊕(Unit⊕Bool))) fun x=>(∀ s',x=.inl s'→(∃ k:Nat,s'=(k:Int)∧k≤s.size)∧s.size-s'.toNat<s.size-(k:Int).toNat)∧∀ e,x=.inr e→True :=
   Qfk ⟨⟨k+1,by simp,by omega⟩,by simp; omega⟩
  refine QaZ (R:=fun _=>True) ⟨_,rfl,trivial⟩ fun r1 _=>QaL (fun _=>leaf) fun _=>?_
  exact QaZ (R:=fun _=>True) ⟨_,rfl,trivial⟩ fun r2 _=>QaL (fun _=>leaf) fun _=>QdH trivial
 ·cases e with
  | inl u=>exact Qaw.2 trivial
  | inr r=>exact Qaw.2 trivial

structure ArcI (a:Qad):Prop where
 travel:a.travel.length≤1048576
 slow:a.slow.length≤1048576
 pts:∀ p∈a.travel,ptI p
 pts2:∀ p∈a.slow,ptI p
structure NetI (n:Qac):Prop where
 places:n.places.length≤1048576
 arcs:n.arcs.length≤1048576
 names:∀ s∈n.places,s.size≤1048576
 arcI:∀ a∈n.arcs,ArcI a
def okS (l:List Pt) (i:Nat):Prop:=∀ p,l[i]?=some p→0≤p.t∧p.t≤4096∧0≤p.a∧p.a≤4096∧(0<i→∀ q,l[i-1]?=some q→q.t<p.t)
structure ArcOK (np:Nat) (a:Qad):Prop where
 from0:0≤a.from_
 from1:a.from_<np
 to0:0≤a.to_
 to1:a.to_<np
 prof0:0≤a.profile
 prof1:a.profile≤7
 miles0:0≤a.miles
 miles1:a.miles≤10000
 ne:a.from_≠a.to_
 travel:Right a.travel
 slow:a.slow.length≤16
 slowAll:∀ i,i<a.slow.length→okS a.slow i
def Qgk (a b:Qad):Prop:=a.from_=b.from_∧a.to_=b.to_∧a.profile=b.profile
structure NetOK (n:Qac):Prop where
 places:n.places.length≤24
 arcs:n.arcs.length≤1024
 all:∀ a∈n.arcs,ArcOK n.places.length a
 once:∀ (i k:Nat) (a b:Qad),k<i→n.arcs[i]?=some a→n.arcs[k]?=some b→¬ Qgk a b

theorem Qgm {n:Qac} (hn:NetI n):post (QaC n) (Ext [] (1+n.places.length) (n.places.length≤24)):=by
 have hpl:=hn.places
 have main:∀ l0:List Qaa,l0.length≤1→post (QaE n l0) (Ext l0 n.places.length True):=by
  intro l0 hin
  refine QaZ (R:=Ext l0 n.places.length True) ?_ fun a h=>Qaw.2 h
  refine (Qeh n.places.length 1 (fun _=>True) l0 (by omega) (fun i out hi ho=>?_) (fun out=>?_)).mono fun r h=>h.mono (by omega) fun _=>trivial
  ·show post (Qam n l0 out (i:Int)) _
   unfold Qam
   rw [Qc2 (by simp [lenI]; exact hi),inc hi hpl]
   refine QaZ (Qdz (i:Int) (QhG (by omega))) fun r hr=>Qa5 (by show 6+r.size≤_; omega) ?_
   have e1:n.places[i]?=some n.places[i]:=List.getElem?_eq_getElem hi
   rw [QaR e1,Qak]
   have hok:∀ f:Qaa,okN (out++[f]).length 24:=fun f=>QdP (by simp; omega)
   have hsm:∀ {e:Int},Sm.sm (Qaa.mk e (catS Qax r)):=sm_at (by rw [Qg8]; show 6+r.size≤64; omega)
   refine QaZ (Qix _ (hn.names _ (List.getElem_mem hi))) fun r1 _=>QaL (fun _=>?_) (fun _=>Qa5 (hok _) (Qg3 rfl (by omega) hsm))
   refine QaZ (R:=fun _=>True) ((Qgz i (fun k=>∃ x,n.places[k]?=some x∧eqS x n.places[i]=true) (by omega) (fun k b hk=>?_) (fun b=>?_)).mono fun _ _=>trivial) fun tw _=>QaL (fun _=>Qa5 (hok _) (Qg3 rfl (by omega) hsm)) (fun _=>QiG rfl trivial)
   ·show post (Qan n l0 out (i:Int) r b (k:Int)) _
    unfold Qan
    rw [Qc2 (by simp; omega),inc (n:=i) hk (by omega)]
    have e2:n.places[k]?=some (n.places[k]'(by omega)):=List.getElem?_eq_getElem _
    refine QaL (fun h=>Qaw.2 ⟨true,rfl,by simp [h]⟩) (fun h=>?_)
    rw [QaR e2,Qak,QaR e1,Qak,Qaw]
    exact ⟨_,rfl,by simp [h,e2]⟩
   ·show Qan n l0 out (i:Int) r b (i:Int)=_
    unfold Qan
    rw [Qb5 (by simp)]
  ·show Qam n l0 out (n.places.length:Int)=_
   unfold Qam
   rw [Qb5 (by simp [lenI])]
 unfold QaC
 refine QaL (fun h=>Qa5 (QdP (by simp)) ((main _ (by simp)).mono fun r h'=>?_)) (fun h=>(main _ (by simp)).mono fun r h'=>h'.mono (by omega) fun _=>?_)
 ·exact (Ext.one (l0:=[]) (P:=n.places.length≤24) (Nat.le_refl 1) (sm_at (s:=Qbm) (show 6≤64 by omega))).trans h' (Nat.le_refl _) fun h _=>h
 ·simp only [gtI_f,lenI] at h; omega
theorem QkT (t:Int):QbW t=some (decide (0≤t∧t≤4096)):=by
 unfold QbW
 congr 1
 rw [Bool.eq_iff_iff,andT,geI_t,leI_t,decide_eq_true_iff]
theorem QiI {r:ByteArray} (hr:r.size≤21) {x0:Qad} {l l0:List Qaa} (hI:ArcI x0) (hin:l0.length≤4194304):post (QaA r x0 l l0) (Ext l0 x0.slow.length (∀ i,i<x0.slow.length→okS x0.slow i)):=by
 have hsl:=hI.slow
 have hsm:∀ {e:Int},Sm.sm (Qaa.mk e (catS Qal r)):=sm_at (by rw [Qg8]; show 4+r.size≤64; omega)
 refine QaZ (R:=Ext l0 x0.slow.length (∀ i,i<x0.slow.length→okS x0.slow i)) ?_ fun a h=>Qaw.2 h
 refine (Qeh x0.slow.length 1 (okS x0.slow) l0 (by omega) (fun i out hi ho=>?_) (fun out=>?_)).mono fun r h=>h.mono (by omega) id
 ·show post (QaK r x0 l out (i:Int)) _
  unfold QaK
  have hok:∀ f:Qaa,okN (out++[f]).length 24:=fun f=>QdP (by simp; omega)
  have e1:x0.slow[i]?=some x0.slow[i]:=List.getElem?_eq_getElem hi
  rw [Qc2 (by simp [lenI]; exact hi),inc hi hsl,QaR e1,Qak,QkT,Qak,QkT]
  generalize x0.slow[i]=p at e1
  have no:post (chk (okN (out++[Qaa.mk 2 (catS Qal r)]).length 24) (some (Sum.inl (out++[Qaa.mk 2 (catS Qal r)],(i:Int)+1):(List Qaa×Int)⊕(List Qaa)))) (RndE out ((i:Int)+1) 1 (okS x0.slow i)):=Qa5 (hok _) (Qg3 rfl (by omega) hsm)
  refine QaL (fun h1=>?_) (fun _=>no)
  rw [Qak]
  refine QaL (fun h2=>QaL (fun h3=>?_) (fun h3=>QiG rfl ?_)) (fun _=>no)
  ·simp only [gtI_t] at h3
   have e2:x0.slow[i-1]?=some (x0.slow[i-1]'(by omega)):=List.getElem?_eq_getElem _
   rw [dec (by omega) (by omega),QaR e2,Qak]
   refine QaL (fun _=>no) (fun h4=>QiG rfl ?_)
   simp only [leI_f,decide_eq_true_iff] at h1 h2 h4
   intro x hx; rw [e1] at hx; cases hx
   exact ⟨h1.1,h1.2,h2.1,h2.2,fun _ q hq=>by rw [e2] at hq; cases hq; exact h4⟩
  ·simp only [gtI_f,decide_eq_true_iff] at h1 h2 h3
   intro x hx; rw [e1] at hx; cases hx
   exact ⟨h1.1,h1.2,h2.1,h2.2,fun h=>by omega⟩
 ·show QaK r x0 l out (x0.slow.length:Int)=_
  unfold QaK
  rw [Qb5 (by simp [lenI])]
theorem Qf6 {n:Qac} (hn:NetI n) {i:Nat} {a:Qad} (ha:n.arcs[i]?=some a) :
  post (Qbw n (i:Int)) (Ext [] 3145735 (ArcOK n.places.length a∧∀ (k:Nat) (b:Qad),k<i→n.arcs[k]?=some b→¬ Qgk a b)):=by
 have hi:i<n.arcs.length:=(List.getElem?_eq_some_iff.1 ha).1
 have hal:=hn.arcs
 have hI:=hn.arcI a (List.mem_of_getElem? ha)
 have hsl:=hI.slow
 have htl:=hI.travel
 unfold Qbw
 refine QaZ (Qdz (i:Int) (QhG (by omega))) fun r hr=>Qa5 (by show 4+r.size≤_; omega) ?_
 rw [QaR ha,Qak]
 have hsm:∀ {e:Int},Sm.sm (Qaa.mk e (catS Qal r)):=sm_at (by rw [Qg8]; show 4+r.size≤64; omega)
 have gen:∀ (l l0:List Qaa),l0.length≤3→post (QaH r a l l0) (Ext l0 3145732 (Right a.travel∧a.slow.length≤16∧∀ i,i<a.slow.length→okS a.slow i)):=by
  intro l l0 hin
  unfold QaH
  refine QaZ (QgB htl hI.pts) fun r1 hr1=>?_
  refine QaZ (R:=Ext l0 2097153 (Right a.travel)) ?_ fun l4 h4=>?_
  ·refine (Qeh r1.length 1 (fun _=>False) l0 (by omega) (fun k out hk ho=>?_) (fun out=>?_)).mono fun x hx=>?_
   ·show post (QaJ r a l r1 out (k:Int)) _
    unfold QaJ
    have e1:r1[k]?=some r1[k]:=List.getElem?_eq_getElem hk
    have hadd:addK .i64 (k:Int) 1=(k:Int)+1:=addI (by omega) (by omega)
    rw [Qc2 (by simp [lenI]; exact hk),hadd,QaR e1,Qak]
    exact Qa5 (QdP (by simp; omega)) (Qg3 rfl (by omega) hsm)
   ·show QaJ r a l r1 out (r1.length:Int)=_
    unfold QaJ
    rw [Qb5 (by simp [lenI])]
   ·refine hx.mono (by omega) fun h=>hr1.2.1 ?_
    cases r1 with
    | nil=>rfl
    | cons y ys=>exact (h 0 (by simp)).elim
  ·have h4l:=h4.len
   refine QaL (fun h=>Qa5 (QdP (by simp; omega)) ?_) (fun h=>?_)
   ·refine ((QiI hr hI (by simp; omega)).mono fun _ h=>h.mono hsl id:post (QaA r a l _) (Ext _ 1048576 _)).mono fun x hx=>?_
    refine h4.trans ((Ext.one (P:=False) (Nat.le_refl 1) hsm).trans hx (e:=1048577) (by omega) (fun h _=>h)) (by omega) fun h1 h2=>h2.elim
   ·refine ((QiI hr hI (by omega)).mono fun _ h=>h.mono hsl id:post (QaA r a l _) (Ext _ 1048576 _)).mono fun x hx=>?_
    simp only [gtI_f,lenI] at h
    exact h4.trans hx (by omega) fun h1 h2=>⟨h1,by omega,h2⟩
 have gen2:∀ (l l0:List Qaa),l0.length≤2→post (QaY n (i:Int) r a l l0) (Ext l0 3145733 ((∀ (k:Nat) (b:Qad),k<i→n.arcs[k]?=some b→¬ Qgk a b)∧Right a.travel∧a.slow.length≤16∧∀ i,i<a.slow.length→okS a.slow i)):=by
  intro l l0 hin
  unfold QaY
  refine QaZ (Qgz i (fun k=>∃ b,n.arcs[k]?=some b∧Qgk a b) (by omega) (fun k b hk=>?_) (fun b=>?_)) fun tw htw=>QaL (fun h=>Qa5 (QdP (by simp; omega)) ?_) (fun h=>?_)
  ·show post (QaI n (i:Int) r a l l0 b (k:Int)) _
   unfold QaI
   have e1:n.arcs[k]?=some (n.arcs[k]'(by omega)):=List.getElem?_eq_getElem _
   rw [Qc2 (by simp; omega),inc (n:=i) hk (by omega),QaR e1,Qak,Qaw]
   refine ⟨_,rfl,?_⟩
   simp only [orT,andT,eqI_t,e1,Option.some.injEq,exists_eq_left',Qgk,and_assoc]
  ·show QaI n (i:Int) r a l l0 b (i:Int)=_
   unfold QaI
   rw [Qb5 (by simp)]
  ·exact (gen l _ (by simp; omega)).mono fun x hx=>(Ext.one (P:=False) (Nat.le_refl 1) hsm).trans hx (by omega) fun h _=>h.elim
  ·refine (gen l _ (by omega)).mono fun x hx=>hx.mono (by omega) fun h'=>⟨fun k b hk hb hs=>?_,h'⟩
   rw [htw.2 ⟨k,hk,b,hb,hs⟩] at h; cases h
 have fin:∀ (l:List Qaa),l.length≤1→post (QaX n (i:Int) r a l) (Ext l 3145734 (0≤a.profile∧a.profile≤7∧0≤a.miles∧a.miles≤10000∧a.from_≠a.to_∧(∀ (k:Nat) (b:Qad),k<i→n.arcs[k]?=some b→¬ Qgk a b)∧Right a.travel∧a.slow.length≤16∧∀ i,i<a.slow.length→okS a.slow i)):=by
  intro l hl
  unfold QaX
  refine QaL (fun h=>Qa5 (QdP (by simp; omega)) ?_) (fun h=>?_)
  ·exact (gen2 l _ (by simp; omega)).mono fun x hx=>(Ext.one (P:=False) (Nat.le_refl 1) hsm).trans hx (by omega) fun h _=>h.elim
  ·simp only [orF,ltI_f,gtI_f,eqI_f] at h
   exact (gen2 l _ (by omega)).mono fun x hx=>hx.mono (by omega) fun h'=>⟨h.1.1.1.1,h.1.1.1.2,h.1.1.2,h.1.2,h.2,h'⟩
 refine QaL (fun h=>Qa5 (QdP (by simp)) ?_) (fun h=>?_)
 ·exact (fin _ (by simp)).mono fun x hx=>(Ext.one (l0:=[]) (P:=False) (Nat.le_refl 1) hsm).trans hx (by omega) fun h _=>h.elim
 ·simp only [orF,ltI_f,geI_f,lenI] at h
  exact (fin _ (by simp)).mono fun x hx=>hx.mono (by omega) fun ⟨h1,h2,h3,h4,h5,h6,h7,h8,h9⟩=>⟨⟨h.1.1.1,h.1.1.2,h.1.2,h.2,h1,h2,h3,h4,h5,h7,h8,h9⟩,h6⟩
theorem QeT {n:Qac} (hn:NetI n):post (Qbe n) (Ext [] (1048578+3145735*n.arcs.length) (NetOK n)):=by
 have hal:=hn.arcs
 have hpl:=hn.places
 unfold Qbe
 refine QaZ (Qgm hn) fun r hr=>?_
 have hrl:=hr.len
 have main:∀ l0:List Qaa,l0.length≤1048578→post (Qbg n l0) (Ext l0 (3145735*n.arcs.length) (∀ i,i<n.arcs.length→∀ a,n.arcs[i]?=some a→ArcOK n.places.length a∧∀ (k:Nat) (b:Qad),k<i→n.arcs[k]?=some b→¬ Qgk a b)):=by
  intro l0 hin
  refine QiB ?_
  refine (Qeh n.arcs.length 3145735 _ l0 (by omega) (fun i out hi ho=>?_) (fun out=>?_)).mono fun r h=>Qaw.2 h
  ·show post (Qav n l0 out (i:Int)) _
   unfold Qav
   have e1:n.arcs[i]?=some n.arcs[i]:=List.getElem?_eq_getElem hi
   rw [Qc2 (by simp [lenI]; exact hi),inc hi hal]
   refine QaZ (Qf6 hn e1) fun r1 hr1=>?_
   obtain ⟨new,h1,h2,h3,h4⟩:=hr1
   rw [List.nil_append] at h1
   subst h1
   refine Qa5 (QdP (by simp; omega)) (Qaw.2 ⟨_,rfl,_,rfl,h2,fun h a ha=>?_,h4⟩)
   rw [e1] at ha; cases ha
   exact h3 h
  ·show Qav n l0 out (n.arcs.length:Int)=_
   unfold Qav
   rw [Qb5 (by simp [lenI])]
 refine QaL (fun h=>Qa5 (QdP (by simp at hrl ⊢; omega)) ((main _ (by simp at hrl ⊢; omega)).mono fun x hx=>?_)) (fun h=>(main _ (by simp at hrl; omega)).mono fun x hx=>?_)
 ·exact hr.trans ((Ext.one (P:=False) (Nat.le_refl 1) (sm_at (s:=QbZ) (show 4≤64 by omega))).trans hx (Nat.le_refl _) (R:=False) fun h _=>h) (by omega) fun _ h=>h.elim
 ·simp only [gtI_f,lenI] at h
  refine hr.trans hx (by omega) fun h1 h2=>⟨h1,by omega,fun a ha=>?_,fun i k a b hk ha hb=>(h2 i (List.getElem?_eq_some_iff.1 ha).1 a ha).2 k b hk hb⟩
  obtain ⟨i,hi⟩:=List.getElem?_of_mem ha
  exact (h2 i (List.getElem?_eq_some_iff.1 hi).1 a hi).1
end Go.Proofs.YtpkkaboonnedfaaDoor
namespace Go.Proofs.YtpkkaboonnedfaaDoor
set_option linter.unusedSimpArgs false
set_option linter.unusedVariables false
set_option linter.unusedSectionVars false

def QbU (l:List Pt) (t:Int):Int:=l.foldr (fun p s=>(if p.t≤t then p.a else 0)+s) 0
theorem Qdv (l m:List Pt) (t:Int):QbU (l++m) t=QbU l t+QbU m t:=by
 induction l with
 | nil=>simp [QbU]
 | cons p l ih=>simp only [QbU,List.cons_append,List.foldr_cons] at ih ⊢; omega
theorem QgH {l:List Pt} {t:Int} {i:Nat} {p:Pt} (h:l[i]?=some p):QbU (l.take (i+1)) t=QbU (l.take i) t+(if p.t≤t then p.a else 0):=by
 rw [List.take_add_one,h,Qdv]; simp [QbU]
theorem QlM {l:List Pt} (h:∀ i,i<l.length→okS l i) {i:Nat} {p:Pt} (hp:l[i]?=some p):0≤p.t∧p.t≤4096∧0≤p.a∧p.a≤4096:=by
 have:=h i (List.getElem?_eq_some_iff.1 hp).1 p hp
 exact ⟨this.1,this.2.1,this.2.2.1,this.2.2.2.1⟩
theorem QgF {l:List Pt} (h:∀ i,i<l.length→okS l i) (t:Int):∀ i:Nat,i≤l.length→0≤QbU (l.take i) t∧QbU (l.take i) t≤4096*i
 | 0,_=>by simp [QbU]
 | i+1,hi=>by
  have e1:l[i]?=some (l[i]'(by omega)):=List.getElem?_eq_getElem _
  have ih:=QgF h t i (by omega)
  have:=QlM h e1
  rw [QgH e1]
  split <;> omega
def arrA (a:Qad) (t:Int):Int:=arrL a.travel t+QbU a.slow t
theorem Right.ne {l:List Pt} (h:Right l):l≠[]:=fun e=>by have:=h.pos; rw [e] at this; simp at this
theorem QgG {l:List Pt} (h:∀ i,i<l.length→okS l i) (hl:l.length≤16) (t:Int):0≤QbU l t∧QbU l t≤65536:=by
 have:=QgF h t l.length (Nat.le_refl _)
 rw [List.take_length] at this; omega
theorem Qly {np:Nat} {a:Qad} (h:ArcOK np a) (t:Int):t≤arrA a t:=by
 have:=Qi8 h.travel.srt h.travel.ne t
 have:=QgG h.slowAll h.slow t
 unfold arrA; omega
theorem Qlz {np:Nat} {a:Qad} (h:ArcOK np a) {t:Int} (ht:0≤t):arrA a t≤t+73728:=by
 have:=Qi9 h.travel.srt ht
 have:=QgG h.slowAll h.slow t
 unfold arrA; omega
theorem QkB {l:List Pt} {t r:Int} (h:∀ i,i<l.length→okS l i) (hl:l.length≤16) (hr:0≤r) (hr':r≤2147483648) {B:Int×Int→Option ((Int×Int)⊕Int)}
  (hB:∀ out i,B (out,i)=br (ltI i (lenI l)) (bnd (getI l i) fun x0=>br (leI x0.t t) (some (.inl ((addK .i64 out x0.a),(addK .i64 i 1)))) (some (.inl (out,(addK .i64 i 1))))) (some (.inr out))) :
  loopF B (r,0)=some (r+QbU l t):=by
 have e:loopF B ((fun i:Nat=>(r+QbU (l.take i) t,(i:Int))) 0)=some (r+QbU l t):=by
  refine Qfi l.length (fun i:Nat=>(r+QbU (l.take i) t,(i:Int))) (by omega) (fun i hi=>?_) ?_
  ·have e1:l[i]?=some l[i]:=List.getElem?_eq_getElem hi
   have hb:=QgF h t i (by omega)
   have hp:=QlM h e1
   show B (_,_)=some (.inl (_,_))
   rw [hB,Qc2 (by simp [lenI]; exact hi),QaR e1,Qak,QgH e1,show addK .i64 (i:Int) 1=((i+1:Nat):Int) by rw [addI (by omega) (by omega)]; omega]
   by_cases hc:l[i].t≤t
   ·rw [Qc2 (by simpa using hc),if_pos hc,addI (by omega) (by omega),Int.add_assoc]
   ·rw [Qb5 (by simp; omega),if_neg hc,Int.add_zero]
  ·show B (_,_)=_
   rw [hB,Qb5 (by simp [lenI]),List.take_length]
 simpa [QbU] using e
theorem Qja {np:Nat} {a:Qad} (h:ArcOK np a) {t:Int} (ht:inT t):QbY a t=some (arrA a t):=by
 have h1:=Qi8 h.travel.srt h.travel.ne t
 have h2:=Qi9 h.travel.srt ht.1
 unfold inT at ht
 unfold QbY
 rw [QfL h.travel ht,Qak,QkB h.slowAll h.slow (by omega) (by omega) (fun out i=>rfl),Qak]
 rfl
theorem Qki {α E:Type} {l:List α} (p:α→Bool) (Y:α→E) (N:E) (hl:l.length≤1048576) {B:Int→Option (Int⊕E)}
  (hB:∀ i,B i=br (ltI i (lenI l)) (bnd (getI l i) fun x=>br (p x) (some (.inr (Y x))) (some (.inl (addK .i64 i 1)))) (some (.inr N))) :
  loopF B 0=some (match l.find? p with|some x=>Y x|none=>N):=by
 apply post.eq
 refine QdX (fun i=>∃ k:Nat,i=(k:Int)∧k≤l.length∧(l.drop k).find? p=l.find? p) (fun i=>l.length-i.toNat) ⟨0,rfl,Nat.zero_le _,rfl⟩ (by simp; omega) ?_
 rintro _ ⟨k,rfl,hk,hf⟩
 rw [hB]
 refine QaL (fun hb=>?_) (fun hb=>QdH ?_)
 ·simp only [ltI_t,lenI] at hb
  have hk':k<l.length:=by omega
  have e1:l[k]?=some l[k]:=List.getElem?_eq_getElem hk'
  rw [List.drop_eq_getElem_cons hk',List.find?_cons] at hf
  rw [QaR e1,Qak,inc hk' hl]
  refine QaL (fun hc=>QdH ?_) (fun hc=>Qfk ⟨⟨k+1,by simp,by omega,?_⟩,by simp; omega⟩)
  ·rw [hc] at hf; simp only at hf; rw [← hf]
  ·rw [hc] at hf; simpa using hf
 ·simp only [ltI_f,lenI] at hb
  rw [List.drop_eq_nil_of_le (by omega)] at hf
  rw [← hf]; rfl
def isArc (profile from_ to_:Int) (a:Qad):Bool:=decide (a.from_=from_∧a.to_=to_∧a.profile=profile)
def findA (n:Qac) (profile from_ to_:Int):Qad×Bool:=match n.arcs.find? (isArc profile from_ to_) with
 | some a=>(a,true)
 | none=>(Qad.mk 0 0 0 0 [] [],false)
theorem QlD {n:Qac} (h:n.arcs.length≤1048576) (profile from_ to_:Int):QdE n profile from_ to_=some (findA n profile from_ to_):=by
 unfold QdE findA
 have:=Qki (isArc profile from_ to_) (fun a=>(Sum.inr (a,true):Unit⊕(Qad×Bool))) (.inl ()) h (B:=fun s=>QbX n profile from_ to_ s) (fun i=>by
  unfold QbX
  congr 2
  funext x
  unfold Qbl
  rw [Qak]
  congr 1
  unfold isArc
  rw [Bool.eq_iff_iff]
  simp [and_assoc])
 rw [QlA this]
 cases n.arcs.find? (isArc profile from_ to_) <;> rfl
theorem Qkh {n:Qac} {profile from_ to_:Int} (h:(findA n profile from_ to_).2=true):(findA n profile from_ to_).1∈n.arcs∧isArc profile from_ to_ (findA n profile from_ to_).1=true:=by
 unfold findA at h ⊢
 cases hf:n.arcs.find? (isArc profile from_ to_) with
 | none=>rw [hf] at h; cases h
 | some a=>exact ⟨List.mem_of_find?_eq_some hf,List.find?_some hf⟩
def QcQ (n:Qac) (i:Int):Bool:=decide (0≤i∧i<n.places.length)
theorem QfU (n:Qac) (i:Int):QaU n i=some (QcQ n i):=by
 unfold QaU QcQ lenI
 congr 1
 rw [Bool.eq_iff_iff]; simp
def goN (n:Qac) (profile from_ to_ t:Int):Int×Int×Int :=
 if QcQ n from_=true∧QcQ n to_=true then
  if from_=to_ then (t,0,0) else
  if (findA n profile from_ to_).2=true then (arrA (findA n profile from_ to_).1 t,(findA n profile from_ to_).1.miles,0) else (0,0,12)
 else (0,0,11)
theorem go_eq {n:Qac} (h:NetOK n) (profile from_ to_:Int) {t:Int} (ht:inT t):QbJ n profile from_ to_ t=some (goN n profile from_ to_ t):=by
 unfold QbJ goN
 rw [QfU,Qak,QfU,Qak,QlD (by have:=h.arcs; omega),Qak]
 simp only [br_if,eqI_t]
 by_cases h1:QcQ n from_=true
 ·by_cases h2:QcQ n to_=true
  ·rw [if_pos h1,if_pos h2,if_pos (And.intro h1 h2)]
   by_cases h3:from_=to_
   ·rw [if_pos h3,if_pos h3]
   ·rw [if_neg h3,if_neg h3]
    by_cases h4:(findA n profile from_ to_).2=true
    ·rw [if_pos h4,if_pos h4,Qja (h.all _ (Qkh h4).1) ht,Qak]
    ·rw [if_neg h4,if_neg h4]
  ·rw [if_pos h1,if_neg h2,if_neg (fun h:QcQ n from_=true∧QcQ n to_=true=>h2 h.2)]
 ·rw [if_neg h1,if_neg (fun h:QcQ n from_=true∧QcQ n to_=true=>h1 h.1)]
theorem QkY {α E:Type} {l:List α} (p:α→Bool) (Y:E) (N:E) (hl:l.length≤1048576) {B:Int→Option (Int⊕E)} (hp:∀ x∈l,p x=true)
  (hB:∀ (i:Nat) (x:α),l[i]?=some x→B i=br (p x) (some (.inl (addK .i64 i 1))) (some (.inr N))) (hE:B l.length=some (.inr Y)):loopF B 0=some Y:=by
 refine Qfi (B:=B) l.length (fun i=>(i:Int)) (by omega) (fun i hi=>?_) hE
 have e1:l[i]?=some l[i]:=List.getElem?_eq_getElem hi
 rw [hB i _ e1,hp _ (List.getElem_mem hi),QdR,inc hi hl]
 rfl
end Go.Proofs.YtpkkaboonnedfaaDoor
namespace Go.Proofs.YtpkkaboonnedfaaDoor
set_option linter.unusedSimpArgs false
set_option linter.unusedVariables false
set_option linter.unusedSectionVars false
theorem Qfe {l:List Pt} (hl:l.length≤1048576):Qa7 l l=some true:=by
 unfold Qa7
 rw [Qb5 (by simp)]
 have hloop:loopF (fun s=>Qau l l s) 0=some (.inl ()):=?_
 ·rw [hloop]; rfl
 refine QkY (fun _=>true) _ (Sum.inr false) hl (fun _ _=>rfl) (fun i x hx=>?_) ?_
 ·show Qau l l (i:Int)=_
  unfold Qau
  have:=(List.getElem?_eq_some_iff.1 hx).1
  rw [Qc2 (by simp [lenI]; omega),QaR hx,Qak,Qak]
  simp [eqI]
 ·show Qau l l (l.length:Int)=_
  unfold Qau
  rw [Qb5 (by simp [lenI])]
theorem Qh4 {a:Qad} (h1:a.travel.length≤1048576) (h2:a.slow.length≤1048576):QbD a a=some true:=by
 unfold QbD
 rw [Qc2 (by simp [eqI]),Qfe h1,Qak,QdR,Qfe h2,Qak]
end Go.Proofs.YtpkkaboonnedfaaDoor
namespace Go.Proofs.YtpkkaboonnedfaaDoor
set_option linter.unusedSimpArgs false
set_option linter.unusedVariables false
set_option linter.unusedSectionVars false
set_option maxRecDepth 100000 in
theorem Qhx:Qa1=some true:=by kernel_rfl
end Go.Proofs.YtpkkaboonnedfaaDoor
namespace Go.Proofs.YtpkkaboonnedfaaDoor
set_option linter.unusedSimpArgs false
set_option linter.unusedVariables false
set_option linter.unusedSectionVars false
theorem QlL {n:Qac} (h:Qac.ok 1048576 n):NetI n:=by
 obtain ⟨⟨h1,h2⟩,⟨h3,h4⟩,_⟩:=h
 refine ⟨h1,h3,h2,fun a ha=>?_⟩
 obtain ⟨_,_,_,_,⟨h5,h6⟩,⟨h7,h8⟩,_⟩:=h4 a ha
 exact ⟨h5,h7,fun p hp=>⟨(h6 p hp).1,(h6 p hp).2.1⟩,fun p hp=>⟨(h8 p hp).1,(h8 p hp).2.1⟩⟩
end Go.Proofs.YtpkkaboonnedfaaDoor
