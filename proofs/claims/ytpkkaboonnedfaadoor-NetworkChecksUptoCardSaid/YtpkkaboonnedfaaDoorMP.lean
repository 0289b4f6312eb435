/- Part MP of the proof: texts Nqa Nqb Nqc Nqd Nqe Nqf Nxa Nqz. -/
import Derived.Test.YtpkkaboonnedfaaDoorMT
import Derived.KernelRfl
namespace Go.Proofs.YtpkkaboonnedfaaDoor
set_option linter.unusedSimpArgs false
set_option linter.unusedVariables false
set_option linter.unusedSectionVars false

section
variable {α : Type}
theorem Qid {B : List α × Int → Option ((List α × Int) ⊕ (List α))} (n c : Nat) (P : Nat → Prop) (init : List α) (hn : n < 18446744073709551615)
    (step : ∀ (i : Nat) (out : List α), i < n → out.length ≤ init.length + c * i → post (B (out, (i : Int))) fun x => ∃ new, x = .inl (out ++ new, (i : Int) + 1) ∧ new.length ≤ c ∧ (new = [] ↔ P i))
    (fin : ∀ out, B (out, (n : Int)) = some (.inr out)) : post (loopF B (init, 0)) fun r => r.length ≤ init.length + c * n ∧ (r = [] ↔ init = [] ∧ ∀ i, i < n → P i) := by
  refine Qek (fun s => ∃ i : Nat, s.2 = (i : Int) ∧ i ≤ n ∧ s.1.length ≤ init.length + c * i ∧ (s.1 = [] ↔ init = [] ∧ ∀ k, k < i → P k)) (fun s => n - s.2.toNat)
    ⟨0, rfl, Nat.zero_le _, by simp, by simp⟩ (by simp; omega) ?_
  rintro ⟨out, j⟩ ⟨i, hj, hi, hl, he⟩
  simp only at hj hl he
  subst hj
  by_cases h : i < n
  · refine (step i out h hl).mono ?_
    rintro x ⟨new, rfl, h1, h2⟩
    refine ⟨fun s' hs => ?_, fun _ h => by cases h⟩
    cases hs
    refine ⟨⟨i + 1, by simp, by omega, by simp [Nat.mul_add]; omega, ?_⟩, by simp; omega⟩
    simp only [List.append_eq_nil_iff, he, h2]
    constructor
    · rintro ⟨⟨h3, h4⟩, h5⟩
      exact ⟨h3, fun k hk => by rcases Nat.lt_or_ge k i with h | h; exact h4 k h; obtain rfl : k = i := by omega
                                exact h5⟩
    · rintro ⟨h3, h4⟩
      exact ⟨⟨h3, fun k hk => h4 k (by omega)⟩, h4 i (by omega)⟩
  · obtain rfl : i = n := by omega
    rw [fin]
    exact QeJ ⟨hl, he⟩
end
theorem QbL {n b:Nat} (h:n*b≤140737488355328):okN n b:=h
theorem orT {a b:Bool}:(a||b)=true↔a=true∨b=true:=Bool.or_eq_true_iff ..
theorem orF {a b:Bool}:(a||b)=false↔a=false∧b=false:=Bool.or_eq_false_iff
theorem andT {a b:Bool}:(a&&b)=true↔a=true∧b=true:=Bool.and_eq_true_iff
theorem andF {a b:Bool}:(a&&b)=false↔a=false∨b=false:=Bool.and_eq_false_iff
theorem ntT {a:Bool}:(!a)=true↔a=false:=by cases a <;> simp
theorem Qgn (l:List Int):(Qge l).size=l.length:=by simp [Qge,ByteArray.size]
theorem Qjx (a:Int):(a.tdiv 10).natAbs=a.natAbs / 10:=by rw [Int.natAbs_tdiv]; rfl
theorem quo10 {a:Int} (h:a.natAbs≤9223372036854775808):quoK .i64 a 10=a.tdiv 10:=by
 have:=Qjx a
 exact quoI (by omega) (by omega)
def isI64 (n:Int):Prop:=-9223372036854775808≤n∧n≤9223372036854775807
theorem Qhy {n left d:Int} {s:ByteArray} {k:Nat} (hl:left.natAbs≤9223372036854775808) (h1:left.natAbs<10 ^ k) (h2:s.size+k≤20) (hk:1≤k) :
  post (QaQ n s left d) fun x=>(∀ s',x=.inl s'→(∃ k:Nat,s'.2.1.natAbs≤9223372036854775808∧s'.2.1.natAbs<10 ^ k∧s'.1.size+k≤20∧(s'.2.2=true→1≤k∧s'.2.1≠0))∧s'.2.1.natAbs+(if s'.2.2 then 1 else 0)<left.natAbs+1)∧∀ e,x=.inr e→e.size≤20:=by
 unfold QaQ
 have hq:=quo10 hl
 have ha:=Qjx left
 refine QbG (by rw [Qgn]; simp; omega) (QgD ?_)
 simp only [hq]
 obtain ⟨k,rfl⟩:∃ j,k=j+1:=⟨k-1,by omega⟩
 have hs:(catS (Qge [cvK IntKind.u8 (addK IntKind.i64 48 d)]) s).size=1+s.size:=by unfold catS; rw [ByteArray.size_append,Qgn]; rfl
 refine ⟨⟨k,by omega,by rw [ha]; rw [Nat.pow_succ] at h1; omega,by rw [hs]; omega,fun h=>?_⟩,?_⟩
 ·simp only [neI_t] at h
  refine ⟨?_,h⟩
  rcases Nat.eq_zero_or_pos k with rfl|h'
  ·exfalso; apply h; have:(left.tdiv 10).natAbs=0:=by rw [ha]; simp at h1; omega
   omega
  ·exact h'
 ·cases hb:neI (left.tdiv 10) 0 with
  | true =>
   simp only [neI_t] at hb
   simp only [if_true]
   have:(left.tdiv 10).natAbs≠0:=by omega
   omega
  | false=>simp only [Bool.false_eq_true,if_false]; omega
theorem Qdv (n:Int) (hn:isI64 n):post (Qav n) fun s=>s.size≤21:=by
 unfold isI64 at hn
 refine Qbn (R:=fun s=>s.size≤20) ?_ fun s hs=>?_
 ·refine Qek (fun s=>∃ k:Nat,s.2.1.natAbs≤9223372036854775808∧s.2.1.natAbs<10 ^ k∧s.1.size+k≤20∧(s.2.2=true→1≤k∧(s.2.1=0→True))) (fun s=>s.2.1.natAbs+(if s.2.2 then 1 else 0)) ⟨19,by simp only; omega,by simp only; omega,by simp [ByteArray.size_empty],by simp⟩ (by simp only; split <;> omega) ?_
  rintro ⟨s,left,again⟩ ⟨k,h0,h1,h2,h3⟩
  simp only at h0 h1 h2 h3
  cases again with
  | false=>exact QeJ (show s.size≤20 by omega)
  | true =>
   refine post.mono (Q:=fun x=>(∀ s',x=.inl s'→(∃ k:Nat,s'.2.1.natAbs≤9223372036854775808∧s'.2.1.natAbs<10 ^ k∧s'.1.size+k≤20∧(s'.2.2=true→1≤k∧s'.2.1≠0))∧s'.2.1.natAbs+(if s'.2.2 then 1 else 0)<left.natAbs+1)∧∀ e,x=.inr e→e.size≤20) ?_ ?_
   ·show post (br true (br (ltI (remK left 10) 0) _ _) _) _
    rw [Qdc]
    exact QbA (fun _=>Qhy h0 h1 h2 (h3 rfl).1) (fun _=>Qhy h0 h1 h2 (h3 rfl).1)
   ·rintro x ⟨g1,g2⟩
    refine ⟨fun s' hs=>?_,g2⟩
    obtain ⟨⟨k',q1,q2,q3,q4⟩,q5⟩:=g1 s' hs
    exact ⟨⟨k',q1,q2,q3,fun h=>⟨(q4 h).1,fun _=>trivial⟩⟩,q5⟩
 ·refine QbA (fun _=>QbG ?_ (QbJ.2 ?_)) (fun _=>QbJ.2 (by omega))
  ·show 1+s.size≤_; omega
  ·unfold catS; rw [ByteArray.size_append]; show 1+s.size≤_; omega
theorem QhP {k:Nat} (h:k<4294967296):isI64 (k:Int):=by unfold isI64; omega

abbrev Pt:=Qab
def okA (p:Pt):Prop:=0≤p.t∧p.t≤4096∧p.t≤p.a∧p.a≤p.t+4096
def okP (l:List Pt) (i:Nat):Prop:=∀ p,l[i]?=some p→okA p∧(0<i→∀ q,l[i-1]?=some q→q.t<p.t∧q.a≤p.a)
structure Right (l:List Pt):Prop where
 pos:1≤l.length
 most:l.length≤16
 all:∀ i,i<l.length→okP l i
def ptI (p:Pt):Prop:=isI64 p.t∧isI64 p.a
theorem Qjh {l:List Pt} {i:Nat} {x0:Pt} {out new:List Qaa} (hx:l[i]?=some x0) (hi:i<2000000) (hlen:l.length<2000000) (ho:out.length≤1+2*i) (hn:new.length≤1) (hw:new=[]↔okA x0) :
  post (QaT l (i:Int) x0 (out++new)) fun x=>∃ new,x=.inl (out++new,(i:Int)+1)∧new.length≤2∧(new=[]↔okP l i):=by
 have hadd:addK .i64 (i:Int) 1=(i:Int)+1:=addI (by omega) (by omega)
 unfold QaT
 have hokN:∀ f:Qaa,okN (out++new++[f]).length 24:=fun f=>QbL (by simp; omega)
 have leafY:(0<i→∀ q,l[i-1]?=some q→q.t<x0.t∧q.a≤x0.a)→post (some (Sum.inl (out++new,addK .i64 (i:Int) 1):(List Qaa×Int)⊕List Qaa)) fun x=>∃ new,x=.inl (out++new,(i:Int)+1)∧new.length≤2∧(new=[]↔okP l i):=by
  intro hq
  rw [hadd]
  refine ⟨_,rfl,new,rfl,by omega,?_⟩
  rw [hw]
  exact ⟨fun h p hp=>by rw [hx] at hp; cases hp; exact ⟨h,hq⟩,fun h=>(h x0 hx).1⟩
 have leafN:∀ r:ByteArray,(∃ q,0<i∧l[i-1]?=some q∧¬ (q.t<x0.t∧q.a≤x0.a))→post (chk (okN (out++new++[Qaa.mk 13 r]).length 24) (some (Sum.inl (out++new++[Qaa.mk 13 r],addK .i64 (i:Int) 1):(List Qaa×Int)⊕List Qaa))) fun x=>∃ new,x=.inl (out++new,(i:Int)+1)∧new.length≤2∧(new=[]↔okP l i):=by
  rintro r ⟨q,h0,h1,h2⟩
  refine QbG (hokN _) ?_
  rw [hadd]
  refine ⟨_,rfl,new++[_],by rw [List.append_assoc],by simp; omega,?_⟩
  constructor
  ·intro h; simp at h
  ·intro h; exact absurd ((h x0 hx).2 h0 q h1) h2
 refine QbA (fun h=>?_) (fun h=>leafY fun h0=>by simp at h; omega)
 simp only [gtI_t] at h
 have h1:subK .i64 (i:Int) 1=((i-1:Nat):Int):=by rw [subI (by omega) (by omega)]; omega
 have hx1:l[i-1]?=some (l[i-1]'(by have:=(List.getElem?_eq_some_iff.1 hx).1; omega)):=List.getElem?_eq_getElem _
 rw [h1,Qa9 hx1,Qaq]
 have hd:=Qdv (i:Int) (QhP (by omega))
 refine QbA (fun h2=>Qbn hd fun r _=>leafN r ⟨_,by omega,hx1,fun hh=>?_⟩) (fun h2=>QbA (fun h3=>Qbn hd fun r _=>leafN r ⟨_,by omega,hx1,fun hh=>?_⟩) (fun h3=>leafY fun _ q hq=>?_))
 ·simp only [leI_t] at h2; omega
 ·simp only [ltI_t] at h3; omega
 ·rw [hx1] at hq; cases hq
  simp only [leI_f] at h2
  simp only [ltI_f] at h3
  omega
theorem okA_b {x0:Pt} (hI:ptI x0):((((ltI x0.t 0)||(gtI x0.t 4096))||(ltI x0.a x0.t))||(gtI x0.a (addK .i64 x0.t 4096)))=false↔okA x0:=by
 obtain ⟨h1,h2⟩:=hI
 unfold isI64 at h1 h2
 simp only [orF,ltI_f,gtI_f]
 unfold okA
 constructor
 ·rintro ⟨⟨⟨a,b⟩,c⟩,d⟩
  rw [addI (by omega) (by omega)] at d
  omega
 ·rintro ⟨a,b,c,d⟩
  rw [addI (by omega) (by omega)]
  omega
theorem Qd6 {l:List Pt} (hlen:l.length≤1048576) (hI:∀ p∈l,ptI p):post (QaM l) fun r=>r.length≤1+2*l.length∧(r=[]↔Right l):=by
 have main:∀ init:List Qaa,init.length≤1→post (QaY l init) fun r=>r.length≤init.length+2*l.length∧(r=[]↔init=[]∧∀ i,i<l.length→okP l i):=by
  intro init hin
  refine Qbn ?_ fun a h=>QbJ.2 h
  refine Qid l.length 2 (okP l) init (by omega) (fun i out hi ho=>?_) (fun out=>?_)
  ·have hx:=Qly hi
   have hx':l[i]?=some l[i]:=List.getElem?_eq_getElem hi
   show post (QaK l out (i:Int)) _
   unfold QaK
   rw [Qb4 (by simp [lenI]; exact hi),hx,Qaq]
   have hp:=hI l[i] (List.getElem_mem hi)
   refine QbA (fun h=>Qbn (Qdv (i:Int) (QhP (by omega))) fun r _=>QbG (QbL (by simp; omega)) (Qjh (new:=[_]) hx' (by omega) (by omega) (by omega) (by simp) (Iff.intro (fun h=>by cases h) (fun h'=>?_)))) (fun h=>?_)
   ·rw [(okA_b hp).2 h'] at h; cases h
   ·have:=Qjh (out:=out) (new:=[]) hx' (by omega) (by omega) (by omega) (by simp) ⟨fun _=>(okA_b hp).1 h,fun _=>rfl⟩
    rwa [List.append_nil] at this
  ·unfold QaK
   rw [QbW (by simp [lenI])]
 unfold QaM
 refine QbA (fun h=>QbG (QbL (by simp)) ((main _ (by simp)).mono ?_)) (fun h=>(main _ (by simp)).mono ?_)
 ·rintro r ⟨h1,h2⟩
  refine ⟨by simpa using h1,?_⟩
  rw [h2]
  simp only [orT,ltI_t,gtI_t,lenI] at h
  exact ⟨fun h=>by (cases h.1),fun h'=>by have:=h'.pos; have:=h'.most; omega⟩
 ·rintro r ⟨h1,h2⟩
  refine ⟨by simp at h1 ⊢; omega,?_⟩
  rw [h2]
  simp only [orF,ltI_f,gtI_f,lenI] at h
  exact ⟨fun h'=>⟨by omega,by omega,h'.2⟩,fun h'=>⟨rfl,h'.all⟩⟩
end Go.Proofs.YtpkkaboonnedfaaDoor
namespace Go.Proofs.YtpkkaboonnedfaaDoor
set_option linter.unusedSimpArgs false
set_option linter.unusedVariables false
set_option linter.unusedSectionVars false

def Srt:List Pt→Prop
 | []=>True
 | [p]=>okA p
 | p :: q :: r=>okA p∧p.t<q.t∧p.a≤q.a∧Srt (q :: r)
theorem Qlr:∀ {l:List Pt},(∀ i,i<l.length→okP l i)→Srt l
 | [],_=>trivial
 | [p],h=>(h 0 (by simp) p rfl).1
 | p :: q :: r,h=>by
  have h0:=h 0 (by simp) p rfl
  have h1:=(h 1 (by simp) q rfl).2 (by omega) p rfl
  refine ⟨h0.1,h1.1,h1.2,Qlr fun i hi x hx=>?_⟩
  have h2:=h (i+1) (by simpa using hi) x hx
  refine ⟨h2.1,fun h3 y hy=>h2.2 (by omega) y ?_⟩
  obtain ⟨j,rfl⟩:∃ j,i=j+1:=⟨i-1,by omega⟩
  exact hy
theorem Right.srt {l:List Pt} (h:Right l):Srt l:=Qlr h.all
theorem Srt.okA_at:∀ {l:List Pt},Srt l→∀ {i:Nat} {p:Pt},l[i]?=some p→okA p
 | [],_,_,_,h=>by simp at h
 | [p],h,0,x,hx=>by cases hx; exact h
 | [p],h,i+1,x,hx=>by simp at hx
 | p :: q :: r,h,0,x,hx=>by cases hx; exact h.1
 | p :: q :: r,h,i+1,x,hx=>Srt.okA_at (l:=q :: r) h.2.2.2 hx
theorem Srt.pair:∀ {l:List Pt},Srt l→∀ {i:Nat} {p q:Pt},l[i]?=some p→l[i+1]?=some q→p.t<q.t∧p.a≤q.a
 | [],_,_,_,_,h,_=>by simp at h
 | [p],h,i,x,y,_,hy=>by simp at hy
 | p :: q :: r,h,0,x,y,hx,hy=>by cases hx; cases hy; exact ⟨h.2.1,h.2.2.1⟩
 | p :: q :: r,h,i+1,x,y,hx,hy=>Srt.pair (l:=q :: r) h.2.2.2 hx hy
theorem Srt.lt {l:List Pt} (h:Srt l) {i:Nat}:∀ {j:Nat},i<j→∀ {p q:Pt},l[i]?=some p→l[j]?=some q→p.t<q.t
 | j+1,hij,p,q,hp,hq=>by
  rcases Nat.lt_or_ge i j with h'|h'
  ·have hj:l[j]?=some (l[j]'(by have:=(List.getElem?_eq_some_iff.1 hq).1; omega)):=List.getElem?_eq_getElem _
   have:=h.lt h' hp hj
   have:=(h.pair hj hq).1
   omega
  ·obtain rfl:i=j:=by omega
   exact (h.pair hp hq).1
end Go.Proofs.YtpkkaboonnedfaaDoor
namespace Go.Proofs.YtpkkaboonnedfaaDoor
set_option linter.unusedSimpArgs false
set_option linter.unusedVariables false
set_option linter.unusedSectionVars false

theorem Right.at {l:List Pt} (h:Right l) {i:Nat} {p:Pt} (hp:l[i]?=some p):okA p:=h.srt.okA_at hp
theorem Right.bd {l:List Pt} (h:Right l) {i:Nat} {p:Pt} (hp:l[i]?=some p):0≤p.t∧p.t≤4096∧p.t≤p.a∧p.a≤8192:=by
 have:=h.at hp; unfold okA at this; omega
theorem Right.ptI {l:List Pt} (h:Right l):∀ p∈l,ptI p:=fun p hp=>by
 obtain ⟨i,hi⟩:=List.getElem?_of_mem hp
 have:=h.bd hi
 unfold Go.Proofs.YtpkkaboonnedfaaDoor.ptI isI64; omega
end Go.Proofs.YtpkkaboonnedfaaDoor
namespace Go.Proofs.YtpkkaboonnedfaaDoor
set_option linter.unusedSimpArgs false
set_option linter.unusedVariables false
set_option linter.unusedSectionVars false

class Sm (α : Type) where
  sm : α → Prop
instance:Sm Qaa:=⟨fun f=>f.at_.size≤64⟩
instance:Sm Int:=⟨fun _=>True⟩
section
variable {α β : Type} [Sm α]
def Ext (l0:List α) (c:Nat) (P:Prop) (r:List α):Prop:=∃ new,r=l0++new∧new.length≤c∧(new=[]→P)∧∀ x∈new,Sm.sm x
theorem Ext.nil {l0:List α} {c:Nat} {P:Prop} (h:P):Ext l0 c P l0:=⟨[],by simp,by simp,fun _=>h,by simp⟩
theorem Ext.one {l0:List α} {c:Nat} {P:Prop} {x:α} (hc:1≤c) (hx:Sm.sm x):Ext l0 c P (l0++[x]):=⟨[x],rfl,hc,fun h=>by (cases h),fun y hy=>by rw [List.mem_singleton.1 hy]; exact hx⟩
theorem Ext.trans {a b r:List α} {c d e:Nat} {P Q R:Prop} (h:Ext a c P b) (h':Ext b d Q r) (he:c+d≤e) (hr:P→Q→R):Ext a e R r:=by
 obtain ⟨n,rfl,h1,h2,h5⟩:=h
 obtain ⟨m,rfl,h3,h4,h6⟩:=h'
 refine ⟨n++m,by simp,by simp; omega,fun h=>?_,fun x hx=>by rcases List.mem_append.1 hx with h|h; exact h5 x h; exact h6 x h⟩
 rw [List.append_eq_nil_iff] at h
 exact hr (h2 h.1) (h4 h.2)
theorem Ext.len {a r:List α} {c:Nat} {P:Prop} (h:Ext a c P r):r.length≤a.length+c:=by obtain ⟨n,rfl,h1,_⟩:=h; simp; omega
theorem Ext.mono {a r:List α} {c d:Nat} {P Q:Prop} (h:Ext a c P r) (hc:c≤d) (hp:P→Q):Ext a d Q r:=by
 obtain ⟨n,rfl,h1,h2,h3⟩:=h
 exact ⟨n,rfl,by omega,fun hn=>hp (h2 hn),h3⟩
def RndE (out:List α) (i:Int) (c:Nat) (P:Prop) (x:(List α×Int)⊕β):Prop:=∃ r,x=.inl (r,i)∧Ext out c P r
theorem Qjl {out:List α} {i j:Int} {c:Nat} {P:Prop} (hi:j=i) (h:P):post (some (Sum.inl (out,j):(List α×Int)⊕β)) (RndE out i c P):=⟨_,rfl,out,by rw [hi],.nil h⟩
theorem QhY {out:List α} {x:α} {i j:Int} {c:Nat} {P:Prop} (hi:j=i) (hc:1≤c) (hx:Sm.sm x):post (some (Sum.inl (out++[x],j):(List α×Int)⊕β)) (RndE out i c P):=⟨_,rfl,_,by rw [hi],.one hc hx⟩
theorem Qe4 {B:List α×Int→Option ((List α×Int)⊕(List α))} (n c:Nat) (P:Nat→Prop) (l0:List α) (hn:n<18446744073709551615)
  (step:∀ (i:Nat) (out:List α),i<n→out.length≤l0.length+c*i→post (B (out,(i:Int))) (RndE out ((i:Int)+1) c (P i)))
  (fin:∀ out,B (out,(n:Int))=some (.inr out)):post (loopF B (l0,0)) (Ext l0 (c*n) (∀ i,i<n→P i)):=by
 refine Qek (fun s=>∃ i:Nat,s.2=(i:Int)∧i≤n∧Ext l0 (c*i) (∀ k,k<i→P k) s.1) (fun s=>n-s.2.toNat)
  ⟨0,rfl,Nat.zero_le _,.nil (by simp)⟩ (by simp; omega) ?_
 rintro ⟨out,j⟩ ⟨i,hj,hi,hl⟩
 simp only at hj hl
 subst hj
 by_cases h:i<n
 ·refine (step i out h hl.len).mono ?_
  rintro x ⟨r,rfl,h1⟩
  refine ⟨fun s' hs=>?_,fun _ h=>by cases h⟩
  cases hs
  refine ⟨⟨i+1,by simp,by omega,hl.trans h1 (by rw [Nat.mul_add]; omega) fun h2 h3 k hk=>?_⟩,by simp; omega⟩
  rcases Nat.lt_or_ge k i with h|h
  ·exact h2 k h
  ·obtain rfl:k=i:=by omega
   exact h3
 ·obtain rfl:i=n:=by omega
  rw [fin]
  exact QeJ hl
end
theorem sm_at {e:Int} {s:ByteArray} (h:s.size≤64):Sm.sm (Qaa.mk e s):=h
theorem Qhc (a b:ByteArray):(catS a b).size=a.size+b.size:=by unfold catS; exact ByteArray.size_append
theorem QgY {B:Bool×Int→Option ((Bool×Int)⊕Bool)} (n:Nat) (P:Nat→Prop) (hn:n<18446744073709551615)
  (step:∀ (k:Nat) (b:Bool),k<n→post (B (b,(k:Int))) fun x=>∃ b',x=.inl (b',(k:Int)+1)∧(b'=true↔b=true∨P k))
  (fin:∀ b,B (b,(n:Int))=some (.inr b)):post (loopF B (false,0)) fun r=>(r=true↔∃ k,k<n∧P k):=by
 refine Qek (fun s=>∃ i:Nat,s.2=(i:Int)∧i≤n∧(s.1=true↔∃ k,k<i∧P k)) (fun s=>n-s.2.toNat) ⟨0,rfl,Nat.zero_le _,by simp⟩ (by simp; omega) ?_
 rintro ⟨b,j⟩ ⟨i,hj,hi,hl⟩
 simp only at hj hl
 subst hj
 by_cases h:i<n
 ·refine (step i b h).mono ?_
  rintro x ⟨b',rfl,h1⟩
  refine ⟨fun s' hs=>?_,fun _ h=>by cases h⟩
  cases hs
  refine ⟨⟨i+1,by simp,by omega,?_⟩,by simp; omega⟩
  simp only
  rw [h1,hl]
  constructor
  ·rintro (⟨k,h2,h3⟩|h2)
   ·exact ⟨k,by omega,h3⟩
   ·exact ⟨i,by omega,h2⟩
  ·rintro ⟨k,h2,h3⟩
   rcases Nat.lt_or_ge k i with h|h
   ·exact .inl ⟨k,h,h3⟩
   ·obtain rfl:k=i:=by omega
    exact .inr h3
 ·obtain rfl:i=n:=by omega
  rw [fin]
  exact QeJ hl
theorem inc {i n:Nat} (h:i<n) (hn:n≤1048576):addK .i64 (i:Int) 1=(i:Int)+1:=addI (by omega) (by omega)
theorem dec {i:Nat} (h:0<i) (hn:i≤1048576):subK .i64 (i:Int) 1=((i-1:Nat):Int):=by rw [subI (by omega) (by omega)]; omega

theorem Qj9 {s:ByteArray} {i:Int} (h0:0≤i) (h1:i<s.size):∃ b,getS s i=some b:=by
 unfold getS
 rw [if_pos h0]
 exact ⟨_,getElem?_pos s i.toNat (by omega)⟩
theorem QhO (s:ByteArray) (hs:s.size≤1048576):post (Qa6 s) fun _=>True:=by
 unfold Qa6
 refine QbA (fun _=>QbJ.2 trivial) (fun hb=>?_)
 simp only [orF,ltI_f,gtI_f,sizeS] at hb
 obtain ⟨b,hb0⟩:=Qj9 (s:=s) (i:=0) (by omega) (by omega)
 rw [hb0,Qaq]
 refine Qbn (R:=fun _=>True) ⟨_,rfl,trivial⟩ fun r _=>QbA (fun _=>QbJ.2 trivial) fun _=>?_
 refine Qbn (R:=fun _=>True) ?_ fun e _=>?_
 ·refine Qek (fun i=>∃ k:Nat,i=(k:Int)∧k≤s.size) (fun i=>s.size-i.toNat) ⟨0,rfl,Nat.zero_le _⟩ (by simp; omega) ?_
  rintro _ ⟨k,rfl,hk⟩
  show post (Qbo s b (k:Int)) _
  unfold Qbo
  refine QbA (fun hb=>?_) (fun _=>QeJ trivial)
  simp only [ltI_t,sizeS] at hb
  obtain ⟨c,hc⟩:=Qj9 (s:=s) (i:=k) (by omega) (by omega)
  rw [hc,Qaq,inc (n:=s.size) (by omega) hs]
  have leaf:post (some (Sum.inl ((k:Int)+1):Int⊕(Unit⊕Bool))) fun x=>(∀ s',x=.inl s'→(∃ k:Nat,s'=(k:Int)∧k≤s.size)∧s.size-s'.toNat<s.size-(k:Int).toNat)∧∀ e,x=.inr e→True :=
   QgD ⟨⟨k+1,by simp,by omega⟩,by simp; omega⟩
  refine Qbn (R:=fun _=>True) ⟨_,rfl,trivial⟩ fun r1 _=>QbA (fun _=>leaf) fun _=>?_
  exact Qbn (R:=fun _=>True) ⟨_,rfl,trivial⟩ fun r2 _=>QbA (fun _=>leaf) fun _=>QeJ trivial
 ·cases e with
  | inl u=>exact QbJ.2 trivial
  | inr r=>exact QbJ.2 trivial

structure ArcI (a:Qad):Prop where
 travel:a.travel.length≤1048576
 slow:a.slow.length≤1048576
 pts:∀ p∈a.travel,ptI p
 pts2:∀ p∈a.slow,ptI p
structure NetI (n:Qac):Prop where
 places:n.places.length≤1048576
 arcs:n.arcs.length≤1048576
 names:∀ s∈n.places,s.size≤1048576
 arcI:∀ a∈n.arcs,ArcI a
def okS (l:List Pt) (i:Nat):Prop:=∀ p,l[i]?=some p→0≤p.t∧p.t≤4096∧0≤p.a∧p.a≤4096∧(0<i→∀ q,l[i-1]?=some q→q.t<p.t)
structure ArcOK (np:Nat) (a:Qad):Prop where
 from0:0≤a.from_
 from1:a.from_<np
 to0:0≤a.to_
 to1:a.to_<np
 prof0:0≤a.profile
 prof1:a.profile≤7
 miles0:0≤a.miles
 miles1:a.miles≤10000
 ne:a.from_≠a.to_
 travel:Right a.travel
 slow:a.slow.length≤16
 slowAll:∀ i,i<a.slow.length→okS a.slow i
def QfM (a b:Qad):Prop:=a.from_=b.from_∧a.to_=b.to_∧a.profile=b.profile
structure NetOK (n:Qac):Prop where
 places:n.places.length≤24
 arcs:n.arcs.length≤1024
 all:∀ a∈n.arcs,ArcOK n.places.length a
 once:∀ (i k:Nat) (a b:Qad),k<i→n.arcs[i]?=some a→n.arcs[k]?=some b→¬ QfM a b

theorem QfO {n:Qac} (hn:NetI n):post (QaB n) (Ext [] (1+n.places.length) (n.places.length≤24)):=by
 have hpl:=hn.places
 have main:∀ l0:List Qaa,l0.length≤1→post (Qax n l0) (Ext l0 n.places.length True):=by
  intro l0 hin
  refine Qbn (R:=Ext l0 n.places.length True) ?_ fun a h=>QbJ.2 h
  refine (Qe4 n.places.length 1 (fun _=>True) l0 (by omega) (fun i out hi ho=>?_) (fun out=>?_)).mono fun r h=>h.mono (by omega) fun _=>trivial
  ·show post (Qah n l0 out (i:Int)) _
   unfold Qah
   rw [Qb4 (by simp [lenI]; exact hi),inc hi hpl]
   refine Qbn (Qdv (i:Int) (QhP (by omega))) fun r hr=>QbG (by show 6+r.size≤_; omega) ?_
   have e1:n.places[i]?=some n.places[i]:=List.getElem?_eq_getElem hi
   rw [Qa9 e1,Qaq]
   have hok:∀ f:Qaa,okN (out++[f]).length 24:=fun f=>QbL (by simp; omega)
   have hsm:∀ {e:Int},Sm.sm (Qaa.mk e (catS QaA r)):=sm_at (by rw [Qhc]; show 6+r.size≤64; omega)
   refine Qbn (QhO _ (hn.names _ (List.getElem_mem hi))) fun r1 _=>QbA (fun _=>?_) (fun _=>QbG (hok _) (QhY rfl (by omega) hsm))
   refine Qbn (R:=fun _=>True) ((QgY i (fun k=>∃ x,n.places[k]?=some x∧eqS x n.places[i]=true) (by omega) (fun k b hk=>?_) (fun b=>?_)).mono fun _ _=>trivial) fun tw _=>QbA (fun _=>QbG (hok _) (QhY rfl (by omega) hsm)) (fun _=>Qjl rfl trivial)
   ·show post (Qai n l0 out (i:Int) r b (k:Int)) _
    unfold Qai
    rw [Qb4 (by simp; omega),inc (n:=i) hk (by omega)]
    have e2:n.places[k]?=some (n.places[k]'(by omega)):=List.getElem?_eq_getElem _
    refine QbA (fun h=>QbJ.2 ⟨true,rfl,by simp [h]⟩) (fun h=>?_)
    rw [Qa9 e2,Qaq,Qa9 e1,Qaq,QbJ]
    exact ⟨_,rfl,by simp [h,e2]⟩
   ·show Qai n l0 out (i:Int) r b (i:Int)=_
    unfold Qai
    rw [QbW (by simp)]
  ·show Qah n l0 out (n.places.length:Int)=_
   unfold Qah
   rw [QbW (by simp [lenI])]
 unfold QaB
 refine QbA (fun h=>QbG (QbL (by simp)) ((main _ (by simp)).mono fun r h'=>?_)) (fun h=>(main _ (by simp)).mono fun r h'=>h'.mono (by omega) fun _=>?_)
 ·exact (Ext.one (l0:=[]) (P:=n.places.length≤24) (Nat.le_refl 1) (sm_at (s:=QaV) (show 6≤64 by omega))).trans h' (Nat.le_refl _) fun h _=>h
 ·simp only [gtI_f,lenI] at h; omega
theorem Qkp (t:Int):Qbm t=some (decide (0≤t∧t≤4096)):=by
 unfold Qbm
 congr 1
 rw [Bool.eq_iff_iff,andT,geI_t,leI_t,decide_eq_true_iff]
theorem Qh0 {r:ByteArray} (hr:r.size≤21) {x0:Qad} {l l0:List Qaa} (hI:ArcI x0) (hin:l0.length≤4194304):post (Qaz r x0 l l0) (Ext l0 x0.slow.length (∀ i,i<x0.slow.length→okS x0.slow i)):=by
 have hsl:=hI.slow
 have hsm:∀ {e:Int},Sm.sm (Qaa.mk e (catS Qaj r)):=sm_at (by rw [Qhc]; show 4+r.size≤64; omega)
 refine Qbn (R:=Ext l0 x0.slow.length (∀ i,i<x0.slow.length→okS x0.slow i)) ?_ fun a h=>QbJ.2 h
 refine (Qe4 x0.slow.length 1 (okS x0.slow) l0 (by omega) (fun i out hi ho=>?_) (fun out=>?_)).mono fun r h=>h.mono (by omega) id
 ·show post (Qap r x0 l out (i:Int)) _
  unfold Qap
  have hok:∀ f:Qaa,okN (out++[f]).length 24:=fun f=>QbL (by simp; omega)
  have e1:x0.slow[i]?=some x0.slow[i]:=List.getElem?_eq_getElem hi
  rw [Qb4 (by simp [lenI]; exact hi),inc hi hsl,Qa9 e1,Qaq,Qkp,Qaq,Qkp]
  generalize x0.slow[i]=p at e1
  have no:post (chk (okN (out++[Qaa.mk 2 (catS Qaj r)]).length 24) (some (Sum.inl (out++[Qaa.mk 2 (catS Qaj r)],(i:Int)+1):(List Qaa×Int)⊕(List Qaa)))) (RndE out ((i:Int)+1) 1 (okS x0.slow i)):=QbG (hok _) (QhY rfl (by omega) hsm)
  refine QbA (fun h1=>?_) (fun _=>no)
  rw [Qaq]
  refine QbA (fun h2=>QbA (fun h3=>?_) (fun h3=>Qjl rfl ?_)) (fun _=>no)
  ·simp only [gtI_t] at h3
   have e2:x0.slow[i-1]?=some (x0.slow[i-1]'(by omega)):=List.getElem?_eq_getElem _
   rw [dec (by omega) (by omega),Qa9 e2,Qaq]
   refine QbA (fun _=>no) (fun h4=>Qjl rfl ?_)
   simp only [leI_f,decide_eq_true_iff] at h1 h2 h4
   intro x hx; rw [e1] at hx; cases hx
   exact ⟨h1.1,h1.2,h2.1,h2.2,fun _ q hq=>by rw [e2] at hq; cases hq; exact h4⟩
  ·simp only [gtI_f,decide_eq_true_iff] at h1 h2 h3
   intro x hx; rw [e1] at hx; cases hx
   exact ⟨h1.1,h1.2,h2.1,h2.2,fun h=>by omega⟩
 ·show Qap r x0 l out (x0.slow.length:Int)=_
  unfold Qap
  rw [QbW (by simp [lenI])]
theorem QgO {n:Qac} (hn:NetI n) {i:Nat} {a:Qad} (ha:n.arcs[i]?=some a) :
  post (Qa0 n (i:Int)) (Ext [] 3145735 (ArcOK n.places.length a∧∀ (k:Nat) (b:Qad),k<i→n.arcs[k]?=some b→¬ QfM a b)):=by
 have hi:i<n.arcs.length:=(List.getElem?_eq_some_iff.1 ha).1
 have hal:=hn.arcs
 have hI:=hn.arcI a (List.mem_of_getElem? ha)
 have hsl:=hI.slow
 have htl:=hI.travel
 unfold Qa0
 refine Qbn (Qdv (i:Int) (QhP (by omega))) fun r hr=>QbG (by show 4+r.size≤_; omega) ?_
 rw [Qa9 ha,Qaq]
 have hsm:∀ {e:Int},Sm.sm (Qaa.mk e (catS Qaj r)):=sm_at (by rw [Qhc]; show 4+r.size≤64; omega)
 have gen:∀ (l l0:List Qaa),l0.length≤3→post (QaI r a l l0) (Ext l0 3145732 (Right a.travel∧a.slow.length≤16∧∀ i,i<a.slow.length→okS a.slow i)):=by
  intro l l0 hin
  unfold QaI
  refine Qbn (Qd6 htl hI.pts) fun r1 hr1=>?_
  refine Qbn (R:=Ext l0 2097153 (Right a.travel)) ?_ fun l4 h4=>?_
  ·refine (Qe4 r1.length 1 (fun _=>False) l0 (by omega) (fun k out hk ho=>?_) (fun out=>?_)).mono fun x hx=>?_
   ·show post (Qao r a l r1 out (k:Int)) _
    unfold Qao
    have e1:r1[k]?=some r1[k]:=List.getElem?_eq_getElem hk
    have hadd:addK .i64 (k:Int) 1=(k:Int)+1:=addI (by omega) (by omega)
    rw [Qb4 (by simp [lenI]; exact hk),hadd,Qa9 e1,Qaq]
    exact QbG (QbL (by simp; omega)) (QhY rfl (by omega) hsm)
   ·show Qao r a l r1 out (r1.length:Int)=_
    unfold Qao
    rw [QbW (by simp [lenI])]
   ·refine hx.mono (by omega) fun h=>hr1.2.1 ?_
    cases r1 with
    | nil=>rfl
    | cons y ys=>exact (h 0 (by simp)).elim
  ·have h4l:=h4.len
   refine QbA (fun h=>QbG (QbL (by simp; omega)) ?_) (fun h=>?_)
   ·refine ((Qh0 hr hI (by simp; omega)).mono fun _ h=>h.mono hsl id:post (Qaz r a l _) (Ext _ 1048576 _)).mono fun x hx=>?_
    refine h4.trans ((Ext.one (P:=False) (Nat.le_refl 1) hsm).trans hx (e:=1048577) (by omega) (fun h _=>h)) (by omega) fun h1 h2=>h2.elim
   ·refine ((Qh0 hr hI (by omega)).mono fun _ h=>h.mono hsl id:post (Qaz r a l _) (Ext _ 1048576 _)).mono fun x hx=>?_
    simp only [gtI_f,lenI] at h
    exact h4.trans hx (by omega) fun h1 h2=>⟨h1,by omega,h2⟩
 have gen2:∀ (l l0:List Qaa),l0.length≤2→post (QaH n (i:Int) r a l l0) (Ext l0 3145733 ((∀ (k:Nat) (b:Qad),k<i→n.arcs[k]?=some b→¬ QfM a b)∧Right a.travel∧a.slow.length≤16∧∀ i,i<a.slow.length→okS a.slow i)):=by
  intro l l0 hin
  unfold QaH
  refine Qbn (QgY i (fun k=>∃ b,n.arcs[k]?=some b∧QfM a b) (by omega) (fun k b hk=>?_) (fun b=>?_)) fun tw htw=>QbA (fun h=>QbG (QbL (by simp; omega)) ?_) (fun h=>?_)
  ·show post (Qan n (i:Int) r a l l0 b (k:Int)) _
   unfold Qan
   have e1:n.arcs[k]?=some (n.arcs[k]'(by omega)):=List.getElem?_eq_getElem _
   rw [Qb4 (by simp; omega),inc (n:=i) hk (by omega),Qa9 e1,Qaq,QbJ]
   refine ⟨_,rfl,?_⟩
   simp only [orT,andT,eqI_t,e1,Option.some.injEq,exists_eq_left',QfM,and_assoc]
  ·show Qan n (i:Int) r a l l0 b (i:Int)=_
   unfold Qan
   rw [QbW (by simp)]
  ·exact (gen l _ (by simp; omega)).mono fun x hx=>(Ext.one (P:=False) (Nat.le_refl 1) hsm).trans hx (by omega) fun h _=>h.elim
  ·refine (gen l _ (by omega)).mono fun x hx=>hx.mono (by omega) fun h'=>⟨fun k b hk hb hs=>?_,h'⟩
   rw [htw.2 ⟨k,hk,b,hb,hs⟩] at h; cases h
 have fin:∀ (l:List Qaa),l.length≤1→post (QaG n (i:Int) r a l) (Ext l 3145734 (0≤a.profile∧a.profile≤7∧0≤a.miles∧a.miles≤10000∧a.from_≠a.to_∧(∀ (k:Nat) (b:Qad),k<i→n.arcs[k]?=some b→¬ QfM a b)∧Right a.travel∧a.slow.length≤16∧∀ i,i<a.slow.length→okS a.slow i)):=by
  intro l hl
  unfold QaG
  refine QbA (fun h=>QbG (QbL (by simp; omega)) ?_) (fun h=>?_)
  ·exact (gen2 l _ (by simp; omega)).mono fun x hx=>(Ext.one (P:=False) (Nat.le_refl 1) hsm).trans hx (by omega) fun h _=>h.elim
  ·simp only [orF,ltI_f,gtI_f,eqI_f] at h
   exact (gen2 l _ (by omega)).mono fun x hx=>hx.mono (by omega) fun h'=>⟨h.1.1.1.1,h.1.1.1.2,h.1.1.2,h.1.2,h.2,h'⟩
 refine QbA (fun h=>QbG (QbL (by simp)) ?_) (fun h=>?_)
 ·exact (fin _ (by simp)).mono fun x hx=>(Ext.one (l0:=[]) (P:=False) (Nat.le_refl 1) hsm).trans hx (by omega) fun h _=>h.elim
 ·simp only [orF,ltI_f,geI_f,lenI] at h
  exact (fin _ (by simp)).mono fun x hx=>hx.mono (by omega) fun ⟨h1,h2,h3,h4,h5,h6,h7,h8,h9⟩=>⟨⟨h.1.1.1,h.1.1.2,h.1.2,h.2,h1,h2,h3,h4,h5,h7,h8,h9⟩,h6⟩
theorem Qf5 {n:Qac} (hn:NetI n):post (Qbf n) (Ext [] (1048578+3145735*n.arcs.length) (NetOK n)):=by
 have hal:=hn.arcs
 have hpl:=hn.places
 unfold Qbf
 refine Qbn (QfO hn) fun r hr=>?_
 have hrl:=hr.len
 have main:∀ l0:List Qaa,l0.length≤1048578→post (QaZ n l0) (Ext l0 (3145735*n.arcs.length) (∀ i,i<n.arcs.length→∀ a,n.arcs[i]?=some a→ArcOK n.places.length a∧∀ (k:Nat) (b:Qad),k<i→n.arcs[k]?=some b→¬ QfM a b)):=by
  intro l0 hin
  refine QjY ?_
  refine (Qe4 n.arcs.length 3145735 _ l0 (by omega) (fun i out hi ho=>?_) (fun out=>?_)).mono fun r h=>QbJ.2 h
  ·show post (Qaw n l0 out (i:Int)) _
   unfold Qaw
   have e1:n.arcs[i]?=some n.arcs[i]:=List.getElem?_eq_getElem hi
   rw [Qb4 (by simp [lenI]; exact hi),inc hi hal]
   refine Qbn (QgO hn e1) fun r1 hr1=>?_
   obtain ⟨new,h1,h2,h3,h4⟩:=hr1
   rw [List.nil_append] at h1
   subst h1
   refine QbG (QbL (by simp; omega)) (QbJ.2 ⟨_,rfl,_,rfl,h2,fun h a ha=>?_,h4⟩)
   rw [e1] at ha; cases ha
   exact h3 h
  ·show Qaw n l0 out (n.arcs.length:Int)=_
   unfold Qaw
   rw [QbW (by simp [lenI])]
 refine QbA (fun h=>QbG (QbL (by simp at hrl ⊢; omega)) ((main _ (by simp at hrl ⊢; omega)).mono fun x hx=>?_)) (fun h=>(main _ (by simp at hrl; omega)).mono fun x hx=>?_)
 ·exact hr.trans ((Ext.one (P:=False) (Nat.le_refl 1) (sm_at (s:=QbT) (show 4≤64 by omega))).trans hx (Nat.le_refl _) (R:=False) fun h _=>h) (by omega) fun _ h=>h.elim
 ·simp only [gtI_f,lenI] at h
  refine hr.trans hx (by omega) fun h1 h2=>⟨h1,by omega,fun a ha=>?_,fun i k a b hk ha hb=>(h2 i (List.getElem?_eq_some_iff.1 ha).1 a ha).2 k b hk hb⟩
  obtain ⟨i,hi⟩:=List.getElem?_of_mem ha
  exact (h2 i (List.getElem?_eq_some_iff.1 hi).1 a hi).1
end Go.Proofs.YtpkkaboonnedfaaDoor
namespace Go.Proofs.YtpkkaboonnedfaaDoor
set_option linter.unusedSimpArgs false
set_option linter.unusedVariables false
set_option linter.unusedSectionVars false

theorem Right.ne {l:List Pt} (h:Right l):l≠[]:=fun e=>by have:=h.pos; rw [e] at this; simp at this
def QfV (n:Qac) (i:Int):Bool:=decide (0≤i∧i<n.places.length)
theorem Qjb (n:Qac) (i:Int):QaU n i=some (QfV n i):=by
 unfold QaU QfV lenI
 congr 1
 rw [Bool.eq_iff_iff]; simp
end Go.Proofs.YtpkkaboonnedfaaDoor
namespace Go.Proofs.YtpkkaboonnedfaaDoor
set_option linter.unusedSimpArgs false
set_option linter.unusedVariables false
set_option linter.unusedSectionVars false
theorem Qiy (s:ByteArray):∀ (k i:Nat) (r:List UInt8),s.size-i=k→(ByteArray.toList.loop s i r).length=r.length+k:=by
 intro k
 induction k with
 | zero =>
  intro i r h
  unfold ByteArray.toList.loop
  rw [if_neg (by omega)]
  simp
 | succ k ih =>
  intro i r h
  unfold ByteArray.toList.loop
  rw [if_pos (by omega),ih (i+1) _ (by omega)]
  simp; omega
theorem Qhu (s:ByteArray):s.toList.length=s.size:=by
 unfold ByteArray.toList
 rw [Qiy s s.size 0 [] (by omega)]
 simp
theorem Qll (s:ByteArray):Qe8 s=Qa6 s:=by
 have e:(eqS s ByteArray.empty||gtI (sizeS s) 16)=(ltI (sizeS s) 1||gtI (sizeS s) 16):=by
  congr 1
  rw [Bool.eq_iff_iff,ltI_t]
  unfold eqS sizeS
  rw [beq_iff_eq]
  have hl:=Qhu s
  have he:ByteArray.empty.toList=[]:=List.eq_nil_of_length_eq_zero (by rw [Qhu]; rfl)
  rw [he]
  constructor
  ·intro h
   rw [h] at hl
   simp at hl
   omega
  ·intro h
   exact List.eq_nil_of_length_eq_zero (by omega)
 unfold Qe8 Qa6
 rw [e]
 rfl
section
variable {K V : Type} {eq : K → K → Bool}
theorem QjR (he:∀ a b,eq a b=true↔a=b) {m:List (K×V)} {k k':K} {v z:V}:mGet eq (mPut eq m k v) k' z=bif eq k' k then v else mGet eq m k' z:=by
 induction m with
 | nil=>rfl
 | cons p r ih =>
  unfold mPut
  cases h1:eq k p.1 with
  | true =>
   have h1':=(he _ _).1 h1
   unfold mGet
   simp only [cond_true,h1']
   cases eq k' p.1 <;> rfl
  | false =>
   show mGet eq (p :: mPut eq r k v) k' z=_
   unfold mGet
   cases h2:eq k' p.1 with
   | true =>
    have h2':=(he _ _).1 h2
    have:eq k' k=false:=by
     cases h3:eq k' k with
     | false=>rfl
     | true =>
      have:=(he _ _).1 h3
      rw [← this,h2'] at h1
      rw [(he _ _).2 rfl] at h1
      cases h1
    rw [this]; rfl
   | false =>
    simp only [cond_false]
    exact ih
theorem Qjr (he:∀ a b,eq a b=true↔a=b) {α:Type} (f:α→K) (l:List α):∀ k:K,mGet eq (l.foldl (fun m a=>mPut eq m (f a) true) []) k false=l.any fun a=>eq k (f a):=by
 have key:∀ (l:List α) (m:List (K×Bool)) (k:K),mGet eq (l.foldl (fun m a=>mPut eq m (f a) true) m) k false=(mGet eq m k false||l.any fun a=>eq k (f a)):=by
  intro l
  induction l with
  | nil=>intro m k; simp
  | cons a r ih =>
   intro m k
   rw [List.foldl_cons,ih,QjR he,List.any_cons]
   cases eq k (f a) with
   | true=>simp
   | false=>simp
 intro k
 rw [key]
 rfl
end
theorem eqY_t (a b:ByteArray):eqY a b=true↔a=b:=by
 cases a with
 | mk x =>
  cases b with
  | mk y =>
   show (x == y)=true↔_
   rw [beq_iff_eq,ByteArray.mk.injEq]
theorem Qlz (a b:Qae):Qae.keq a b=true↔a=b:=by
 cases a; cases b
 simp [Qae.keq,Qae.mk.injEq]
end Go.Proofs.YtpkkaboonnedfaaDoor
namespace Go.Proofs.YtpkkaboonnedfaaDoor
set_option linter.unusedSimpArgs false
set_option linter.unusedVariables false
set_option linter.unusedSectionVars false
theorem Qlm {n:Qac} (h:Qac.ok 1048576 n):NetI n:=by
 obtain ⟨⟨h1,h2⟩,⟨h3,h4⟩,_⟩:=h
 refine ⟨h1,h3,h2,fun a ha=>?_⟩
 obtain ⟨_,_,_,_,⟨h5,h6⟩,⟨h7,h8⟩,_⟩:=h4 a ha
 exact ⟨h5,h7,fun p hp=>⟨(h6 p hp).1,(h6 p hp).2.1⟩,fun p hp=>⟨(h8 p hp).1,(h8 p hp).2.1⟩⟩
end Go.Proofs.YtpkkaboonnedfaaDoor
