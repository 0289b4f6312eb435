/- Part MX of the proof: texts Nya Nyb Nyc Nyx. -/
import Derived.Test.YtpkkaboonnedfaaDoorMP
import Derived.Lib.ItoaMem
import Derived.Lib.ItoaLen
namespace Go.Proofs.YtpkkaboonnedfaaDoor
section
variable {α β : Type}
theorem Qiu {K:α→Option β}:bnd none K=none:=rfl
theorem Qlx {b:Bool} {x y:Option α}:br (!b) x y=br b y x:=by cases b <;> rfl
end
end Go.Proofs.YtpkkaboonnedfaaDoor
namespace Go.Proofs.YtpkkaboonnedfaaDoor
set_option linter.unusedSimpArgs false
set_option linter.unusedVariables false
set_option linter.unusedSectionVars false
def DecB (B:Nat):Prop:=∀ i:Nat,i<B→∃ s,QcO (i:Int)=some s∧Qav (i:Int)=some s∧s.size≤21
theorem Qix (s:ByteArray):∀ (k i:Nat) (r:List UInt8),s.size-i=k→ByteArray.toList.loop s i r=r.reverse++s.data.toList.drop i:=by
 intro k
 induction k with
 | zero =>
  intro i r h
  unfold ByteArray.toList.loop
  rw [if_neg (by omega),List.drop_eq_nil_of_le (by rw [Array.length_toList]; exact (by omega:s.size≤i)),List.append_nil]
 | succ k ih =>
  intro i r h
  have hi:i<s.data.toList.length:=by rw [Array.length_toList]; exact (by omega:i<s.size)
  unfold ByteArray.toList.loop
  rw [if_pos (by omega),ih (i+1) _ (by omega),List.drop_eq_getElem_cons hi,List.reverse_cons,List.append_assoc]
  congr 1
  have hs:i<s.data.size:=by rw [Array.length_toList] at hi; exact hi
  have:s.get! i=s.data.toList[i]:=by
   show (s.data[i]!)=_
   rw [getElem!_pos s.data i hs,Array.getElem_toList]
  rw [this]; rfl
theorem Qle (a b:ByteArray):eqS a b=eqY a b:=by
 have h:∀ s:ByteArray,s.toList=s.data.toList:=fun s=>by
  unfold ByteArray.toList
  rw [Qix s s.size 0 [] (by omega)]
  simp
 rw [Bool.eq_iff_iff,eqY_t]
 unfold eqS
 rw [beq_iff_eq,h,h]
 constructor
 ·intro he
  cases a; cases b
  rw [ByteArray.mk.injEq]
  exact Array.toList_inj.1 he
 ·rintro rfl; rfl
theorem Qlf (a b:ByteArray):eqY a b=eqY b a:=by rw [Bool.eq_iff_iff,eqY_t,eqY_t]; exact eq_comm
section
variable {n : Qac} {B : Nat} {l : List Qab} {a : Qad} {known : List (Qae × Bool)} {tr : List Qaa}
theorem Qj4 (hB:DecB B) (hl:l.length≤B):Qbh l=QaM l:=by
 have hf:∀ s:List Qaa×Int,QbF l s.1 s.2=QaK l s.1 s.2:=fun s=>by
  unfold QbF QaK
  cases hb:ltI s.2 (lenI l) with
  | false=>rw [QcS,QcS]
  | true =>
   rw [Qdc,Qdc]
   cases hg:getI l s.2 with
   | none=>rw [Qiu,Qiu]
   | some p =>
    obtain ⟨k,hk⟩:∃ k:Nat,s.2=k:=by
     unfold getI at hg
     split at hg
     ·exact ⟨s.2.toNat,by omega⟩
     ·cases hg
    rw [ltI_t,lenI] at hb
    obtain ⟨r,r1,r2,_⟩:=hB k (by omega)
    rw [Qaq,Qaq,hk,r1,Qaq,r2,Qaq]
    unfold QcE
    rw [Qaq]
    have hc:((!(geI p.t 0&&leI p.t 4096))||ltI p.a p.t||gtI p.a (addK .i64 p.t 4096))=((((ltI p.t 0)||(gtI p.t 4096))||(ltI p.a p.t))||(gtI p.a (addK .i64 p.t 4096))):=by
     congr 2
     rw [Bool.eq_iff_iff,ntT,andF,orT,geI_f,leI_f,ltI_t,gtI_t]
    have hJ:∀ c,QbE l (k:Int) p r c=QaT l (k:Int) p c:=fun c=>by
     unfold QbE QaT
     rw [r2,Qaq]
    rw [hc,hJ,hJ]
 have hJ:∀ c,QbD l c=QaY l c:=fun c=>by
  unfold QbD QaY
  rw [show (fun s:List Qaa×Int=>QbF l s.1 s.2)=fun s=>QaK l s.1 s.2 from funext hf]
 unfold Qbh QaM
 rw [hJ,hJ]
 congr 1
 rw [Bool.eq_iff_iff]
 simp only [orT,eqI_t,ltI_t,gtI_t,lenI]
 omega
def slowB (l:List Qab) (i:Nat):Bool:=match l[i]? with
 | none=>false
 | some p=>!((geI p.t 0&&leI p.t 4096)&&(geI p.a 0&&leI p.a 4096))||(decide (0<i)&&(match l[i-1]? with
  | some q=>leI p.t q.t
  | none=>false))
def slowE (l:List Qab):Nat→List Int
 | 0=>[]
 | k+1=>slowE l k++if slowB l k=true then [2] else []
def slowX (l:List Qab):List Int:=(if l.length>16 then [4] else [])++slowE l l.length
theorem QfL:∀ k,(slowE l k).length≤k
 | 0=>Nat.le_refl _
 | k+1=>by have:=QfL k; unfold slowE; rw [List.length_append]; split <;> simp <;> omega
theorem QhZ:(slowX l).length≤l.length+1:=by
 have:=QfL (l:=l) l.length
 unfold slowX
 rw [List.length_append]
 split <;> simp <;> omega
theorem Qkm {p:Qab} (e:l[0]?=some p):slowB l 0=!((geI p.t 0&&leI p.t 4096)&&(geI p.a 0&&leI p.a 4096)):=by
 unfold slowB
 rw [e]
 simp
theorem Qkn {p q:Qab} {i:Nat} (h0:0<i) (e:l[i]?=some p) (e0:l[i-1]?=some q):slowB l i=(!((geI p.t 0&&leI p.t 4096)&&(geI p.a 0&&leI p.a 4096))||leI p.t q.t):=by
 unfold slowB
 rw [e]
 simp only
 rw [e0]
 simp [h0]
theorem Qg1 (k:Nat):slowE l (k+1)=slowE l k++if slowB l k=true then [2] else []:=rfl
theorem Qlq (hl:l.length≤1048576):Qco l=some (slowX l):=by
 have main:∀ c:List Int,c.length≤1→QbC l c=some (c++slowE l l.length):=fun c hc=>by
  unfold QbC
  have:=QcF l.length (fun i=>(c++slowE l i,(i:Int))) (B:=fun s:List Int×Int=>Qa8 l s.1 s.2) (e:=c++slowE l l.length) (by omega) (fun i hi=>by
   have e1:l[i]?=some l[i]:=List.getElem?_eq_getElem hi
   have hE:=QfL (l:=l) i
   have hok:okN ((c++slowE l i)++[2]).length 8:=QbL (by simp only [List.length_append,List.length_singleton]; omega)
   have hadd:addK .i64 (i:Int) 1=((i+1:Nat):Int):=by rw [addI (by omega) (by omega)]; omega
   show Qa8 l (c++slowE l i) (i:Int)=some (.inl (c++slowE l (i+1),((i+1:Nat):Int)))
   unfold Qa8 QbM
   rw [Qb4 (by simp only [ltI_t,lenI]; omega),Qa9 e1,Qaq,Qaq,Qaq,hadd,Qbi hok,Qg1]
   generalize l[i]=p at e1
   rcases Nat.eq_zero_or_pos i with h0|h0
   ·rw [QbW (b:=gtI (i:Int) 0) (by simp only [gtI_f]; omega)]
    subst h0
    rw [Qkm e1]
    cases (geI p.t 0&&leI p.t 4096) <;> cases (geI p.a 0&&leI p.a 4096) <;> simp
   ·have e0:l[i-1]?=some (l[i-1]'(by omega)):=List.getElem?_eq_getElem _
    have hs:subK .i64 (i:Int) 1=((i-1:Nat):Int):=by rw [subI (by omega) (by omega)]; omega
    rw [Qb4 (b:=gtI (i:Int) 0) (by simp only [gtI_t]; omega),hs,Qa9 e0,Qaq,Qkn h0 e1 e0]
    cases (geI p.t 0&&leI p.t 4096) <;> cases (geI p.a 0&&leI p.a 4096) <;> cases leI p.t (l[i-1]'(by omega)).t <;> simp) (by
   show Qa8 l (c++slowE l l.length) (l.length:Int)=_
   unfold Qa8
   rw [QbW (by simp [lenI])])
  rw [Qfa (show loopF (fun s:List Int×Int=>Qa8 l s.1 s.2) (c,0)=_ by simpa [slowE] using this)]
 unfold Qco slowX
 by_cases h:l.length>16
 ·rw [Qb4 (by simp [lenI]; omega),Qbi (QbL (by simp)),main [4] (by simp),if_pos h]
 ·rw [QbW (by simp [lenI]; omega),main [] (by simp),if_neg h]
def badG (a:Qad):Bool:=((((ltI a.profile 0)||(gtI a.profile 7))||(ltI a.miles 0))||(gtI a.miles 10000))||(eqI a.from_ a.to_)
def inA (n:Qac) (a:Qad):Bool:=QfV n a.from_&&QfV n a.to_
def arcT (a:Qad) (kn:Bool) (tr:List Qaa):List Int:=(if kn=true then [6] else [])++(tr.map (·.err)++slowX a.slow)
def arcX (n:Qac) (a:Qad) (kn:Bool) (tr:List Qaa):List Int:=(if inA n a=true then [] else [11])++((if badG a=true then [2] else [])++arcT a kn tr)
theorem Qku {kn:Bool}:(arcX n a kn tr).length≤4+tr.length+a.slow.length:=by
 have:=QhZ (l:=a.slow)
 unfold arcX arcT
 simp only [List.length_append,List.length_map]
 split <;> split <;> split <;> simp <;> omega
theorem Qk7 (ht:Qbh a.travel=some tr) (htl:tr.length≤2097153) (hs:a.slow.length≤1048576) {l c:List Int} (hc:c.length≤100):QbR a known l c=some (c++(tr.map (·.err)++slowX a.slow)):=by
 unfold QbR
 rw [ht,Qaq]
 have:=QcF tr.length (fun i=>(c++(tr.take i).map (·.err),(i:Int))) (B:=fun s:List Int×Int=>Qbb a known l tr s.1 s.2) (e:=c++tr.map (·.err)) (by omega) (fun i hi=>by
  have e1:tr[i]?=some tr[i]:=List.getElem?_eq_getElem hi
  have hadd:addK .i64 (i:Int) 1=((i+1:Nat):Int):=by rw [addI (by omega) (by omega)]; omega
  show Qbb a known l tr (c++(tr.take i).map (·.err)) (i:Int)=_
  unfold Qbb
  rw [Qb4 (by simp only [ltI_t,lenI]; omega),Qa9 e1,Qaq,Qbi (QbL (by simp only [List.length_append,List.length_map,List.length_take,List.length_singleton]; omega)),hadd,List.take_add_one,e1,Option.toList_some,List.map_append,← List.append_assoc]
  rfl) (by
  show Qbb a known l tr (c++(tr.take tr.length).map (·.err)) (tr.length:Int)=_
  unfold Qbb
  rw [QbW (by simp [lenI]),List.take_length])
 have hsl:=QhZ (l:=a.slow)
 rw [Qfa (show loopF (fun s:List Int×Int=>Qbb a known l tr s.1 s.2) (c,0)=_ by simpa using this),Qlq hs,Qaq,Qbi (QbL (by simp only [List.length_append,List.length_map]; omega)),List.append_assoc]
theorem QjD (ht:Qbh a.travel=some tr) (htl:tr.length≤2097153) (hs:a.slow.length≤1048576) {l c:List Int} (hc:c.length≤99):Qbx a known l c=some (c++arcT a (mGet Qae.keq known (Qae.mk a.from_ a.to_ a.profile) false) tr):=by
 unfold Qbx Qbw arcT
 rw [Qaq]
 cases mGet Qae.keq known (Qae.mk a.from_ a.to_ a.profile) false with
 | true=>rw [Qdc,Qbi (QbL (by simp; omega)),Qk7 ht htl hs (by simp; omega),if_pos rfl,List.append_assoc]
 | false=>rw [QcS,Qk7 ht htl hs (by omega),if_neg (by decide),List.nil_append]
theorem Qk8 {c:List Int}:Qcc a known c=Qbx a known c c:=rfl
theorem Qlw (ht:Qbh a.travel=some tr) (htl:tr.length≤2097153) (hs:a.slow.length≤1048576):Qdo n a known=some (arcX n a (mGet Qae.keq known (Qae.mk a.from_ a.to_ a.profile) false) tr):=by
 have hJ1:∀ l:List Int,l.length≤90→QbQ a known l=some (l++((if badG a=true then [2] else [])++arcT a (mGet Qae.keq known (Qae.mk a.from_ a.to_ a.profile) false) tr)):=fun l hl=>by
  unfold QbQ
  show br (badG a) _ _=_
  cases badG a with
  | true=>rw [Qdc,Qbi (QbL (by simp; omega)),QjD ht htl hs (by simp; omega),if_pos rfl,List.append_assoc]
  | false=>rw [QcS,QjD ht htl hs (by omega),if_neg (by decide),List.nil_append]
 unfold Qdo arcX inA
 rw [Qjb,Qaq,Qjb,Qaq]
 cases QfV n a.from_ with
 | true =>
  cases QfV n a.to_ with
  | true=>rw [Qdc,Qdc,hJ1 [] (by simp)]; rfl
  | false=>rw [Qdc,QcS,Qbi (QbL (by simp)),hJ1 [11] (by simp)]; rfl
 | false =>
  rw [QcS,Qbi (QbL (by simp))]
  show br (badG a) _ _=_
  cases badG a with
  | true =>
   rw [Qdc,Qbi (QbL (by simp)),Qk8,QjD ht htl hs (by simp)]
   simp
  | false =>
   rw [QcS,Qk8,QjD ht htl hs (by simp)]
   simp
def fltA (r:ByteArray) (e:Int):Qaa:=Qaa.mk e (catS Qaj r)
theorem Qkk {r:ByteArray} {l0 c:List Qaa} (hs:a.slow.length≤1048576) (hc:c.length≤3000000):Qaz r a l0 c=some (c++(slowE a.slow a.slow.length).map (fltA r)):=by
 unfold Qaz
 have:=QcF a.slow.length (fun i=>(c++(slowE a.slow i).map (fltA r),(i:Int))) (B:=fun s:List Qaa×Int=>Qap r a l0 s.1 s.2) (e:=c++(slowE a.slow a.slow.length).map (fltA r)) (by omega) (fun i hi=>by
  have e1:a.slow[i]?=some a.slow[i]:=List.getElem?_eq_getElem hi
  have hE:=QfL (l:=a.slow) i
  have hok:okN ((c++(slowE a.slow i).map (fltA r))++[Qaa.mk 2 (catS Qaj r)]).length 24:=QbL (by simp only [List.length_append,List.length_map,List.length_singleton]; omega)
  have hadd:addK .i64 (i:Int) 1=((i+1:Nat):Int):=by rw [addI (by omega) (by omega)]; omega
  show Qap r a l0 (c++(slowE a.slow i).map (fltA r)) (i:Int)=some (.inl (c++(slowE a.slow (i+1)).map (fltA r),((i+1:Nat):Int)))
  unfold Qap Qbm
  rw [Qb4 (by simp only [ltI_t,lenI]; omega),Qa9 e1,Qaq,Qaq,Qaq,hadd,Qbi hok,Qg1]
  generalize a.slow[i]=p at e1
  have hf:fltA r 2=Qaa.mk 2 (catS Qaj r):=rfl
  rcases Nat.eq_zero_or_pos i with h0|h0
  ·rw [QbW (b:=gtI (i:Int) 0) (by simp only [gtI_f]; omega)]
   subst h0
   rw [Qkm e1]
   cases (geI p.t 0&&leI p.t 4096) <;> cases (geI p.a 0&&leI p.a 4096) <;> simp [hf]
  ·have e0:a.slow[i-1]?=some (a.slow[i-1]'(by omega)):=List.getElem?_eq_getElem _
   have hs:subK .i64 (i:Int) 1=((i-1:Nat):Int):=by rw [subI (by omega) (by omega)]; omega
   rw [Qb4 (b:=gtI (i:Int) 0) (by simp only [gtI_t]; omega),hs,Qa9 e0,Qaq,Qkn h0 e1 e0]
   cases (geI p.t 0&&leI p.t 4096) <;> cases (geI p.a 0&&leI p.a 4096) <;> cases leI p.t (a.slow[i-1]'(by omega)).t <;> simp [hf]) (by
  show Qap r a l0 (c++(slowE a.slow a.slow.length).map (fltA r)) (a.slow.length:Int)=_
  unfold Qap
  rw [QbW (by simp [lenI])])
 rw [Qfa (show loopF (fun s:List Qaa×Int=>Qap r a l0 s.1 s.2) (c,0)=_ by simpa [slowE] using this)]
theorem Qkj {r:ByteArray} {l0 c:List Qaa} (ht:QaM a.travel=some tr) (htl:tr.length≤2097153) (hs:a.slow.length≤1048576) (hc:c.length≤100):QaI r a l0 c=some (c++(tr.map (·.err)++slowX a.slow).map (fltA r)):=by
 unfold QaI
 rw [ht,Qaq]
 have:=QcF tr.length (fun i=>(c++((tr.take i).map (·.err)).map (fltA r),(i:Int))) (B:=fun s:List Qaa×Int=>Qao r a l0 tr s.1 s.2) (e:=c++(tr.map (·.err)).map (fltA r)) (by omega) (fun i hi=>by
  have e1:tr[i]?=some tr[i]:=List.getElem?_eq_getElem hi
  have hadd:addK .i64 (i:Int) 1=((i+1:Nat):Int):=by rw [addI (by omega) (by omega)]; omega
  show Qao r a l0 tr (c++((tr.take i).map (·.err)).map (fltA r)) (i:Int)=_
  unfold Qao
  rw [Qb4 (by simp only [ltI_t,lenI]; omega),Qa9 e1,Qaq,Qbi (QbL (by simp only [List.length_append,List.length_map,List.length_take,List.length_singleton]; omega)),hadd,List.take_add_one,e1,Option.toList_some,List.map_append,List.map_append,← List.append_assoc]
  rfl) (by
  show Qao r a l0 tr (c++((tr.take tr.length).map (·.err)).map (fltA r)) (tr.length:Int)=_
  unfold Qao
  rw [QbW (by simp [lenI]),List.take_length])
 rw [Qfa (show loopF (fun s:List Qaa×Int=>Qao r a l0 tr s.1 s.2) (c,0)=_ by simpa using this)]
 unfold slowX
 by_cases h:a.slow.length>16
 ·rw [Qb4 (by simp [lenI]; omega),Qbi (QbL (by simp only [List.length_append,List.length_map,List.length_singleton]; omega)),Qkk hs (by simp only [List.length_append,List.length_map,List.length_singleton]; omega),if_pos h]
  simp [fltA]
 ·rw [QbW (by simp [lenI]; omega),Qkk hs (by simp only [List.length_append,List.length_map]; omega),if_neg h]
  simp
def knA (n:Qac) (i:Nat) (a:Qad):Bool:=(n.arcs.take i).any fun b=>Qae.keq (Qae.mk a.from_ a.to_ a.profile) (Qae.mk b.from_ b.to_ b.profile)
theorem Qls {r:ByteArray} {l0 l1:List Qaa} {i:Nat} (hi:i<n.arcs.length) (hal:n.arcs.length≤1048576):loopF (fun s:Bool×Int=>Qan n (i:Int) r a l0 l1 s.1 s.2) (false,0)=some (knA n i a):=by
 have:=QcF i (fun k=>((n.arcs.take k).any fun b=>Qae.keq (Qae.mk a.from_ a.to_ a.profile) (Qae.mk b.from_ b.to_ b.profile),(k:Int))) (B:=fun s:Bool×Int=>Qan n (i:Int) r a l0 l1 s.1 s.2) (e:=knA n i a) (by omega) (fun k hk=>by
  have e1:n.arcs[k]?=some (n.arcs[k]'(by omega)):=List.getElem?_eq_getElem _
  have hadd:addK .i64 (k:Int) 1=((k+1:Nat):Int):=by rw [addI (by omega) (by omega)]; omega
  show Qan n (i:Int) r a l0 l1 ((n.arcs.take k).any _) (k:Int)=_
  unfold Qan
  rw [Qb4 (by simp; omega),Qa9 e1,Qaq,hadd,List.take_add_one,e1,Option.toList_some,List.any_append]
  congr 3
  simp only [List.any_cons,List.any_nil,Bool.or_false,Qae.keq]
  congr 1
  rw [Bool.eq_iff_iff]
  simp [and_assoc]) (by
  show Qan n (i:Int) r a l0 l1 _ (i:Int)=_
  unfold Qan
  rw [QbW (by simp)]; rfl)
 simpa using this
theorem Qlo {r:ByteArray} {i:Nat} (hi:n.arcs[i]?=some a) (hal:n.arcs.length≤1048576) (hr:Qav (i:Int)=some r) (hrl:r.size≤21) (ht:QaM a.travel=some tr) (htl:tr.length≤2097153) (hs:a.slow.length≤1048576):Qa0 n (i:Int)=some ((arcX n a (knA n i a) tr).map (fltA r)):=by
 have hlt:=(List.getElem?_eq_some_iff.1 hi).1
 have hJ2:∀ l c:List Qaa,c.length≤90→QaH n (i:Int) r a l c=some (c++(arcT a (knA n i a) tr).map (fltA r)):=fun l c hc=>by
  unfold QaH arcT
  rw [Qfa (Qls hlt hal)]
  cases knA n i a with
  | true=>rw [Qdc,Qbi (QbL (by simp; omega)),Qkj ht htl hs (by simp; omega),if_pos rfl]; simp [fltA]
  | false=>rw [QcS,Qkj ht htl hs (by omega),if_neg (by decide),List.nil_append]
 have hJ1:∀ l:List Qaa,l.length≤80→QaG n (i:Int) r a l=some (l++((if badG a=true then [2] else [])++arcT a (knA n i a) tr).map (fltA r)):=fun l hl=>by
  unfold QaG
  show br (badG a) _ _=_
  cases badG a with
  | true=>rw [Qdc,Qbi (QbL (by simp; omega)),hJ2 _ _ (by simp; omega),if_pos rfl]; simp [fltA]
  | false=>rw [QcS,hJ2 _ _ (by omega),if_neg (by decide),List.nil_append]
 unfold Qa0
 rw [hr,Qaq,Qbi (by show 4+r.size≤_; omega),Qa9 hi,Qaq]
 have hin:((((ltI a.from_ 0)||(geI a.from_ (lenI n.places)))||(ltI a.to_ 0))||(geI a.to_ (lenI n.places)))=!inA n a:=by
  unfold inA QfV
  rw [Bool.eq_iff_iff]
  simp only [orT,ltI_t,geI_t,lenI,ntT,andF,decide_eq_false_iff_not]
  omega
 rw [hin,Qlx]
 unfold arcX
 cases inA n a with
 | true=>rw [Qdc,hJ1 [] (by simp)]; simp
 | false=>rw [QcS,Qbi (QbL (by simp)),hJ1 _ (by simp)]; simp [fltA]
end
end Go.Proofs.YtpkkaboonnedfaaDoor
namespace Go.Proofs.YtpkkaboonnedfaaDoor
set_option linter.unusedSimpArgs false
set_option linter.unusedVariables false
set_option linter.unusedSectionVars false
noncomputable def decS (k:Nat):ByteArray:=(Qav (k:Int)).getD ByteArray.empty
noncomputable def nameB (s:ByteArray):Bool:=(Qa6 s).getD false
noncomputable def trA (a:Qad):List Qaa:=(QaM a.travel).getD []
noncomputable def plE (n:Qac) (k:Nat):List Qaa:=match n.places[k]? with
 | none=>[]
 | some s=>if nameB s=true then (if (n.places.take k).any (fun b=>eqY s b)=true then [Qaa.mk 6 (catS QaA (decS k))] else []) else [Qaa.mk 5 (catS QaA (decS k))]
noncomputable def plF (n:Qac):Nat→List Qaa
 | 0=>[]
 | k+1=>plF n k++plE n k
noncomputable def arE (n:Qac) (k:Nat):List Qaa:=match n.arcs[k]? with
 | none=>[]
 | some a=>(arcX n a (knA n k a) (trA a)).map (fltA (decS k))
noncomputable def arF (n:Qac):Nat→List Qaa
 | 0=>[]
 | k+1=>arF n k++arE n k
noncomputable def netF (n:Qac):List Qaa:=((if n.places.length>24 then [Qaa.mk 4 QaV] else [])++plF n n.places.length)++((if n.arcs.length>1024 then [Qaa.mk 4 QbT] else [])++arF n n.arcs.length)
section
variable {n : Qac} {B : Nat}
theorem Qln (k:Nat):(plE n k).length≤1:=by
 unfold plE
 split
 ·simp
 ·split
  ·split <;> simp
  ·simp
theorem QhS:∀ k,(plF n k).length≤k
 | 0=>Nat.le_refl _
 | k+1=>by
  have h1:=QhS k
  have h2:=Qln (n:=n) k
  unfold plF
  rw [List.length_append]
  omega
theorem QjG (hB:DecB B) {k:Nat} (hk:k<B):Qcq (k:Int)=some (decS k)∧Qav (k:Int)=some (decS k)∧(decS k).size≤21:=by
 obtain ⟨s,s1,s2,s3⟩:=hB k hk
 have:decS k=s:=by unfold decS; rw [s2]; rfl
 rw [this]
 refine ⟨?_,s2,s3⟩
 unfold Qcq
 rw [s1]; rfl
theorem Qkg (hn:NetI n) {s:ByteArray} (hs:s∈n.places):Qa6 s=some (nameB s):=by
 obtain ⟨b,hb,_⟩:=QhO s (hn.names s hs)
 unfold nameB
 rw [hb]; rfl
theorem Qja (k:Nat):plF n (k+1)=plF n k++plE n k:=rfl
theorem Qis (k:Nat):arF n (k+1)=arF n k++arE n k:=rfl
theorem Qie (hn:NetI n) (hB:DecB B) (hp:n.places.length≤B) {l0 l:List Qaa} (hl:l0.length≤1):loopF (fun s:List Qaa×List (ByteArray×Bool)×Int=>Qa1 n l s.1 s.2.1 s.2.2) (l0,[],0)=some (l0++plF n n.places.length):=by
 have hpl:=hn.places
 have:=QcF n.places.length (fun i=>(l0++plF n i,(n.places.take i).foldl (fun m s=>mPut eqY m s true) [],(i:Int))) (B:=fun s:List Qaa×List (ByteArray×Bool)×Int=>Qa1 n l s.1 s.2.1 s.2.2) (e:=l0++plF n n.places.length) (by omega) (fun i hi=>by
  have e:n.places[i]?=some n.places[i]:=List.getElem?_eq_getElem hi
  have hadd:addK .i64 (i:Int) 1=((i+1:Nat):Int):=by rw [addI (by omega) (by omega)]; omega
  obtain ⟨d1,d2,d3⟩:=QjG hB (show i<B by omega)
  have hlen:=QhS (n:=n) i
  have hok:∀ f:Qaa,okN ((l0++plF n i)++[f]).length 24:=fun f=>QbL (by simp only [List.length_append,List.length_singleton]; omega)
  have hseen:=Qjr (eq:=eqY) eqY_t (fun s:ByteArray=>s) (n.places.take i) n.places[i]
  show Qa1 n l (l0++plF n i) ((n.places.take i).foldl (fun m s=>mPut eqY m s true) []) (i:Int)=some (.inl (l0++plF n (i+1),(n.places.take (i+1)).foldl (fun m s=>mPut eqY m s true) [],((i+1:Nat):Int)))
  unfold Qa1
  rw [Qb4 (by simp [lenI]; omega),Qa9 e,Qaq,d1,Qaq,Qbi (by show 6+(decS i).size≤_; omega),Qll,Qkg hn (List.getElem_mem hi),Qaq,hseen,Qbi (hok _),Qbi (hok _),Qja]
  unfold Qbr plE
  rw [e,hadd,List.take_add_one,e,Option.toList_some,List.foldl_append]
  simp only
  cases nameB n.places[i] with
  | true =>
   cases (n.places.take i).any (fun b=>eqY n.places[i] b) <;> simp
  | false=>simp) (by
  show Qa1 n l (l0++plF n n.places.length) ((n.places.take n.places.length).foldl (fun m s=>mPut eqY m s true) []) (n.places.length:Int)=_
  unfold Qa1
  rw [QbW (by simp [lenI])])
 simpa [plF] using this
theorem QjZ (hn:NetI n) {l l1:List Qaa} {r:ByteArray} {i:Nat} {s:ByteArray} (hs:n.places[i]?=some s):loopF (fun q:Bool×Int=>Qai n l l1 (i:Int) r q.1 q.2) (false,0)=some ((n.places.take i).any fun b=>eqY s b):=by
 have hpl:=hn.places
 have hi:=(List.getElem?_eq_some_iff.1 hs).1
 have:=QcF i (fun k=>((n.places.take k).any (fun b=>eqY s b),(k:Int))) (B:=fun q:Bool×Int=>Qai n l l1 (i:Int) r q.1 q.2) (e:=(n.places.take i).any fun b=>eqY s b) (by omega) (fun k hk=>by
  have e1:n.places[k]?=some (n.places[k]'(by omega)):=List.getElem?_eq_getElem _
  have hadd:addK .i64 (k:Int) 1=((k+1:Nat):Int):=by rw [addI (by omega) (by omega)]; omega
  show Qai n l l1 (i:Int) r ((n.places.take k).any fun b=>eqY s b) (k:Int)=_
  unfold Qai
  rw [Qb4 (by simp; omega),Qa9 e1,Qaq,Qa9 hs,Qaq,hadd,List.take_add_one,e1,Option.toList_some,List.any_append,Qle,Qlf]
  cases (n.places.take k).any fun b=>eqY s b <;> simp) (by
  show Qai n l l1 (i:Int) r ((n.places.take i).any fun b=>eqY s b) (i:Int)=_
  unfold Qai
  rw [QbW (by simp)])
 simpa using this
theorem QgZ (hn:NetI n) (hB:DecB B) (hp:n.places.length≤B) {l0 l:List Qaa} (hl:l0.length≤1):Qax n l0=some (l0++plF n n.places.length):=by
 have hpl:=hn.places
 unfold Qax
 have:=QcF n.places.length (fun i=>(l0++plF n i,(i:Int))) (B:=fun s:List Qaa×Int=>Qah n l0 s.1 s.2) (e:=l0++plF n n.places.length) (by omega) (fun i hi=>by
  have e:n.places[i]?=some n.places[i]:=List.getElem?_eq_getElem hi
  have hadd:addK .i64 (i:Int) 1=((i+1:Nat):Int):=by rw [addI (by omega) (by omega)]; omega
  obtain ⟨d1,d2,d3⟩:=QjG hB (show i<B by omega)
  have hlen:=QhS (n:=n) i
  have hok:∀ f:Qaa,okN ((l0++plF n i)++[f]).length 24:=fun f=>QbL (by simp only [List.length_append,List.length_singleton]; omega)
  show Qah n l0 (l0++plF n i) (i:Int)=some (.inl (l0++plF n (i+1),((i+1:Nat):Int)))
  unfold Qah
  rw [Qb4 (by simp [lenI]; omega),d2,Qaq,Qbi (by show 6+(decS i).size≤_; omega),Qa9 e,Qaq,Qkg hn (List.getElem_mem hi),Qaq,Qfa (QjZ hn e),Qbi (hok _),Qbi (hok _),hadd,Qja]
  unfold plE
  rw [e]
  simp only
  cases nameB n.places[i] with
  | true =>
   cases (n.places.take i).any (fun b=>eqY n.places[i] b) <;> simp
  | false=>simp) (by
  show Qah n l0 (l0++plF n n.places.length) (n.places.length:Int)=_
  unfold Qah
  rw [QbW (by simp [lenI])])
 rw [Qfa (show loopF (fun s:List Qaa×Int=>Qah n l0 s.1 s.2) (l0,0)=_ by simpa [plF] using this)]
theorem Qk0 {a:Qad} (hI:ArcI a):QaM a.travel=some (trA a)∧(trA a).length≤2097153:=by
 obtain ⟨r,hr,h1,_⟩:=Qd6 hI.travel hI.pts
 have:trA a=r:=by unfold trA; rw [hr]; rfl
 rw [this]
 have:=hI.travel
 exact ⟨hr,by omega⟩
theorem Qiq (hn:NetI n) (k:Nat):(arE n k).length≤3145733:=by
 unfold arE
 split
 ·simp
 ·rename_i a ha
  have hI:=hn.arcI a (List.mem_of_getElem? ha)
  have h1:=(Qk0 hI).2
  have h2:=hI.slow
  have h3:=Qku (n:=n) (a:=a) (kn:=knA n k a) (tr:=trA a)
  rw [List.length_map]
  omega
theorem Qir (hn:NetI n):∀ k,(arF n k).length≤3145733*k
 | 0=>Nat.le_refl _
 | k+1=>by
  have h1:=Qir hn k
  have h2:=Qiq hn k
  unfold arF
  rw [List.length_append]
  omega
theorem QiU {i:Nat} {a:Qad}:mGet Qae.keq ((n.arcs.take i).foldl (fun m a=>mPut Qae.keq m (Qae.mk a.from_ a.to_ a.profile) true) []) (Qae.mk a.from_ a.to_ a.profile) false=knA n i a :=
 Qjr (eq:=Qae.keq) Qlz (fun a:Qad=>Qae.mk a.from_ a.to_ a.profile) (n.arcs.take i) (Qae.mk a.from_ a.to_ a.profile)
theorem QhT (hn:NetI n) (hB:DecB B) (hp:n.arcs.length≤B) (ht:∀ a∈n.arcs,a.travel.length≤B) {l0 l:List Qaa} (hl:l0.length≤1048578):Qbs n l l0=some (l0++arF n n.arcs.length):=by
 have hal:=hn.arcs
 unfold Qbs
 have:=QcF n.arcs.length (fun i=>(l0++arF n i,(n.arcs.take i).foldl (fun m a=>mPut Qae.keq m (Qae.mk a.from_ a.to_ a.profile) true) [],(i:Int))) (B:=fun s:List Qaa×List (Qae×Bool)×Int=>Qa2 n l s.1 s.2.1 s.2.2) (e:=l0++arF n n.arcs.length) (by omega) (fun i hi=>by
  have e:n.arcs[i]?=some n.arcs[i]:=List.getElem?_eq_getElem hi
  have hmem:=List.getElem_mem hi
  have hI:=hn.arcI _ hmem
  have hadd:addK .i64 (i:Int) 1=((i+1:Nat):Int):=by rw [addI (by omega) (by omega)]; omega
  obtain ⟨d1,d2,d3⟩:=QjG hB (show i<B by omega)
  obtain ⟨t1,t2⟩:=Qk0 hI
  have htr:Qbh n.arcs[i].travel=some (trA n.arcs[i]):=by rw [Qj4 hB (ht _ hmem)]; exact t1
  have hlen:=Qir hn i
  have hE:=Qiq hn i
  have hEe:arE n i=(arcX n n.arcs[i] (knA n i n.arcs[i]) (trA n.arcs[i])).map (fltA (decS i)):=by unfold arE; rw [e]
  rw [hEe,List.length_map] at hE
  show Qa2 n l (l0++arF n i) ((n.arcs.take i).foldl _ []) (i:Int)=some (.inl (l0++arF n (i+1),(n.arcs.take (i+1)).foldl _ [],((i+1:Nat):Int)))
  unfold Qa2
  rw [Qb4 (by simp [lenI]; omega),Qa9 e,Qaq,Qlw htr t2 hI.slow,Qaq,QiU]
  rw [List.take_add_one,e,Option.toList_some,List.foldl_append,Qis,hEe]
  generalize n.arcs[i]=a at *
  generalize arcX n a (knA n i a) (trA a)=E at hE ⊢
  generalize (n.arcs.take i).foldl (fun m a=>mPut Qae.keq m (Qae.mk a.from_ a.to_ a.profile) true) []=M
  have hin:=QcF E.length (fun j=>((l0++arF n i)++(E.take j).map (fltA (decS i)),(j:Int))) (B:=fun s:List Qaa×Int=>Qa3 n l M (i:Int) a E s.1 s.2) (e:=(l0++arF n i)++E.map (fltA (decS i))) (by omega) (fun j hj=>by
   have e1:E[j]?=some E[j]:=List.getElem?_eq_getElem hj
   have hadd2:addK .i64 (j:Int) 1=((j+1:Nat):Int):=by rw [addI (by omega) (by omega)]; omega
   show Qa3 n l M (i:Int) a E ((l0++arF n i)++(E.take j).map (fltA (decS i))) (j:Int)=_
   unfold Qa3
   rw [Qb4 (by simp only [ltI_t,lenI]; omega),Qa9 e1,Qaq,d1,Qaq,Qbi (by show 4+(decS i).size≤_; omega),Qbi (QbL (by simp only [List.length_append,List.length_map,List.length_take,List.length_singleton]; omega)),hadd2,List.take_add_one,e1,Option.toList_some,List.map_append,← List.append_assoc]
   rfl) (by
   show Qa3 n l M (i:Int) a E ((l0++arF n i)++(E.take E.length).map (fltA (decS i))) (E.length:Int)=_
   unfold Qa3
   rw [QbW (by simp [lenI]),List.take_length])
  rw [Qfa (show loopF (fun s:List Qaa×Int=>Qa3 n l M (i:Int) a E s.1 s.2) (l0++arF n i,0)=_ by simpa using hin)]
  unfold Qbw
  rw [Qaq,hadd]
  rfl) (by
  show Qa2 n l (l0++arF n n.arcs.length) ((n.arcs.take n.arcs.length).foldl _ []) (n.arcs.length:Int)=_
  unfold Qa2
  rw [QbW (by simp [lenI])])
 rw [Qfa (show loopF (fun s:List Qaa×List (Qae×Bool)×Int=>Qa2 n l s.1 s.2.1 s.2.2) (l0,[],0)=_ by simpa [arF] using this)]
theorem Qji (hn:NetI n) (hB:DecB B) (hp:n.arcs.length≤B) {l0:List Qaa} (hl:l0.length≤1048578):QaZ n l0=some (l0++arF n n.arcs.length):=by
 have hal:=hn.arcs
 unfold QaZ
 have:=QcF n.arcs.length (fun i=>(l0++arF n i,(i:Int))) (B:=fun s:List Qaa×Int=>Qaw n l0 s.1 s.2) (e:=l0++arF n n.arcs.length) (by omega) (fun i hi=>by
  have e:n.arcs[i]?=some n.arcs[i]:=List.getElem?_eq_getElem hi
  have hmem:=List.getElem_mem hi
  have hI:=hn.arcI _ hmem
  have hadd:addK .i64 (i:Int) 1=((i+1:Nat):Int):=by rw [addI (by omega) (by omega)]; omega
  obtain ⟨d1,d2,d3⟩:=QjG hB (show i<B by omega)
  obtain ⟨t1,t2⟩:=Qk0 hI
  have hlen:=Qir hn i
  have hE:=Qiq hn i
  have hEe:arE n i=(arcX n n.arcs[i] (knA n i n.arcs[i]) (trA n.arcs[i])).map (fltA (decS i)):=by unfold arE; rw [e]
  show Qaw n l0 (l0++arF n i) (i:Int)=some (.inl (l0++arF n (i+1),((i+1:Nat):Int)))
  unfold Qaw
  rw [Qb4 (by simp [lenI]; omega),Qlo e hal d2 d3 t1 t2 hI.slow,Qaq,← hEe,Qbi (QbL (by simp only [List.length_append]; omega)),hadd,Qis,List.append_assoc]) (by
  show Qaw n l0 (l0++arF n n.arcs.length) (n.arcs.length:Int)=_
  unfold Qaw
  rw [QbW (by simp [lenI])])
 rw [Qfa (show loopF (fun s:List Qaa×Int=>Qaw n l0 s.1 s.2) (l0,0)=_ by simpa [arF] using this)]
theorem QjV (hn:NetI n) (hB:DecB B) (hp:n.places.length≤B) (ha:n.arcs.length≤B) (ht:∀ a∈n.arcs,a.travel.length≤B):QcC n=some (netF n)∧Qbf n=some (netF n):=by
 have hpl:=hn.places
 have hal:=hn.arcs
 have hlen:=QhS (n:=n) n.places.length
 constructor
 ·have main:∀ l0:List Qaa,l0.length≤1→Qbq n l0=some ((l0++plF n n.places.length)++((if n.arcs.length>1024 then [Qaa.mk 4 QbT] else [])++arF n n.arcs.length)):=fun l0 h0=>by
   unfold Qbq
   rw [Qfa (Qie hn hB hp h0)]
   by_cases h:n.arcs.length>1024
   ·rw [Qb4 (by simp [lenI]; omega),Qbi (QbL (by simp only [List.length_append,List.length_singleton]; omega)),QhT hn hB ha ht (by simp only [List.length_append,List.length_singleton]; omega),if_pos h]
    simp
   ·rw [QbW (by simp [lenI]; omega),QhT hn hB ha ht (by simp only [List.length_append]; omega),if_neg h]
    simp
  unfold QcC netF
  by_cases h:n.places.length>24
  ·rw [Qb4 (by simp [lenI]; omega),Qbi (QbL (by simp)),main _ (by simp),if_pos h]
  ·rw [QbW (by simp [lenI]; omega),main _ (by simp),if_neg h]
 ·have main:QaB n=some ((if n.places.length>24 then [Qaa.mk 4 QaV] else [])++plF n n.places.length):=by
   unfold QaB
   by_cases h:n.places.length>24
   ·rw [Qb4 (by simp [lenI]; omega),Qbi (QbL (by simp)),QgZ hn hB hp (l:=[]) (by simp),if_pos h]
   ·rw [QbW (by simp [lenI]; omega),QgZ hn hB hp (l:=[]) (by simp),if_neg h]
  unfold Qbf netF
  rw [main,Qaq]
  have hle:((if n.places.length>24 then [Qaa.mk 4 QaV] else [])++plF n n.places.length).length≤1048577:=by
   rw [List.length_append]
   split <;> simp <;> omega
  generalize (if n.places.length>24 then [Qaa.mk 4 QaV] else [])++plF n n.places.length=l0 at hle
  by_cases h:n.arcs.length>1024
  ·rw [Qb4 (by simp [lenI]; omega),Qbi (QbL (by simp only [List.length_append,List.length_singleton]; omega)),Qji hn hB ha (by simp only [List.length_append,List.length_singleton]; omega),if_pos h]
   simp
  ·rw [QbW (by simp [lenI]; omega),Qji hn hB ha (by omega),if_neg h]
   simp
end
end Go.Proofs.YtpkkaboonnedfaaDoor
namespace Go.Proofs.YtpkkaboonnedfaaDoor
set_option linter.unusedSimpArgs false
set_option linter.unusedVariables false
set_option linter.unusedSectionVars false
theorem Qhe:Qbk=some true:=by kernel_rfl
theorem Qld (d:Nat) (h:d<10):Qge [cvK .u8 (addK .i64 48 (d:Int))]=⟨#[UInt8.ofNat (48+d)]⟩:=by
 have e:cvK .u8 (addK .i64 48 (d:Int))=((48+d:Nat):Int):=by
  rw [addI (by omega) (by omega)]
  unfold cvK
  rw [IntKind.wrap_u8]
  omega
 rw [e]
 rfl
theorem Qlc (i:Nat) (hi:i<9223372036854775808):Qav (i:Int)=some ⟨(Go.Lib.decDigits i).toArray⟩:=by
 have hlen:(Go.Lib.decDigits i).length≤21:=by
  have:=Go.Lib.itoa_length_le (i:Int) (by omega) (by omega)
  rwa [Go.Lib.itoa_nonneg] at this
 have key:post (loopF (fun s:ByteArray×Int×Bool=>Qa5 (i:Int) s.1 s.2.1 s.2.2) (ByteArray.empty,(i:Int),true)) fun s=>s=⟨(Go.Lib.decDigits i).toArray⟩:=by
  refine Qek (fun s:ByteArray×Int×Bool=>∃ m:Nat,s.2.1=(m:Int)∧m≤i∧(if s.2.2=true then Go.Lib.decDigits m else [])++s.1.data.toList=Go.Lib.decDigits i) (fun s=>s.2.1.toNat+(if s.2.2=true then 1 else 0)) ⟨i,rfl,Nat.le_refl _,by simp⟩ (by simp; omega) ?_
  rintro ⟨s,_,b⟩ ⟨m,rfl,hm,he⟩
  simp only at he
  show post (Qa5 (i:Int) s (m:Int) b) _
  unfold Qa5
  cases b with
  | false =>
   rw [QcS]
   refine QeJ ?_
   simp only [Bool.false_eq_true,if_false,List.nil_append] at he
   cases s with
   | mk d=>rw [← he]
  | true =>
   rw [Qdc]
   simp only [if_true] at he
   have hr:remK (m:Int) 10=((m % 10:Nat):Int):=by
    unfold remK
    rw [Int.tmod_eq_emod_of_nonneg (by omega)]; omega
   have hq:quoK .i64 (m:Int) 10=((m / 10:Nat):Int):=by rw [quo10 (by omega),Int.tdiv_eq_ediv_of_nonneg (by omega)]; omega
   rw [hr,QbW (by rw [ltI_f]; omega)]
   unfold QaQ
   rw [Qld _ (Nat.mod_lt _ (by omega)),hq]
   have hsz:s.size≤21:=by
    have h1:=congrArg List.length he
    rw [List.length_append] at h1
    have h2:s.data.toList.length=s.size:=Array.length_toList
    omega
   have hone:(ByteArray.mk #[UInt8.ofNat (48+m % 10)]).size=1:=rfl
   rw [Qbi (by omega)]
   have hcat:(catS (ByteArray.mk #[UInt8.ofNat (48+m % 10)]) s).data.toList=UInt8.ofNat (48+m % 10) :: s.data.toList:=by
    unfold catS
    rw [ByteArray.data_append]
    simp
   have hd:=Go.Lib.decDigits.eq_1 m
   by_cases h10:m<10
   ·have e0:m / 10=0:=by omega
    rw [dif_pos h10] at hd
    refine QgD ⟨⟨m / 10,rfl,by omega,?_⟩,?_⟩
    ·show (if neI ((m / 10:Nat):Int) 0=true then _ else [])++_=_
     rw [if_neg (by rw [neI_t]; omega),hcat,← he,hd,show m % 10=m by omega]
     rfl
    ·show ((m / 10:Nat):Int).toNat+(if neI ((m / 10:Nat):Int) 0=true then 1 else 0)<(m:Int).toNat+1
     rw [if_neg (by rw [neI_t]; omega)]
     omega
   ·rw [dif_neg h10] at hd
    refine QgD ⟨⟨m / 10,rfl,by omega,?_⟩,?_⟩
    ·show (if neI ((m / 10:Nat):Int) 0=true then _ else [])++_=_
     rw [if_pos (by rw [neI_t]; omega),hcat,← he,hd,List.append_assoc]
     rfl
    ·show ((m / 10:Nat):Int).toNat+(if neI ((m / 10:Nat):Int) 0=true then 1 else 0)<(m:Int).toNat+1
     rw [if_pos (by rw [neI_t]; omega)]
     omega
 obtain ⟨s,hs,rfl⟩:=key
 unfold Qav
 rw [Qfa hs,QbW (by rw [ltI_f]; omega)]
theorem Qky (B:Nat) (hB:B≤9223372036854775807):DecB B:=fun i hi=>by
 have h1:=Qlc i (by omega)
 have hlen:(Go.Lib.decDigits i).length≤21:=by
  have:=Go.Lib.itoa_length_le (i:Int) (by omega) (by omega)
  rwa [Go.Lib.itoa_nonneg] at this
 refine ⟨_,?_,h1,?_⟩
 ·unfold QcO
  rw [QiQ (by omega),Go.Lib.itoa_nonneg]
 ·show (Go.Lib.decDigits i).toArray.size≤21
  simpa using hlen
theorem QeP (n:Qac) (hn:NetI n):Qba n=some true:=by
 unfold Qba
 rw [Qhe]
 have hp:=hn.places
 have ha:=hn.arcs
 by_cases hb:((gtI (lenI n.places) 30)||(gtI (lenI n.arcs) 1100))=true
 ·rw [Qb4 hb]; rfl
 ·have hb':((gtI (lenI n.places) 30)||(gtI (lenI n.arcs) 1100))=false:=by simpa using hb
  rw [QbW hb']
  obtain ⟨h1,h2⟩:=QjV hn (Qky 1048576 (by omega)) hp ha (fun a h=>(hn.arcI a h).travel)
  obtain ⟨r,hr,hE⟩:=Qf5 (n:=n) hn
  rw [h2] at hr
  cases hr
  obtain ⟨nw,e1,e2,_⟩:=hE
  have l1:(netF n).length≤1048578+3145735*n.arcs.length:=by rw [e1,List.nil_append]; exact e2
  rw [h1,Qaq,h2,Qaq,QbW (by simp)]
  have key:loopF (fun s=>Qas (netF n) (netF n) s) 0=some (.inl ()):=by
   refine QcF (B:=fun s=>Qas (netF n) (netF n) s) (netF n).length (fun i=>(i:Int)) (by omega) (fun i hi=>?_) ?_
   ·have e:(netF n)[i]?=some (netF n)[i]:=List.getElem?_eq_getElem hi
    have ek:addK .i64 (i:Int) 1=((i+1:Nat):Int):=(addI (by omega) (by omega)).trans (by omega)
    show Qas (netF n) (netF n) (i:Int)=_
    unfold Qas
    rw [Qb4 (by simp [lenI]; omega),Qa9 e,Qaq,Qaq,Qb4 (by rw [show ((netF n)[i].at_ == (netF n)[i].at_)=true from (eqY_t _ _).2 rfl]; simp),ek]
   ·show Qas (netF n) (netF n) ((netF n).length:Int)=_
    unfold Qas
    rw [QbW (by simp [lenI])]
  rw [Qfa key,Qjs]
  rfl
end Go.Proofs.YtpkkaboonnedfaaDoor
