/- Part MX of the proof: texts Nxa Nxb. -/
import Derived.Test.YtpkkaboonnedfaaDoorMP
namespace Go.Proofs.YtpkkaboonnedfaaDoor
set_option linter.unusedSimpArgs false
set_option linter.unusedVariables false
set_option linter.unusedSectionVars false
theorem Qjd (s:ByteArray):∀ (k i:Nat) (r:List UInt8),s.size-i=k→(ByteArray.toList.loop s i r).length=r.length+k:=by
 intro k
 induction k with
 | zero =>
  intro i r h
  unfold ByteArray.toList.loop
  rw [if_neg (by omega)]
  simp
 | succ k ih =>
  intro i r h
  unfold ByteArray.toList.loop
  rw [if_pos (by omega),ih (i+1) _ (by omega)]
  simp; omega
theorem Qid (s:ByteArray):s.toList.length=s.size:=by
 unfold ByteArray.toList
 rw [Qjd s s.size 0 [] (by omega)]
 simp
theorem QlK (s:ByteArray):QfI s=Qba s:=by
 have e:(eqS s ByteArray.empty||gtI (sizeS s) 16)=(ltI (sizeS s) 1||gtI (sizeS s) 16):=by
  congr 1
  rw [Bool.eq_iff_iff,ltI_t]
  unfold eqS sizeS
  rw [beq_iff_eq]
  have hl:=Qid s
  have he:ByteArray.empty.toList=[]:=List.eq_nil_of_length_eq_zero (by rw [Qid]; rfl)
  rw [he]
  constructor
  ·intro h
   rw [h] at hl
   simp at hl
   omega
  ·intro h
   exact List.eq_nil_of_length_eq_zero (by omega)
 unfold QfI Qba
 rw [e]
 rfl
structure Qhr (l:List ByteArray):Prop where
 name:∀ s∈l,Qba s=some true
 once:∀ (i k:Nat) (a b:ByteArray),k<i→l[i]?=some a→l[k]?=some b→a≠b
structure Qhs (n:Qac):Prop where
 ok:NetOK n
 names:Qhr n.places
theorem QiU {n:Qac} (hn:NetI n):post (QaC n) (Ext [] (1+n.places.length) (Qhr n.places)):=by
 have hpl:=hn.places
 have main:∀ l0:List Qaa,l0.length≤1→post (QaE n l0) (Ext l0 n.places.length (Qhr n.places)):=by
  intro l0 hin
  refine QaZ (R:=Ext l0 n.places.length (Qhr n.places)) ?_ fun a h=>Qaw.2 h
  refine (Qeh n.places.length 1 (fun i=>∀ s,n.places[i]?=some s→Qba s=some true∧∀ k b,k<i→n.places[k]?=some b→s≠b) l0 (by omega) (fun i out hi ho=>?_) (fun out=>?_)).mono fun r h=>h.mono (by omega) fun hall=>⟨fun s hs=>by
   obtain ⟨i,hi⟩:=List.getElem?_of_mem hs
   exact (hall i (List.getElem?_eq_some_iff.1 hi).1 s hi).1,fun i k a b hk ha hb=>(hall i (List.getElem?_eq_some_iff.1 ha).1 a ha).2 k b hk hb⟩
  ·show post (Qam n l0 out (i:Int)) _
   unfold Qam
   rw [Qc2 (by simp [lenI]; exact hi),inc hi hpl]
   refine QaZ (Qdz (i:Int) (QhG (by omega))) fun r hr=>Qa5 (by show 6+r.size≤_; omega) ?_
   have e1:n.places[i]?=some n.places[i]:=List.getElem?_eq_getElem hi
   rw [QaR e1,Qak]
   have hok:∀ f:Qaa,okN (out++[f]).length 24:=fun f=>QdP (by simp; omega)
   have hsm:∀ {e:Int},Sm.sm (Qaa.mk e (catS Qax r)):=sm_at (by rw [Qg8]; show 6+r.size≤64; omega)
   obtain ⟨b,hb,-⟩:=Qix _ (hn.names _ (List.getElem_mem hi))
   rw [hb,Qak]
   refine QaL (fun hbt=>?_) (fun _=>Qa5 (hok _) (Qg3 rfl (by omega) hsm))
   refine QaZ (Qgz i (fun k=>∃ x,n.places[k]?=some x∧eqS x n.places[i]=true) (by omega) (fun k b hk=>?_) (fun b=>?_)) fun tw htw=>QaL (fun _=>Qa5 (hok _) (Qg3 rfl (by omega) hsm)) (fun hf=>QiG rfl ?_)
   ·show post (Qan n l0 out (i:Int) r b (k:Int)) _
    unfold Qan
    rw [Qc2 (by simp; omega),inc (n:=i) hk (by omega)]
    have e2:n.places[k]?=some (n.places[k]'(by omega)):=List.getElem?_eq_getElem _
    refine QaL (fun h=>Qaw.2 ⟨true,rfl,by simp [h]⟩) (fun h=>?_)
    rw [QaR e2,Qak,QaR e1,Qak,Qaw]
    exact ⟨_,rfl,by simp [h,e2]⟩
   ·show Qan n l0 out (i:Int) r b (i:Int)=_
    unfold Qan
    rw [Qb5 (by simp)]
   ·intro s hs
    rw [e1] at hs
    cases hs
    refine ⟨by rw [hb,hbt],fun k b hk hkb he=>?_⟩
    have:=htw.2 ⟨k,hk,b,hkb,by rw [← he]; simp [eqS]⟩
    rw [this] at hf; cases hf
  ·show Qam n l0 out (n.places.length:Int)=_
   unfold Qam
   rw [Qb5 (by simp [lenI])]
 unfold QaC
 refine QaL (fun h=>Qa5 (QdP (by simp)) ((main _ (by simp)).mono fun r h'=>?_)) (fun h=>(main _ (by simp)).mono fun r h'=>h'.mono (by omega) id)
 exact (Ext.one (l0:=[]) (P:=False) (Nat.le_refl 1) (sm_at (s:=Qbm) (show 6≤64 by omega))).trans h' (Nat.le_refl _) fun h _=>h.elim
theorem Qgb {n:Qac} (hn:NetI n):post (Qbe n) (Ext [] (1048578+3145735*n.arcs.length) (Qhr n.places)):=by
 have hal:=hn.arcs
 have hpl:=hn.places
 unfold Qbe
 refine QaZ (QiU hn) fun r hr=>?_
 have hrl:=hr.len
 have main:∀ l0:List Qaa,l0.length≤1048578→post (Qbg n l0) (Ext l0 (3145735*n.arcs.length) (∀ i,i<n.arcs.length→True)):=by
  intro l0 hin
  refine QiB ?_
  refine (Qeh n.arcs.length 3145735 (fun _=>True) l0 (by omega) (fun i out hi ho=>?_) (fun out=>?_)).mono fun r h=>Qaw.2 h
  ·show post (Qav n l0 out (i:Int)) _
   unfold Qav
   have e1:n.arcs[i]?=some n.arcs[i]:=List.getElem?_eq_getElem hi
   rw [Qc2 (by simp [lenI]; exact hi),inc hi hal]
   refine QaZ (Qf6 hn e1) fun r1 hr1=>?_
   obtain ⟨new,h1,h2,h3,h4⟩:=hr1
   rw [List.nil_append] at h1
   subst h1
   exact Qa5 (QdP (by simp; omega)) (Qaw.2 ⟨_,rfl,_,rfl,h2,fun h=>trivial,h4⟩)
  ·show Qav n l0 out (n.arcs.length:Int)=_
   unfold Qav
   rw [Qb5 (by simp [lenI])]
 refine QaL (fun h=>Qa5 (QdP (by simp at hrl ⊢; omega)) ((main _ (by simp at hrl ⊢; omega)).mono fun x hx=>?_)) (fun h=>(main _ (by simp at hrl; omega)).mono fun x hx=>hr.trans hx (by omega) fun h _=>h)
 exact hr.trans ((Ext.one (P:=True) (Nat.le_refl 1) (sm_at (s:=QbZ) (show 4≤64 by omega))).trans hx (Nat.le_refl _) (R:=True) fun _ _=>trivial) (by omega) fun h _=>h
theorem QjT {n:Qac} (hn:NetI n) (h:Qbe n=some []):Qhs n:=by
 obtain ⟨r,hr,h1⟩:=QeT hn
 obtain ⟨r',hr',h2⟩:=Qgb hn
 rw [h] at hr hr'
 cases hr
 cases hr'
 exact ⟨h1.of_nil rfl,h2.of_nil rfl⟩
section
variable {K V : Type} {eq : K → K → Bool}
theorem Qkt (he:∀ a b,eq a b=true↔a=b) {m:List (K×V)} {k k':K} {v z:V}:mGet eq (mPut eq m k v) k' z=bif eq k' k then v else mGet eq m k' z:=by
 induction m with
 | nil=>rfl
 | cons p r ih =>
  unfold mPut
  cases h1:eq k p.1 with
  | true =>
   have h1':=(he _ _).1 h1
   unfold mGet
   simp only [cond_true,h1']
   cases eq k' p.1 <;> rfl
  | false =>
   show mGet eq (p :: mPut eq r k v) k' z=_
   unfold mGet
   cases h2:eq k' p.1 with
   | true =>
    have h2':=(he _ _).1 h2
    have:eq k' k=false:=by
     cases h3:eq k' k with
     | false=>rfl
     | true =>
      have:=(he _ _).1 h3
      rw [← this,h2'] at h1
      rw [(he _ _).2 rfl] at h1
      cases h1
    rw [this]; rfl
   | false =>
    simp only [cond_false]
    exact ih
theorem Qj0 (he:∀ a b,eq a b=true↔a=b) {α:Type} (f:α→K) (l:List α):∀ k:K,mGet eq (l.foldl (fun m a=>mPut eq m (f a) true) []) k false=l.any fun a=>eq k (f a):=by
 have key:∀ (l:List α) (m:List (K×Bool)) (k:K),mGet eq (l.foldl (fun m a=>mPut eq m (f a) true) m) k false=(mGet eq m k false||l.any fun a=>eq k (f a)):=by
  intro l
  induction l with
  | nil=>intro m k; simp
  | cons a r ih =>
   intro m k
   rw [List.foldl_cons,ih,Qkt he,List.any_cons]
   cases eq k (f a) with
   | true=>simp
   | false=>simp
 intro k
 rw [key]
 rfl
end
theorem eqY_t (a b:ByteArray):eqY a b=true↔a=b:=by
 cases a with
 | mk x =>
  cases b with
  | mk y =>
   show (x == y)=true↔_
   rw [beq_iff_eq,ByteArray.mk.injEq]
theorem QlJ (a b:Qae):Qae.keq a b=true↔a=b:=by
 cases a; cases b
 simp [Qae.keq,Qae.mk.injEq]
theorem Qlb:∀ i:Nat,i<100→(QbR (i:Int)).isSome=true∧∀ r,QbR (i:Int)=some r→r.size≤20:=by decide +kernel
theorem Qj3 {l:List Qab} (h16:l.length≤16) (h:∀ i,i<l.length→okS l i):Qcc l=some []:=by
 unfold Qcc
 rw [Qb5 (by simp [lenI]; omega)]
 unfold Qcn
 have:loopF (fun s:List Int×Int=>Qbc l s.1 s.2) ([],0)=some []:=Qfi (e:=[]) l.length (fun i=>(([]:List Int),(i:Int))) (by omega) (fun i hi=>by
  have e1:l[i]?=some l[i]:=List.getElem?_eq_getElem hi
  obtain ⟨p1,p2,p3,p4,p5⟩:=h i hi _ e1
  have hadd:addK .i64 (i:Int) 1=((i+1:Nat):Int):=by rw [addI (by omega) (by omega)]; omega
  have ht:Qa9 l[i].t=some true:=by unfold Qa9; simp only [Option.some.injEq,andT,geI_t,leI_t]; omega
  have ha:Qa9 l[i].a=some true:=by unfold Qa9; simp only [Option.some.injEq,andT,geI_t,leI_t]; omega
  show Qbc l [] (i:Int)=_
  unfold Qbc
  rw [Qc2 (by simp only [ltI_t,lenI]; omega),QaR e1,Qak,ht,Qak,QdR,ha,hadd]
  rcases Nat.eq_zero_or_pos i with h0|h0
  ·rw [Qb5 (by simp only [gtI_f]; omega),Qak,QdR]
  ·have e0:l[i-1]?=some (l[i-1]'(by omega)):=List.getElem?_eq_getElem _
   have hs:subK .i64 (i:Int) 1=((i-1:Nat):Int):=by rw [subI (by omega) (by omega)]; omega
   have:=p5 h0 _ e0
   rw [Qc2 (by simp only [gtI_t]; omega),hs,QaR e0,Qak,Qb5 (by simp only [leI_f]; omega),Qak,QdR]) (by
  show Qbc l [] (l.length:Int)=_
  unfold Qbc
  rw [Qb5 (by simp [lenI])])
 rw [this,Qak]
theorem Qkd {n:Qac} {a:Qad} (h:ArcOK n.places.length a) {known:List (Qae×Bool)} (hk:mGet Qae.keq known (Qae.mk a.from_ a.to_ a.profile) false=false):Qee n a known=some []:=by
 have f0:=h.from0; have f1:=h.from1; have t0:=h.to0; have t1:=h.to1
 have p0:=h.prof0; have p1:=h.prof1; have m0:=h.miles0; have m1:=h.miles1; have ne:=h.ne
 unfold Qee
 rw [QfU,Qak,QfU,Qak,Qc2 (by unfold QcQ; simp; omega),Qc2 (by unfold QcQ; simp; omega)]
 unfold QcK
 rw [Qb5 (by simp only [orF,ltI_f,gtI_f,eqI_f]; omega)]
 unfold QcL Qbl
 rw [Qak,hk,Qg6]
 unfold QcM
 rw [Qel h.travel,Qak]
 have:loopF (fun s:List Int×Int=>QcN a known [] [] s.1 s.2) ([],0)=some []:=QhY 1 (by decide) rfl
 rw [this,Qak,Qj3 h.slow h.slowAll,Qak]
 exact QkG (QdP (by simp))
theorem QfA {n:Qac} (h:Qhs n):QcC n=some []:=by
 have h24:=h.ok.places
 have h1024:=h.ok.arcs
 unfold QcC
 rw [Qb5 (by simp [lenI]; omega)]
 unfold Qca
 have l1:loopF (fun s:List Qaa×List (ByteArray×Bool)×Int=>Qa3 n [] s.1 s.2.1 s.2.2) ([],[],0)=some []:=Qfi (e:=[]) n.places.length (fun i=>(([]:List Qaa),(n.places.take i).foldl (fun m s=>mPut eqY m s true) [],(i:Int))) (by omega) (fun i hi=>by
  have e:n.places[i]?=some n.places[i]:=List.getElem?_eq_getElem hi
  have hadd:addK .i64 (i:Int) 1=((i+1:Nat):Int):=by rw [addI (by omega) (by omega)]; omega
  obtain ⟨hs,hsz⟩:=Qlb i (by omega)
  obtain ⟨r,hr⟩:=Option.isSome_iff_exists.1 hs
  have hr20:=hsz r hr
  have hname:=h.names.name _ (List.getElem_mem hi)
  have hseen:mGet eqY ((n.places.take i).foldl (fun m s=>mPut eqY m s true) []) n.places[i] false=false:=by
   have:=Qj0 (eq:=eqY) eqY_t (fun s:ByteArray=>s) (n.places.take i) n.places[i]
   rw [this,List.any_eq_false]
   intro b hb he
   obtain ⟨k,hk⟩:=List.getElem?_of_mem hb
   have hkl:=(List.getElem?_eq_some_iff.1 hk).1
   rw [List.length_take] at hkl
   rw [List.getElem?_take,if_pos (by omega)] at hk
   exact h.names.once i k _ _ (by omega) e hk ((eqY_t _ _).1 he)
  show Qa3 n [] [] ((n.places.take i).foldl (fun m s=>mPut eqY m s true) []) (i:Int)=_
  unfold Qa3 QdK
  rw [Qc2 (by simp [lenI]; omega),QaR e,Qak,hr,Qak,Qak,QkG (by show 6+r.size≤_; omega),QlK,hname,Qak,QdR,hseen,Qg6]
  unfold QbH
  rw [hadd,List.take_add_one,e,Option.toList_some,List.foldl_append]
  rfl) (by
  show Qa3 n [] [] ((n.places.take n.places.length).foldl (fun m s=>mPut eqY m s true) []) (n.places.length:Int)=_
  unfold Qa3
  rw [Qb5 (by simp [lenI])])
 rw [l1,Qak,Qb5 (by simp [lenI]; omega)]
 unfold Qbq
 have l2:loopF (fun s:List Qaa×List (Qae×Bool)×Int=>Qa4 n [] s.1 s.2.1 s.2.2) ([],[],0)=some []:=Qfi (e:=[]) n.arcs.length (fun i=>(([]:List Qaa),(n.arcs.take i).foldl (fun m a=>mPut Qae.keq m (Qae.mk a.from_ a.to_ a.profile) true) [],(i:Int))) (by omega) (fun i hi=>by
  have e:n.arcs[i]?=some n.arcs[i]:=List.getElem?_eq_getElem hi
  have hadd:addK .i64 (i:Int) 1=((i+1:Nat):Int):=by rw [addI (by omega) (by omega)]; omega
  have hseen:mGet Qae.keq ((n.arcs.take i).foldl (fun m a=>mPut Qae.keq m (Qae.mk a.from_ a.to_ a.profile) true) []) (Qae.mk n.arcs[i].from_ n.arcs[i].to_ n.arcs[i].profile) false=false:=by
   have:=Qj0 (eq:=Qae.keq) QlJ (fun a:Qad=>Qae.mk a.from_ a.to_ a.profile) (n.arcs.take i) (Qae.mk n.arcs[i].from_ n.arcs[i].to_ n.arcs[i].profile)
   rw [this,List.any_eq_false]
   intro b hb he
   obtain ⟨k,hk⟩:=List.getElem?_of_mem hb
   have hkl:=(List.getElem?_eq_some_iff.1 hk).1
   rw [List.length_take] at hkl
   rw [List.getElem?_take,if_pos (by omega)] at hk
   have he:=(QlJ _ _).1 he
   simp only [Qae.mk.injEq] at he
   exact h.ok.once i k _ _ (by omega) e hk ⟨he.1,he.2.1,he.2.2⟩
  show Qa4 n [] [] ((n.arcs.take i).foldl (fun m a=>mPut Qae.keq m (Qae.mk a.from_ a.to_ a.profile) true) []) (i:Int)=_
  unfold Qa4
  have l3:loopF (fun s:List Qaa×Int=>Qcb n [] ((n.arcs.take i).foldl (fun m a=>mPut Qae.keq m (Qae.mk a.from_ a.to_ a.profile) true) []) (i:Int) n.arcs[i] [] s.1 s.2) ([],0)=some []:=QhY 1 (by decide) rfl
  rw [Qc2 (by simp [lenI]; omega),QaR e,Qak,Qkd (h.ok.all _ (List.getElem_mem hi)) hseen,Qak,l3,Qak]
  unfold Qbl
  rw [Qak,hadd,List.take_add_one,e,Option.toList_some,List.foldl_append]
  rfl) (by
  show Qa4 n [] [] ((n.arcs.take n.arcs.length).foldl (fun m a=>mPut Qae.keq m (Qae.mk a.from_ a.to_ a.profile) true) []) (n.arcs.length:Int)=_
  unfold Qa4
  rw [Qb5 (by simp [lenI])])
 rw [l2,Qak]
end Go.Proofs.YtpkkaboonnedfaaDoor
namespace Go.Proofs.YtpkkaboonnedfaaDoor
set_option linter.unusedSimpArgs false
set_option linter.unusedVariables false
set_option linter.unusedSectionVars false
def tickP (t:Int):Prop:=0≤t∧t≤4096
instance (t:Int):Decidable (tickP t):=inferInstanceAs (Decidable (0≤t∧t≤4096))
structure Qib (l:List Qab) (t ticks:Int) (m:List Qab):Prop where
 len:m.length≤16
 all:∀ i,i<m.length→okS m i
 sum:∀ u,QbU m u=QbU l u+if t≤u then ticks else 0
section
variable {l : List Qab} {t ticks : Int}
theorem QfY (p:Qab) (u:Int):QbU [p] u=if p.t≤u then p.a else 0:=by simp [QbU]
theorem Qiz {a b:List Qab} (h:∀ i,i<a.length→okS a i) {i:Nat} (hi:i<a.length):okS (a++b) i:=fun p hp=>by
 rw [List.getElem?_append_left hi] at hp
 obtain ⟨h1,h2,h3,h4,h5⟩:=h i hi p hp
 refine ⟨h1,h2,h3,h4,fun h0 q hq=>?_⟩
 rw [List.getElem?_append_left (by omega)] at hq
 exact h5 h0 q hq
theorem Qlk {a:List Qab} {p:Qab} (h:∀ i,i<(a++[p]).length→okS (a++[p]) i) {i:Nat} (hi:i<a.length):okS a i:=fun q hq=>by
 obtain ⟨h1,h2,h3,h4,h5⟩:=h i (by rw [List.length_append]; omega) q (by rw [List.getElem?_append_left hi]; exact hq)
 refine ⟨h1,h2,h3,h4,fun h0 r hr=>?_⟩
 have:=(List.getElem?_eq_some_iff.1 hr).1
 exact h5 h0 r (by rw [List.getElem?_append_left this]; exact hr)
theorem QhD (h16:l.length≤15) (h:∀ i,i<l.length→okS l i) (ht:tickP t) (hk:tickP ticks) (hl:∀ p,l[l.length-1]?=some p→p.t<t):Qib l t ticks (l++[Qab.mk t ticks]):=by
 refine ⟨by simp; omega,fun i hi=>?_,fun u=>by rw [Qdv,QfY]⟩
 rcases Nat.lt_or_ge i l.length with hil|hil
 ·exact Qiz h hil
 ·intro p hp
  have hi':i=l.length:=by rw [List.length_append,List.length_singleton] at hi; omega
  subst hi'
  rw [List.getElem?_append_right (Nat.le_refl _)] at hp
  simp at hp
  subst hp
  refine ⟨ht.1,ht.2,hk.1,hk.2,fun h0 q hq=>?_⟩
  rw [List.getElem?_append_left (by omega)] at hq
  exact hl q hq
theorem Qjx (h16:l.length≤16) (h:∀ i,i<l.length→okS l i) (ht:tickP t) (hk:tickP ticks):post (Qda l t ticks) fun r=>(r.2=0∨r.2=2∨r.2=4)∧(r.2=0→Qib l t ticks r.1):=by
 have no:∀ {e:Int},(e=2∨e=4)→post (some (([]:List Qab),e)) fun r=>(r.2=0∨r.2=2∨r.2=4)∧(r.2=0→Qib l t ticks r.1):=fun {e} he=>Qaw.2 ⟨.inr he,fun h=>by
  have:e=0:=h
  omega⟩
 unfold Qda
 refine Qa5 (QdP (by omega)) (QaL (fun hb=>?_) (fun hb=>QaL (fun _=>no (.inr rfl)) (fun hb2=>Qa5 (QdP (by simp; omega)) (Qaw.2 ⟨.inl rfl,fun _=>?_⟩))))
 ·have h0:0<l.length:=by
   rcases Nat.eq_zero_or_pos l.length with h0|h0
   ·rw [geI_t,lenI,h0,subI (by omega) (by omega)] at hb; omega
   ·exact h0
  have hs:subK .i64 (lenI l) 1=((l.length-1:Nat):Int):=by unfold lenI; rw [subI (by omega) (by omega)]; omega
  have e1:l[l.length-1]?=some (l[l.length-1]'(by omega)):=List.getElem?_eq_getElem _
  rw [hs,QaR e1,Qak]
  generalize hp:l[l.length-1]'(by omega)=p at e1
  obtain ⟨p1,p2,p3,p4,p5⟩:=h _ (by omega) p e1
  refine QaL (fun _=>no (.inl rfl)) (fun hlt=>QaL (fun heq=>QaL (fun _=>no (.inl rfl)) (fun hle=>Qaw.2 ⟨.inl rfl,fun _=>?_⟩)) (fun hne=>QaL (fun _=>no (.inr rfl)) (fun hb2=>Qa5 (QdP (by simp; omega)) (Qaw.2 ⟨.inl rfl,fun _=>?_⟩))))
  ·rw [eqI_t] at heq
   rw [addI (by unfold tickP at *; omega) (by unfold tickP at *; omega)] at hle ⊢
   rw [gtI_f] at hle
   obtain ⟨l0,hl0⟩:∃ l0,l=l0++[p]:=⟨l.dropLast,by
    have hne:l≠[]:=List.length_pos_iff.1 h0
    have:=List.dropLast_concat_getLast hne
    rw [List.getLast_eq_getElem,hp] at this
    exact this.symm⟩
   subst hl0
   have hlen:(l0++[p]).length-1=l0.length:=by simp
   have hset:setI (l0++[p]) (((l0++[p]).length-1:Nat):Int) (Qab.mk p.t (p.a+ticks))=l0++[Qab.mk p.t (p.a+ticks)]:=by
    unfold setI
    rw [Int.toNat_natCast,hlen,List.set_append_right _ _ (Nat.le_refl _)]
    simp
   rw [hset]
   refine ⟨by simpa using h16,fun i hi=>?_,fun u=>?_⟩
   ·rcases Nat.lt_or_ge i l0.length with hil|hil
    ·exact Qiz (fun j hj=>Qlk h hj) hil
    ·have hi':i=l0.length:=by rw [List.length_append,List.length_singleton] at hi; omega
     subst hi'
     intro q hq
     rw [List.getElem?_append_right (Nat.le_refl _)] at hq
     simp at hq
     subst hq
     unfold tickP at hk
     refine ⟨p1,p2,by show 0≤p.a+ticks; omega,by show p.a+ticks≤4096; omega,fun h0 r hr=>?_⟩
     refine p5 (by rw [hlen]; exact h0) r ?_
     rw [List.getElem?_append_left (by omega)] at hr
     rw [hlen,List.getElem?_append_left (by omega)]
     exact hr
   ·rw [Qdv,Qdv,QfY,QfY]
    show QbU l0 u+(if p.t≤u then p.a+ticks else 0)=QbU l0 u+(if p.t≤u then p.a else 0)+_
    rw [heq]
    split <;> omega
  ·rw [ltI_f] at hlt
   rw [eqI_f] at hne
   rw [geI_f,lenI] at hb2
   exact QhD (by omega) h ht hk fun q hq=>by rw [e1] at hq; cases hq; omega
 ·rw [geI_f,lenI] at hb2
  refine QhD (by omega) h ht hk fun p hp=>?_
  exfalso
  have:=(List.getElem?_eq_some_iff.1 hp).1
  rw [geI_f,lenI,subI (by omega) (by omega)] at hb
  omega
end
section
variable {n m : Qac} {from_ to_ t ticks : Int} {a b : Qad}
def hitA (from_ to_:Int) (a:Qad):Bool:=eqI a.from_ from_&&eqI a.to_ to_
structure UpdA (from_ to_ t ticks:Int) (a b:Qad):Prop where
 way:b.from_=a.from_∧b.to_=a.to_∧b.profile=a.profile
 miles:b.miles=a.miles
 travel:b.travel=a.travel
 no:hitA from_ to_ a=false→b=a
 yes:hitA from_ to_ a=true→Qib a.slow t ticks b.slow
structure SlowN (from_ to_ t ticks:Int) (n m:Qac):Prop where
 tickT:tickP t
 tickK:tickP ticks
 places:m.places=n.places
 len:m.arcs.length=n.arcs.length
 arc:∀ (i:Nat) (a:Qad),n.arcs[i]?=some a→∃ b,m.arcs[i]?=some b∧UpdA from_ to_ t ticks a b
theorem hit_f:((neI a.from_ from_)||(neI a.to_ to_))=!hitA from_ to_ a:=by
 unfold hitA
 rw [Bool.eq_iff_iff,Bool.not_eq_true',Bool.and_eq_false_iff,Bool.or_eq_true,neI_t,neI_t,eqI_f,eqI_f]
theorem Qh6 (hok:NetOK n) (hf:QcQ n from_=true) (ht:QcQ n to_=true):post (Qch n from_ to_ t ticks) fun r=>(r.2=0→SlowN from_ to_ t ticks n r.1)∧(r.2≠0→(r.2=12∨r.2=2∨r.2=4)∧r.1=Qac.mk [] []):=by
 have hal:=hok.arcs
 have no:∀ {e:Int},(e=12∨e=2∨e=4)→post (some (Qac.mk [] [],e)) fun r=>(r.2=0→SlowN from_ to_ t ticks n r.1)∧(r.2≠0→(r.2=12∨r.2=2∨r.2=4)∧r.1=Qac.mk [] []):=fun {e} he=>Qaw.2 ⟨fun h=>by
  have:e=0:=h
  omega,fun _=>⟨he,rfl⟩⟩
 have tk:∀ u:Int,Qa9 u=some (decide (tickP u)):=fun u=>by
  unfold Qa9
  congr 1
  rw [Bool.eq_iff_iff,andT,geI_t,leI_t,decide_eq_true_iff]
  rfl
 unfold Qch
 rw [QfU,Qak,hf,QdR,QfU,Qak,ht,QdR,tk,Qak]
 refine QaL (fun h1=>?_) (fun _=>no (by omega))
 rw [tk,Qak]
 refine QaL (fun h2=>?_) (fun _=>no (by omega))
 have h1:tickP t:=of_decide_eq_true h1
 have h2:tickP ticks:=of_decide_eq_true h2
 refine Qa5 (QdP (by omega)) (QaZ (R:=fun e:(List Qad×Bool)⊕(Qac×Int)=>(∀ l f,e=.inl (l,f)→l.length=n.arcs.length∧∀ (i:Nat) (a:Qad),n.arcs[i]?=some a→∃ b,l[i]?=some b∧UpdA from_ to_ t ticks a b)∧∀ r,e=.inr r→(r.2=2∨r.2=4)∧r.1=Qac.mk [] []) ?_ ?_)
 ·refine QdX (fun s:List Qad×Bool×Int=>∃ k:Nat,s.2.2=(k:Int)∧k≤n.arcs.length∧s.1.length=n.arcs.length∧∀ (i:Nat) (a:Qad),n.arcs[i]?=some a→∃ b,s.1[i]?=some b∧(i<k→UpdA from_ to_ t ticks a b)∧(k≤i→b=a)) (fun s=>n.arcs.length-s.2.2.toNat) ⟨0,rfl,Nat.zero_le _,rfl,fun i a h=>⟨a,h,fun h=>by omega,fun _=>rfl⟩⟩ (by simp; omega) ?_
  rintro ⟨l,f,_⟩ ⟨k,rfl,hk,hlen,hall⟩
  show post (Qbt n from_ to_ t ticks l f (k:Int)) _
  unfold Qbt
  refine QaL (fun hb=>?_) (fun hb=>QdH ⟨fun l' f' h=>?_,fun r h=>by cases h⟩)
  ·simp only [ltI_t,lenI] at hb
   have hk':k<n.arcs.length:=by omega
   have e1:n.arcs[k]?=some n.arcs[k]:=List.getElem?_eq_getElem hk'
   obtain ⟨b,hb1,-,hb2⟩:=hall k _ e1
   have hb2:=hb2 (Nat.le_refl _)
   subst hb2
   have hA:=hok.all _ (List.getElem_mem hk')
   have ek:addK .i64 (k:Int) 1=((k+1:Nat):Int):=(addI (by omega) (by omega)).trans (by omega)
   have hlen':l.length=n.arcs.length:=hlen
   have hlt:k<l.length:=by omega
   rw [QaR hb1,Qak,hit_f,ek]
   have dec:n.arcs.length-((k+1:Nat):Int).toNat<n.arcs.length-(k:Int).toNat:=by omega
   cases hh:hitA from_ to_ n.arcs[k] with
   | false =>
    rw [Bool.not_false,QdR]
    refine Qfk ⟨⟨k+1,rfl,hk',hlen,fun i a hi=>?_⟩,dec⟩
    obtain ⟨b,h3,h4,h5⟩:=hall i a hi
    refine ⟨b,h3,fun hik=>?_,fun hik=>h5 (by omega)⟩
    rcases Nat.lt_or_ge i k with hlt|hge
    ·exact h4 hlt
    ·obtain rfl:i=k:=by omega
     rw [e1] at hi; cases hi
     rw [h5 (by omega)]
     exact ⟨⟨rfl,rfl,rfl⟩,rfl,rfl,fun _=>rfl,fun h=>by rw [hh] at h; cases h⟩
   | true =>
    rw [Bool.not_true,Qg6]
    obtain ⟨r,hr,hr1,hr2⟩:=Qjx hA.slow hA.slowAll h1 h2
    rw [hr,Qak]
    refine QaL (fun hne=>QdH ⟨fun l' f' h=>(by cases h),fun r' h=>?_⟩) (fun he=>Qfk ⟨⟨k+1,rfl,hk',by simp [setI,hlen],fun i a hi=>?_⟩,dec⟩)
    ·cases h
     rw [neI_t] at hne
     exact ⟨by show r.2=2∨r.2=4; omega,rfl⟩
    ·rw [neI_f] at he
     obtain ⟨b,h3,h4,h5⟩:=hall i a hi
     show ∃ b,(setI l (k:Int) _)[i]?=some b∧_
     unfold setI
     rw [Int.toNat_natCast,List.getElem?_set]
     by_cases hki:k=i
     ·subst hki
      rw [if_pos rfl,if_pos hlt]
      rw [e1] at hi; cases hi
      exact ⟨_,rfl,fun _=>⟨⟨rfl,rfl,rfl⟩,rfl,rfl,fun h=>(by rw [hh] at h; cases h),fun _=>hr2 he⟩,fun h=>by omega⟩
     ·rw [if_neg hki]
      exact ⟨b,h3,fun h=>h4 (by omega),fun h=>h5 (by omega)⟩
  ·cases h
   simp only [ltI_f,lenI] at hb
   refine ⟨hlen,fun i a hi=>?_⟩
   obtain ⟨b,h3,h4,h5⟩:=hall i a hi
   exact ⟨b,h3,h4 (by have:=(List.getElem?_eq_some_iff.1 hi).1; omega)⟩
 ·rintro e ⟨g1,g2⟩
  cases e with
  | inl x =>
   obtain ⟨l,f⟩:=x
   rw [QkS]
   obtain ⟨g3,g4⟩:=g1 l f rfl
   exact QaL (fun _=>Qaw.2 ⟨fun _=>⟨h1,h2,rfl,g3,g4⟩,fun h=>absurd rfl h⟩) (fun _=>no (by omega))
  | inr r =>
   rw [QlP]
   obtain ⟨g3,g4⟩:=g2 r rfl
   exact Qaw.2 ⟨fun h=>by omega,fun _=>⟨by omega,g4⟩⟩
theorem SlowN.arcOK (h:SlowN from_ to_ t ticks n m) (hok:NetOK n) {i:Nat} {b:Qad} (hb:m.arcs[i]?=some b):∃ a,n.arcs[i]?=some a∧UpdA from_ to_ t ticks a b∧ArcOK n.places.length a∧ArcOK m.places.length b:=by
 have hi:=(List.getElem?_eq_some_iff.1 hb).1
 rw [h.len] at hi
 have e:n.arcs[i]?=some n.arcs[i]:=List.getElem?_eq_getElem hi
 obtain ⟨b',hb',hU⟩:=h.arc i _ e
 rw [hb] at hb'
 cases hb'
 have hA:=hok.all _ (List.getElem_mem hi)
 refine ⟨_,e,hU,hA,?_⟩
 obtain ⟨w1,w2,w3⟩:=hU.way
 rw [h.places]
 have hs:b.slow.length≤16∧∀ i,i<b.slow.length→okS b.slow i:=by
  cases hh:hitA from_ to_ n.arcs[i] with
  | true=>have:=hU.yes hh; exact ⟨this.len,this.all⟩
  | false=>rw [hU.no hh]; exact ⟨hA.slow,hA.slowAll⟩
 exact ⟨by rw [w1]; exact hA.from0,by rw [w1]; exact hA.from1,by rw [w2]; exact hA.to0,by rw [w2]; exact hA.to1,by rw [w3]; exact hA.prof0,by rw [w3]; exact hA.prof1,by rw [hU.miles]; exact hA.miles0,by rw [hU.miles]; exact hA.miles1,by rw [w1,w2]; exact hA.ne,by rw [hU.travel]; exact hA.travel,hs.1,hs.2⟩
theorem SlowN.full (h:SlowN from_ to_ t ticks n m) (hok:Qhs n):Qhs m:=by
 refine ⟨⟨by rw [h.places]; exact hok.ok.places,by rw [h.len]; exact hok.ok.arcs,fun b hb=>?_,fun i k a b hk ha hb hs=>?_⟩,by rw [h.places]; exact hok.names⟩
 ·obtain ⟨i,hi⟩:=List.getElem?_of_mem hb
  obtain ⟨_,_,_,_,h4⟩:=h.arcOK hok.ok hi
  exact h4
 ·obtain ⟨a',ha',ua,_,_⟩:=h.arcOK hok.ok ha
  obtain ⟨b',hb',ub,_,_⟩:=h.arcOK hok.ok hb
  obtain ⟨s1,s2,s3⟩:=hs
  obtain ⟨u1,u2,u3⟩:=ua.way
  obtain ⟨v1,v2,v3⟩:=ub.way
  exact hok.ok.once i k a' b' hk ha' hb' ⟨by rw [← u1,← v1]; exact s1,by rw [← u2,← v2]; exact s2,by rw [← u3,← v3]; exact s3⟩
theorem Qk2 (hok:NetOK n) {i:Nat} (ha:n.arcs[i]?=some a):findA n a.profile a.from_ a.to_=(a,true):=by
 unfold findA
 cases hf:n.arcs.find? (isArc a.profile a.from_ a.to_) with
 | none =>
  have:=List.find?_eq_none.1 hf a (List.mem_of_getElem? ha)
  exact absurd (by unfold isArc; simp) this
 | some b =>
  have hm:=List.mem_of_find?_eq_some hf
  have hp:=List.find?_some hf
  unfold isArc at hp
  rw [decide_eq_true_eq] at hp
  obtain ⟨k,hk⟩:=List.getElem?_of_mem hm
  rcases Nat.lt_trichotomy i k with h|h|h
  ·exact absurd ⟨hp.1,hp.2.1,hp.2.2⟩ (hok.once k i b a h hk ha)
  ·subst h
   rw [ha] at hk; cases hk; rfl
  ·exact absurd ⟨hp.1.symm,hp.2.1.symm,hp.2.2.symm⟩ (hok.once i k a b h ha hk)
theorem go_own (hok:NetOK n) {i:Nat} (ha:n.arcs[i]?=some a) {u:Int}:goN n a.profile a.from_ a.to_ u=(arrA a u,a.miles,0):=by
 have hA:=hok.all _ (List.mem_of_getElem? ha)
 have f0:=hA.from0; have f1:=hA.from1; have t0:=hA.to0; have t1:=hA.to1
 unfold goN
 rw [if_pos ⟨by unfold QcQ; simp; omega,by unfold QcQ; simp; omega⟩,if_neg hA.ne,Qk2 hok ha,if_pos rfl]
theorem Qfq (n:Qac) (hn:NetI n) (from_ to_ t ticks other:Int) (ho:0≤other∧other≤65535):Qbi n from_ to_ t ticks other=some true:=by
 apply post.eq
 unfold Qbi
 rw [Qhx]
 have hright:post (Qb7 n) fun r=>r=true→Qhs n∧n.arcs.length≤60:=by
  unfold Qb7
  refine QaL (fun h=>?_) (fun _=>Qaw.2 fun h=>by cases h)
  obtain ⟨r,hr,hE⟩:=QeT hn
  rw [hr,Qak]
  refine Qaw.2 fun h'=>?_
  simp only [eqI_t,lenI] at h'
  have:r=[]:=List.length_eq_zero_iff.1 (by omega)
  subst this
  simp only [leI_t,lenI] at h
  exact ⟨QjT hn hr,by omega⟩
 refine QaZ hright fun r hr=>QaL (fun _=>Qaw.2 rfl) (fun h=>?_)
 simp only [orF,ntF,ltI_f,geI_f,lenI] at h
 obtain ⟨⟨⟨⟨h1,h2⟩,h3⟩,h4⟩,h5⟩:=h
 obtain ⟨hF,h60⟩:=hr h1
 have hok:=hF.ok
 refine QaZ (Qh6 (t:=t) (ticks:=ticks) hok (by unfold QcQ; simp; omega) (by unfold QcQ; simp; omega)) fun r2 hr2=>QaL (fun hne=>?_) (fun he=>?_)
 ·rw [neI_t] at hne
  obtain ⟨g1,g2⟩:=hr2.2 hne
  rw [g2]
  rw [Qc2 (by simp [lenI]; omega)]
  exact Qaw.2 rfl
 ·rw [neI_f] at he
  have hS:=hr2.1 he
  have hM:=hS.full hF
  rw [Qb5 (by simp [lenI,hS.len,hS.places])]
  have hcv:cvK .i64 other=other:=cvI (by omega) (by omega)
  have hloop:loopF (fun s=>Qaq n from_ to_ t ticks other r2 s) 0=some (.inl ()):=by
   refine Qfi n.arcs.length (fun k=>(k:Int)) (B:=fun s=>Qaq n from_ to_ t ticks other r2 s) (by omega) (fun i hi=>?_) (by
    show Qaq n from_ to_ t ticks other r2 (n.arcs.length:Int)=_
    unfold Qaq
    rw [Qb5 (by simp [lenI])])
   have e:n.arcs[i]?=some n.arcs[i]:=List.getElem?_eq_getElem hi
   obtain ⟨b,hb,hU⟩:=hS.arc i _ e
   have hA:=hok.all _ (List.getElem_mem hi)
   have hB:=hM.ok.all b (List.mem_of_getElem? hb)
   have ek:addK .i64 (i:Int) 1=((i+1:Nat):Int):=(addI (by omega) (by omega)).trans (by omega)
   show Qaq n from_ to_ t ticks other r2 (i:Int)=_
   unfold Qaq
   rw [Qc2 (by simp [lenI]; omega),QaR e,Qak,hit_f,ek]
   generalize n.arcs[i]=a at e hU hA
   cases hh:hitA from_ to_ a with
   | false =>
    have hba:=hU.no hh
    subst hba
    rw [Bool.not_false,QdR,QaR hb,Qak,Qh4 (by have:=hA.travel.most; omega) (by have:=hA.slow; omega),Qak,QdR]
   | true =>
    have hL:=hU.yes hh
    obtain ⟨w1,w2,w3⟩:=hU.way
    unfold hitA at hh
    rw [Bool.and_eq_true,eqI_t,eqI_t] at hh
    obtain ⟨hf,htt⟩:=hh
    have hT:=hS.tickT
    have hK:=hS.tickK
    unfold tickP at hT hK
    have gn:∀ u,0≤u→u≤65535→QbJ n a.profile from_ to_ u=some (arrA a u,a.miles,0):=fun u h0 h1=>by
     rw [← hf,← htt,go_eq hok _ _ _ ⟨h0,by omega⟩,go_own hok e]
    have gm:∀ u,0≤u→u≤65535→QbJ r2.1 a.profile from_ to_ u=some (arrA b u,b.miles,0):=fun u h0 h1=>by
     rw [← hf,← htt,← w1,← w2,← w3,go_eq hM.ok _ _ _ ⟨h0,by omega⟩,go_own hM.ok hb]
    have sum:∀ u,arrA b u=arrA a u+if t≤u then ticks else 0:=fun u=>by
     unfold arrA
     rw [hU.travel,hL.sum]
     omega
    have bd:∀ u,0≤u→u≤65535→0≤arrA a u∧arrA a u≤200000:=fun u h0 h1=>by
     have:=Qly hA u
     have:=Qlz hA (t:=u) h0
     omega
    have b1:=bd t hT.1 (by omega)
    have b2:=bd other ho.1 ho.2
    have s1:=sum t
    have s2:=sum other
    rw [if_pos (Int.le_refl _)] at s1
    rw [Bool.not_true,Qg6,gn t hT.1 (by omega),Qak,gm t hT.1 (by omega),Qak,subI (by omega) (by omega),Qb5 (by simp; omega),hcv,gn other ho.1 ho.2,Qak,gm other ho.1 ho.2,Qak]
    unfold QaQ
    by_cases hto:t≤other
    ·rw [if_pos hto] at s2
     rw [Qc2 (by rw [geI_t]; exact hto),subI (by omega) (by omega),Qb5 (by simp; omega),ek]
    ·rw [if_neg hto] at s2
     rw [Qb5 (by rw [geI_f]; omega),Qb5 (by simp; omega),ek]
  rw [QlA hloop,QkS,QfA hM,Qak,Qc2 (by simp [lenI])]
  exact Qaw.2 rfl
theorem Ql0 {n:Int} (h:(Lit.int .u16 n).wf=true):0≤n∧n≤65535:=by
 simp only [Lit.wf,Bool.and_eq_true,decide_eq_true_eq] at h
 exact h
end
end Go.Proofs.YtpkkaboonnedfaaDoor
