/- Part MY of the proof: texts Kxa Kya Kyb Kyc Kyd Kye Kyf Kyg Kyh Kyi Kyj Kyk Kyl Kym Kyn Kyo Kyp Kyq Kyr. -/
import Derived.Test.YtbilkblifgaflaaGreatDoorMP
import Derived.Test.YtbilkblifgaflaaGreatDoorMR
import Derived.Test.YtbilkblifgaflaaGreatDoorMQ
import Derived.Test.YtbilkblifgaflaaGreatDoorMX
namespace Go.Proofs.YtbilkblifgaflaaGreatDoor
set_option linter.unusedSimpArgs false
set_option linter.unusedVariables false
set_option linter.unusedSectionVars false
theorem QBW (s:ByteArray):∀ (k i:Nat) (r:List UInt8),s.size-i=k→(ByteArray.toList.loop s i r).length=r.length+k:=by
 intro k
 induction k with
 | zero =>
  intro i r h
  unfold ByteArray.toList.loop
  rw [if_neg (by omega)]
  simp
 | succ k ih =>
  intro i r h
  unfold ByteArray.toList.loop
  rw [if_pos (by omega),ih (i+1) _ (by omega)]
  simp; omega
theorem QAe (s:ByteArray):s.toList.length=s.size:=by
 unfold ByteArray.toList
 rw [QBW s s.size 0 [] (by omega)]
 simp
theorem QCF (s:ByteArray):QqW s=QdO s:=by
 have e:(eqS s ByteArray.empty||gtI (Qx2 s) 16)=(ltI (Qx2 s) 1||gtI (Qx2 s) 16):=by
  congr 1
  rw [Bool.eq_iff_iff,Qou]
  unfold eqS Qx2
  rw [beq_iff_eq]
  have hl:=QAe s
  have he:ByteArray.empty.toList=[]:=List.eq_nil_of_length_eq_zero (by rw [QAe]; rfl)
  rw [he]
  constructor
  ·intro h
   rw [h] at hl
   simp at hl
   omega
  ·intro h
   exact List.eq_nil_of_length_eq_zero (by omega)
 unfold QqW QdO
 rw [e]
 rfl
section
variable {K V : Type} {eq : K → K → Bool}
theorem QD5 (he:∀ a b,eq a b=true↔a=b) {m:List (K×V)} {k k':K} {v z:V}:mGet eq (mPut eq m k v) k' z=bif eq k' k then v else mGet eq m k' z:=by
 induction m with
 | nil=>rfl
 | cons p r ih =>
  unfold mPut
  cases h1:eq k p.1 with
  | true =>
   have h1':=(he _ _).1 h1
   unfold mGet
   simp only [cond_true,h1']
   cases eq k' p.1 <;> rfl
  | false =>
   show mGet eq (p :: mPut eq r k v) k' z=_
   unfold mGet
   cases h2:eq k' p.1 with
   | true =>
    have h2':=(he _ _).1 h2
    have:eq k' k=false:=by
     cases h3:eq k' k with
     | false=>rfl
     | true =>
      have:=(he _ _).1 h3
      rw [← this,h2'] at h1
      rw [(he _ _).2 rfl] at h1
      cases h1
    rw [this]; rfl
   | false =>
    simp only [cond_false]
    exact ih
theorem QC4 (he:∀ a b,eq a b=true↔a=b) {α:Type} (f:α→K) (l:List α):∀ k:K,mGet eq (l.foldl (fun m a=>mPut eq m (f a) true) []) k false=l.any fun a=>eq k (f a):=by
 have key:∀ (l:List α) (m:List (K×Bool)) (k:K),mGet eq (l.foldl (fun m a=>mPut eq m (f a) true) m) k false=(mGet eq m k false||l.any fun a=>eq k (f a)):=by
  intro l
  induction l with
  | nil=>intro m k; simp
  | cons a r ih =>
   intro m k
   rw [List.foldl_cons,ih,QD5 he,List.any_cons]
   cases eq k (f a) with
   | true=>simp
   | false=>simp
 intro k
 rw [key]
 rfl
end
theorem QHk (a b:ByteArray):eqY a b=true↔a=b:=by
 cases a with
 | mk x =>
  cases b with
  | mk y =>
   show (x == y)=true↔_
   rw [beq_iff_eq,ByteArray.mk.injEq]
theorem QHP (a b:Qar):Qar.keq a b=true↔a=b:=by
 cases a; cases b
 simp [Qar.keq,Qar.mk.injEq]
end Go.Proofs.YtbilkblifgaflaaGreatDoor
namespace Go.Proofs.YtbilkblifgaflaaGreatDoor
set_option linter.unusedSimpArgs false
set_option linter.unusedVariables false
set_option linter.unusedSectionVars false
section
variable {α β : Type}
theorem QEB {p:Prop} [Decidable p] {x:Option α} {K:α→Option β}:bnd (chk p x) K=chk p (bnd x K):=by unfold chk; split <;> rfl
theorem Qu9 {K:α→Option β}:bnd none K=none:=rfl
theorem Qyc {b:Bool} {x y:Option α}:br (!b) x y=br b y x:=by cases b <;> rfl
theorem QqB {o:Option α} {f g:α→Option β} (h:∀ a,f a=g a):bnd o f=bnd o g:=by cases o with|none=>rfl|some a=>exact h a
theorem QEm {l:List α} {i:Nat} (hi:i≤l.length):slcI l 0 (i:Int)=some (l.take i):=by unfold slcI; rw [if_pos (by omega)]; simp
theorem QE3 {l:List α} {i k:Nat} {a:α} (h:(l.take i)[k]?=some a):k<i∧l[k]?=some a:=by
 have hk:=(List.getElem?_eq_some_iff.1 h).1
 rw [List.length_take] at hk
 rw [List.getElem?_take,if_pos (by omega)] at h
 exact ⟨by omega,h⟩
end
section
variable {r b : Bool} {e : Int} {c : List Int} {K J : List Int → Option (List Int)} {β : Type}
theorem QHF:bnd (QaL b e c) K=br b (K c) (chk (okN (c++[e]).length 8) (K (c++[e]))):=by
 unfold QaL
 cases b with
 | true=>rfl
 | false=>rw [QcA,QcA,QEB,Qan]
theorem Qz3 (hK:∀ c,K c=J c):bnd (QaL b e c) K=br b (J c) (chk (okN (c++[e]).length 8) (J (c++[e]))):=by rw [QHF,hK,hK]
theorem QG8 (hK:∀ c,K c=J c):bnd (QaL (!b) e c) K=br b (chk (okN (c++[e]).length 8) (J (c++[e]))) (J c):=by rw [QHF,hK,hK,Qyc]
theorem QA0 (hK:∀ c,K c=J c):bnd (QaL false e c) K=chk (okN (c++[e]).length 8) (J (c++[e])):=by rw [QHF,hK,hK,QcA]
theorem in10 {n lo hi:Int} {K J:Bool→Option β} (h:∀ b,K b=J b):bnd (Qa5 n lo hi) K=bnd (QaU n lo hi) J:=h _
theorem QGt {b:Bool} {n lo hi:Int} (hK:∀ c,K c=J c):br b (bnd (Qa5 n lo hi) fun r=>bnd (QaL r e c) K) (bnd (QaL false e c) K)=br b (bnd (QaU n lo hi) fun r=>br r (J c) (chk (okN (c++[e]).length 8) (J (c++[e])))) (chk (okN (c++[e]).length 8) (J (c++[e]))):=by
 cases b with
 | true=>rw [QdY,QdY]; exact in10 fun b=>Qz3 hK
 | false=>rw [QcA,QcA]; exact QA0 hK
end
theorem QGK {l:List Qaf} {t:Qaf} (hl:l.length≤1048576):Qbd l t=some (l.any fun a=>eqS a.name t.name):=by
 unfold Qbd QbL
 have:=QAT hl (fun a:Qaf=>eqS a.name t.name) (fun k=>(.inr (k:Int):Unit⊕Int)) (N:=.inl ()) (B:=fun s=>QaF l t s) (fun i a h=>by
  show QaF l t i=_
  unfold QaF Qng
  rw [QhW h,Qan,incL h hl,brs]) (by
  show QaF l t l.length=_
  unfold QaF
  rw [QfS])
 rw [Qfs this,← Qy6]
 unfold ixI
 cases ixP (fun a:Qaf=>eqS a.name t.name) l <;> rfl
theorem QCq {l:List Qaf} {i:Nat} {s:ByteArray} (hi:i≤l.length) (hl:l.length≤1048576):QfW l (i:Int) s=some ((l.take i).any fun a=>eqS a.name s):=by
 have hlen:(l.take i).length=i:=by rw [List.length_take]; omega
 unfold QfW
 rw [Qfs (Qoc (B:=fun x=>Qbu l (i:Int) s x) (l:=l.take i) (by omega) (fun a=>eqS a.name s) (y:=(.inr true:Unit⊕Bool)) (N:=.inl ()) (fun k a h=>by
  obtain ⟨h1,h2⟩:=QE3 h
  show Qbu l (i:Int) s (k:Int)=_
  unfold Qbu
  rw [Qbp (by simp; omega),QaZ h2,Qan,incL h2 hl,brs]) (by
  rw [hlen]
  show Qbu l (i:Int) s (i:Int)=_
  unfold Qbu
  rw [Qby (by simp)]))]
 cases (l.take i).any fun a=>eqS a.name s <;> rfl
theorem QHI {c d:List Int} (hc:c.length≤1048576):Qio c d=Qdz c (lenI d):=by
 unfold Qio Qdz
 refine in10 fun b=>?_
 have h1:Qbz c=some (c.any fun n=>!(geI n 0&&leI n 1000)):=by
  unfold Qbz Qct
  have:=QAT hc (fun n:Int=>!(geI n 0&&leI n 1000)) (fun k=>(.inr (k:Int):Unit⊕Int)) (N:=.inl ()) (B:=fun s=>QaS c s) (fun i a h=>by
   show QaS c i=_
   unfold QaS QjN Qa5
   rw [QhW h,Qan,Qan,incL h hc,brs]) (by
   show QaS c c.length=_
   unfold QaS
   rw [QfS])
  rw [Qfs this,← Qy6]
  unfold ixI
  cases ixP (fun n:Int=>!(geI n 0&&leI n 1000)) c <;> rfl
 have h2:QaX (fun s=>Qa6 c s) 0=some (if (c.any fun n=>!(geI n 0&&leI n 1000))=true then (.inr false:Unit⊕Bool) else .inl ()):=Qoc (B:=fun s=>Qa6 c s) hc (fun n=>!(geI n 0&&leI n 1000)) (fun i a h=>by
  show Qa6 c i=_
  unfold Qa6 QaU
  rw [QhW h,Qan,incL h hc]
  cases (geI a 0&&leI a 1000) <;> rfl) (by
  show Qa6 c c.length=_
  unfold Qa6
  rw [QfS])
 rw [h1,Qan,Qfs h2]
 cases c.any fun n=>!(geI n 0&&leI n 1000) <;> rfl
theorem QF1 {n:Qag} {l:List Qaf} (hl:l.length≤1048576) (hI:∀ t∈l,t.cap.length≤1048576) (i:Int):QnI n l i=Qel n l i:=by
 unfold QnI Qel
 cases hg:getI l i with
 | none=>rfl
 | some t =>
  obtain ⟨k,rfl⟩:∃ k:Nat,i=k:=by
   unfold getI at hg
   split at hg
   ·exact ⟨i.toNat,by omega⟩
   ·cases hg
  have hk:l[k]?=some t:=by
   unfold getI at hg
   rw [if_pos (by omega),Int.toNat_natCast] at hg
   exact hg
  have hkl:=(List.getElem?_eq_some_iff.1 hk).1
  have hcap:=hI t (List.mem_of_getElem? hk)
  obtain ⟨t0,ht0⟩:∃ t0,l[0]?=some t0:=⟨_,List.getElem?_eq_getElem (show 0<l.length by omega)⟩
  have hd:QfC l=some (lenI t0.cap):=by
   rw [QyW]
   cases l with
   | nil=>simp at ht0
   | cons a r=>simp at ht0; subst ht0; rfl
  rw [Qan,Qan,QCF]
  refine QqB fun r=>Qz3 (J:=fun c=>QdA n l (k:Int) t c) fun c=>?_
  unfold QdA
  rw [QEm (by omega),Qan,QGK (by rw [List.length_take]; omega),Qan,QCq (by omega) hl,Qan]
  refine QG8 (J:=fun c=>QdB n l t c) fun c=>?_
  unfold QdB
  refine in10 fun b=>Qz3 (J:=fun c=>QdC n l t c) fun c=>?_
  unfold QdC
  refine in10 fun b=>QGt (J:=fun c=>QdD l t c) fun c=>?_
  unfold QdD
  rw [show getI l 0=some t0 from QaZ (k:=0) ht0,Qan,hd,Qan,QHI hcap]
  refine QqB fun r=>Qz3 (J:=fun c=>QdE t c) fun c=>?_
  unfold QdE
  refine in10 fun b=>Qz3 (J:=fun c=>QdF t c) fun c=>?_
  unfold QdF
  refine in10 fun b=>?_
  have hb:((!b)||gtI t.close 4096)=!(b&&leI t.close 4096):=by
   rw [Bool.not_and]
   congr 1
   rw [Bool.eq_iff_iff,Qxs,Bool.not_eq_true',QD1]
  rw [hb,Qyc]
  refine Qz3 (J:=fun c=>QdG t c) fun c=>?_
  unfold QdG
  refine in10 fun b=>QGt (J:=fun c=>QdH t c) fun c=>?_
  unfold QdH
  refine in10 fun b=>?_
  cases b with
  | false=>rw [QcA,QcA]; exact QA0 (J:=fun c=>some c) fun c=>rfl
  | true =>
   rw [QdY,QdY]
   refine in10 fun b=>?_
   cases b with
   | false=>rw [QcA,QcA]; exact QA0 (J:=fun c=>some c) fun c=>rfl
   | true =>
    rw [QdY,QdY]
    refine in10 fun b=>?_
    cases b with
    | false=>rw [QcA,QcA]; exact QA0 (J:=fun c=>some c) fun c=>rfl
    | true =>
     rw [QdY,QdY]
     exact in10 fun b=>Qz3 (J:=fun c=>some c) fun c=>rfl
theorem QHJ:∀ b:Nat,b<10→∀ a:Nat,a<10→QgA ((10*b+a:Nat):Int)=Qa8 ((10*b+a:Nat):Int):=by decide +kernel
theorem QED (i:Nat) (h:i<100):QgA (i:Int)=Qa8 (i:Int):=by
 have:=QHJ (i / 10) (by omega) (i % 10) (by omega)
 rwa [show 10*(i / 10)+i % 10=i by omega] at this
theorem QDc {i:Int} (h0:0≤i) (h1:i<100):QgH i=Qa8 i:=by
 obtain ⟨k,rfl⟩:∃ k:Nat,i=k:=⟨i.toNat,by omega⟩
 unfold QgH
 rw [QED k (by omega)]
 cases Qa8 (k:Int) <;> rfl
theorem QBA {n:Qag} {l:List Qaf} (hl:l.length≤100) (hI:∀ t∈l,t.cap.length≤1048576):Qnt n l=QfV n l:=by
 have hB:∀ s:List Qaa×Int,Qhf n l s.1 s.2=Qcd n l s.1 s.2:=fun s=>by
  unfold Qhf Qcd
  rw [QF1 (by omega) hI]
  cases hb:ltI s.2 (lenI l) with
  | false=>rw [QcA,QcA]
  | true =>
   rw [QdY,QdY]
   cases hr:Qel n l s.2 with
   | none=>rw [Qu9,Qu9]
   | some r =>
    rw [Qan,Qan]
    have h0:0≤s.2:=by
     unfold Qel at hr
     obtain ⟨a,ha,_⟩:=Qae hr
     unfold getI at ha
     split at ha
     ·assumption
     ·cases ha
    rw [Qou,lenI] at hb
    have hf:∀ q:List Qaa×Int,Qhg n l s.2 r q.1 q.2=Qek n l s.2 r q.1 q.2:=fun q=>by
     unfold Qhg Qek
     rw [QDc h0 (by omega)]
    rw [show (fun q:List Qaa×Int=>Qhg n l s.2 r q.1 q.2)=fun q=>Qek n l s.2 r q.1 q.2 from funext hf]
 have hJ:∀ l1,Qin n l l1=Qej n l l1:=fun l1=>by
  unfold Qin Qej
  rw [show (fun s:List Qaa×Int=>Qhf n l s.1 s.2)=fun s=>Qcd n l s.1 s.2 from funext hB]
 unfold Qnt QfV
 rw [hJ,hJ]
 rfl
section
variable {r b : Bool} {e : Int} {c : List Int} {K J : List Int → Option (List Int)} {β : Type}
theorem QGr:bnd (QaP b e c) K=br b (K c) (chk (okN (c++[e]).length 8) (K (c++[e]))):=by
 unfold QaP
 cases b with
 | true=>rfl
 | false=>rw [QcA,QcA,QEB,Qan]
theorem QBz (hK:∀ c,K c=J c):bnd (QaP b e c) K=br b (J c) (chk (okN (c++[e]).length 8) (J (c++[e]))):=by rw [QGr,hK,hK]
theorem QC9 (hK:∀ c,K c=J c):bnd (QaP false e c) K=chk (okN (c++[e]).length 8) (J (c++[e])):=by rw [QGr,hK,hK,QcA]
theorem in11 {n lo hi:Int} {K J:Bool→Option β} (h:∀ b,K b=J b):bnd (Qdu n lo hi) K=bnd (Qb2 n lo hi) J:=h _
theorem QHH {b:Bool} {n lo hi:Int} (hK:∀ c,K c=J c):br b (bnd (Qdu n lo hi) fun r=>bnd (QaP r e c) K) (bnd (QaP false e c) K)=br b (bnd (Qb2 n lo hi) fun r=>br r (J c) (chk (okN (c++[e]).length 8) (J (c++[e])))) (chk (okN (c++[e]).length 8) (J (c++[e]))):=by
 cases b with
 | true=>rw [QdY,QdY]; exact in11 fun b=>QBz hK
 | false=>rw [QcA,QcA]; exact QC9 hK
end
theorem QFv {l:List Qac} {t:Qac} (hl:l.length≤1048576):Qa0 l t=some (l.any fun a=>eqS a.name t.name):=by
 unfold Qa0 QbD
 have:=QAT hl (fun a:Qac=>eqS a.name t.name) (fun k=>(.inr (k:Int):Unit⊕Int)) (N:=.inl ()) (B:=fun s=>QaB l t s) (fun i a h=>by
  show QaB l t i=_
  unfold QaB Qnk
  rw [QhW h,Qan,incL h hl,brs]) (by
  show QaB l t l.length=_
  unfold QaB
  rw [QfS])
 rw [Qfs this,← Qy6]
 unfold ixI
 cases ixP (fun a:Qac=>eqS a.name t.name) l <;> rfl
theorem QEj {a:List Int} {dims:Int} (ha:a.length≤1048576):Qnv a dims=Qef a dims:=by
 have h1:QaX (fun s=>QeZ a dims s) 0=some (if (a.any fun n=>ltI n 0||gtI n 1000)=true then (.inr false:Unit⊕Bool) else .inl ()):=Qoc (B:=fun s=>QeZ a dims s) ha (fun n=>ltI n 0||gtI n 1000) (fun i x h=>by
  show QeZ a dims i=_
  unfold QeZ
  rw [QhW h,incL h ha,brs]) (by
  show QeZ a dims a.length=_
  unfold QeZ
  rw [QfS])
 have h2:QaX (fun s=>Qbl a s) 0=some (if (a.any fun n=>ltI n 0||gtI n 1000)=true then (.inr false:Unit⊕Bool) else .inl ()):=Qoc (B:=fun s=>Qbl a s) ha (fun n=>ltI n 0||gtI n 1000) (fun i x h=>by
  show Qbl a i=_
  unfold Qbl
  rw [QhW h,incL h ha]
  cases ltI x 0 <;> cases gtI x 1000 <;> rfl) (by
  show Qbl a a.length=_
  unfold Qbl
  rw [QfS])
 unfold Qnv Qef
 rw [Qfs h1,Qfs h2]
 have he:neI (lenI a) dims=!eqI (lenI a) dims:=rfl
 rw [he,Qyc]
 cases (a.any fun n=>ltI n 0||gtI n 1000) <;> cases eqI (lenI a) dims <;> rfl
theorem QA7 (s:Qap):QgL s=Qcc s:=by
 unfold QgL Qnx Qcc
 have e:(eqI s.place (-1)&&(eqI s.open_ 0&&(eqI s.close 0&&(eqI s.service 0&&true))))=(((eqI s.place (-1)&&eqI s.open_ 0)&&eqI s.close 0)&&eqI s.service 0):=by
  cases eqI s.place (-1) <;> cases eqI s.open_ 0 <;> cases eqI s.close 0 <;> cases eqI s.service 0 <;> rfl
 rw [e]
 cases (((eqI s.place (-1)&&eqI s.open_ 0)&&eqI s.close 0)&&eqI s.service 0) with
 | true=>rfl
 | false =>
  rw [QcA,QcA,Qan,Qan,Qan]
  by_cases h:0≤s.place∧0≤s.open_∧s.open_≤s.close∧s.close≤4096∧0≤s.service∧s.service≤4096
  ·rw [Qbp (by rw [Qxr]; omega),Qbp (by rw [andT,Qxr,QzK]; omega),Qbp (by rw [andT,andT,Qxr,QzK,QzK]; omega),Qbp (by rw [andT,Qxr,QzK]; omega),Qby (by simp only [orF,Qtb,Qu6]; omega)]
  ·rw [Qbp (b:=((((((ltI s.place 0)||(ltI s.open_ 0))||(gtI s.open_ s.close))||(gtI s.close 4096))||(ltI s.service 0))||(gtI s.service 4096))) (by simp only [orT,Qou,Qxs]; omega)]
   cases h1:geI s.place 0 with
   | false=>rfl
   | true =>
    cases h2:(geI s.open_ 0&&leI s.open_ 4096) with
    | false=>rfl
    | true =>
     cases h3:((geI s.close 0&&leI s.close 4096)&&leI s.open_ s.close) with
     | false=>rfl
     | true =>
      cases h4:(geI s.service 0&&leI s.service 4096) with
      | false=>rfl
      | true =>
       exfalso
       simp only [andT,Qxr,QzK] at h1 h2 h3 h4
       omega
theorem QCH {o:Qac} {types:Int} {c:List Int}:bnd (Qgv o types) (fun r=>bnd (QaP r 2 c) fun q=>some q)=Qcf types o c:=by
 unfold Qgv Qcf Qdu Qb2
 simp only [Qan]
 cases (geI o.penalty (-1)&&leI o.penalty 1000000) with
 | false=>rw [QcA,QcA,Qan]; exact QC9 (J:=fun c=>some c) fun c=>rfl
 | true =>
  rw [QdY,QdY,Qan]
  have hb:((((((!(geI o.split 1&&leI o.split 4))||((gtI o.split 1)&&((neI o.pick.place (-1))&&(neI o.drop.place (-1)))))||(ltI o.last_ (-1)))||(geI o.last_ types))||(ltI o.now (-1)))||(geI o.now types)) =
    !(((((((geI o.split 1&&leI o.split 4)&&(((eqI o.split 1)||(eqI o.pick.place (-1)))||(eqI o.drop.place (-1))))&&(geI o.last_ (-1)))&&(ltI o.last_ types))&&(geI o.now (-1)))&&(ltI o.now types))):=by
   rw [Bool.eq_iff_iff]
   simp only [orT,andT,ntT,ntF,andF,orF,Qxs,Qu6,Qxr,QFu,Qou,Qtb,QzK,QD1,QxR,QBE,QFL,QES,Bool.not_eq_true',Bool.and_eq_false_iff,Bool.or_eq_false_iff]
   omega
  rw [hb,Qyc]
  exact QBz (J:=fun c=>some c) fun c=>rfl
theorem QEd {n:Qag} {dims types:Int} {l:List Qac} (hl:l.length≤1048576) (hI:∀ t∈l,t.load.length≤1048576) (i:Int):Qn4 n dims types l i=Qeo (lenI n.places) dims types l i:=by
 unfold Qn4 Qeo
 cases hg:getI l i with
 | none=>rfl
 | some t =>
  obtain ⟨k,rfl⟩:∃ k:Nat,i=k:=by
   unfold getI at hg
   split at hg
   ·exact ⟨i.toNat,by omega⟩
   ·cases hg
  have hk:l[k]?=some t:=by
   unfold getI at hg
   rw [if_pos (by omega),Int.toNat_natCast] at hg
   exact hg
  have hkl:=(List.getElem?_eq_some_iff.1 hk).1
  have hload:=hI t (List.mem_of_getElem? hk)
  have hlen:(l.take k).length=k:=by rw [List.length_take]; omega
  rw [Qan,Qan,QCF]
  refine QqB fun r=>?_
  rw [QGr]
  have main:∀ c:List Int,c.length≤1→(bnd (slcI l 0 (k:Int)) fun l1=>bnd (Qa0 l1 t) fun r2=>bnd (QaP (!r2) 6 c) fun r3=>bnd (Qnv t.load dims) fun r4=>bnd (QaP r4 17 r3) fun r5=>Qa7 (lenI n.places) types t r5)=QdI (lenI n.places) dims types l (k:Int) t c:=fun c hc=>by
   unfold QdI
   have hloop:QaX (fun s=>Qbn (lenI n.places) dims types l (k:Int) t c s) 0=some (if ((l.take k).any fun a=>eqS a.name t.name)=true then c++[6] else c):=Qoc (B:=fun s=>Qbn (lenI n.places) dims types l (k:Int) t c s) (l:=l.take k) (by omega) (fun a=>eqS a.name t.name) (fun j a h=>by
    obtain ⟨h1,h2⟩:=QE3 h
    show Qbn (lenI n.places) dims types l (k:Int) t c (j:Int)=_
    unfold Qbn
    rw [Qbp (by simp; omega),QaZ h2,Qan,incL h2 hl,Qcn (QcW (by simp; omega)),brs]) (by
    rw [hlen]
    show Qbn (lenI n.places) dims types l (k:Int) t c (k:Int)=_
    unfold Qbn
    rw [Qby (by simp)])
   rw [QEm (by omega),Qan,QFv (by omega),Qan,Qfs hloop,QGr,Qyc,QEj hload]
   cases (l.take k).any fun a=>eqS a.name t.name with
   | true =>
    rw [QdY,if_pos rfl,Qcn (QcW (by simp; omega))]
    exact QqB fun r=>QBz (J:=fun c=>Qa7 (lenI n.places) types t c) fun c=>rfl
   | false =>
    rw [QcA,if_neg (by decide)]
    exact QqB fun r=>QBz (J:=fun c=>Qa7 (lenI n.places) types t c) fun c=>rfl
  have tail:∀ c:List Int,(bnd (Qdu t.pick.place (-1) (subK .i64 (lenI n.places) 1)) fun r6=>br r6 (bnd (Qdu t.drop.place (-1) (subK .i64 (lenI n.places) 1)) fun r7=>bnd (QaP r7 11 c) fun r8=>Qbv types t r8) (bnd (QaP false 11 c) fun r8=>Qbv types t r8))=Qa7 (lenI n.places) types t c:=fun c=>by
   unfold Qa7
   exact in11 fun b=>QHH (J:=fun c=>Qbv types t c) fun c=>rfl
  have t3:∀ c:List Int,(bnd (QaP ((neI t.pick.place (-1))||(neI t.drop.place (-1))) 19 c) fun r9=>QbY types t r9)=Qbv types t c:=fun c=>by
   unfold Qbv
   have hb:(neI t.pick.place (-1)||neI t.drop.place (-1))=!(eqI t.pick.place (-1)&&eqI t.drop.place (-1)):=by
    unfold neI
    rw [Bool.not_and]
    rfl
   rw [hb,QGr,Qyc]
  have t6:∀ c:List Int,(bnd (Qdu t.skills 0 1073741823) fun r18=>bnd (QaP r18 18 c) fun r19=>bnd (Qgv t types) fun r20=>bnd (QaP r20 2 r19) fun r21=>some r21)=Qbm types t c:=fun c=>by
   unfold Qbm
   exact in11 fun b=>QBz (J:=fun c=>QdJ types t c) fun c=>QCH
  have t4:∀ c:List Int,(bnd (QgL t.pick) fun r10=>br (eqI r10 0) (bnd (QgL t.drop) fun r11=>bnd (QaP (eqI r11 0) 14 c) fun r12=>Qbm types t r12) (bnd (QaP false 14 c) fun r12=>Qbm types t r12))=QbY types t c:=fun c=>by
   unfold QbY
   rw [QA7,QA7]
   refine QqB fun a=>?_
   have hn:∀ a:Int,neI a 0=!eqI a 0:=fun a=>rfl
   rw [hn,Qyc]
   cases eqI a 0 with
   | false=>rw [QcA,QcA]; exact QC9 (J:=fun c=>Qbm types t c) fun c=>rfl
   | true =>
    rw [QdY,QdY]
    refine QqB fun d=>?_
    rw [hn,Qyc]
    exact QBz (J:=fun c=>Qbm types t c) fun c=>rfl
  rw [← main [] (by simp),← main [5] (by simp)]
  simp only [← tail,← t3,← t4,← t6]
  rfl
theorem QzQ {n:Qag} {dims types:Int} {l:List Qac} (hl:l.length≤100) (hI:∀ t∈l,t.load.length≤1048576):Qnw n dims types l=QfX n dims types l:=by
 have hB:∀ s:List Qaa×Int,Qhp n dims types l s.1 s.2=Qce n dims types l s.1 s.2:=fun s=>by
  unfold Qhp Qce
  rw [QEd (by omega) hI]
  cases hb:ltI s.2 (lenI l) with
  | false=>rw [QcA,QcA]
  | true =>
   rw [QdY,QdY]
   cases hr:Qeo (lenI n.places) dims types l s.2 with
   | none=>rw [Qu9,Qu9]
   | some r =>
    rw [Qan,Qan]
    have h0:0≤s.2:=by
     unfold Qeo at hr
     obtain ⟨a,ha,_⟩:=Qae hr
     unfold getI at ha
     split at ha
     ·assumption
     ·cases ha
    rw [Qou,lenI] at hb
    have hf:∀ q:List Qaa×Int,Qhq n dims types l s.2 r q.1 q.2=Qen n dims types l s.2 r q.1 q.2:=fun q=>by
     unfold Qhq Qen
     rw [QDc h0 (by omega)]
    rw [show (fun q:List Qaa×Int=>Qhq n dims types l s.2 r q.1 q.2)=fun q=>Qen n dims types l s.2 r q.1 q.2 from funext hf]
 have hJ:∀ l1,Qiw n dims types l l1=Qem n dims types l l1:=fun l1=>by
  unfold Qiw Qem
  rw [show (fun s:List Qaa×Int=>Qhp n dims types l s.1 s.2)=fun s=>Qce n dims types l s.1 s.2 from funext hB]
 unfold Qnw QfX
 rw [hJ,hJ]
end Go.Proofs.YtbilkblifgaflaaGreatDoor
namespace Go.Proofs.YtbilkblifgaflaaGreatDoor
set_option linter.unusedSimpArgs false
set_option linter.unusedVariables false
set_option linter.unusedSectionVars false
def DecB (B:Nat):Prop:=∀ i:Nat,i<B→∃ s,QgA (i:Int)=some s∧Qa8 (i:Int)=some s∧s.size≤21
theorem QFg:DecB 100:=fun i hi=>by
 obtain ⟨s,hs,hl⟩:=QkO (i:Int) (QxY (by omega))
 exact ⟨s,by rw [QED i hi,hs],hs,hl⟩
theorem QBV (s:ByteArray):∀ (k i:Nat) (r:List UInt8),s.size-i=k→ByteArray.toList.loop s i r=r.reverse++s.data.toList.drop i:=by
 intro k
 induction k with
 | zero =>
  intro i r h
  unfold ByteArray.toList.loop
  rw [if_neg (by omega),List.drop_eq_nil_of_le (by rw [Array.length_toList]; exact (by omega:s.size≤i)),List.append_nil]
 | succ k ih =>
  intro i r h
  have hi:i<s.data.toList.length:=by rw [Array.length_toList]; exact (by omega:i<s.size)
  unfold ByteArray.toList.loop
  rw [if_pos (by omega),ih (i+1) _ (by omega),List.drop_eq_getElem_cons hi,List.reverse_cons,List.append_assoc]
  congr 1
  have hs:i<s.data.size:=by rw [Array.length_toList] at hi; exact hi
  have:s.get! i=s.data.toList[i]:=by
   show (s.data[i]!)=_
   rw [getElem!_pos s.data i hs,Array.getElem_toList]
  rw [this]; rfl
theorem QGA (a b:ByteArray):eqS a b=eqY a b:=by
 have h:∀ s:ByteArray,s.toList=s.data.toList:=fun s=>by
  unfold ByteArray.toList
  rw [QBV s s.size 0 [] (by omega)]
  simp
 rw [Bool.eq_iff_iff,QHk]
 unfold eqS
 rw [beq_iff_eq,h,h]
 constructor
 ·intro he
  cases a; cases b
  rw [ByteArray.mk.injEq]
  exact Array.toList_inj.1 he
 ·rintro rfl; rfl
theorem QGB (a b:ByteArray):eqY a b=eqY b a:=by rw [Bool.eq_iff_iff,QHk,QHk]; exact eq_comm
section
variable {n : Qag} {B : Nat} {l : List Qal} {a : Qai} {known : List (Qar × Bool)} {tr : List Qaa}
theorem QEt (hB:DecB B) (hl:l.length≤B):QeU l=Qcw l:=by
 have hf:∀ s:List Qaa×Int,Qdf l s.1 s.2=Qcx l s.1 s.2:=fun s=>by
  unfold Qdf Qcx
  cases hb:ltI s.2 (lenI l) with
  | false=>rw [QcA,QcA]
  | true =>
   rw [QdY,QdY]
   cases hg:getI l s.2 with
   | none=>rw [Qu9,Qu9]
   | some p =>
    obtain ⟨k,hk⟩:∃ k:Nat,s.2=k:=by
     unfold getI at hg
     split at hg
     ·exact ⟨s.2.toNat,by omega⟩
     ·cases hg
    rw [Qou,lenI] at hb
    obtain ⟨r,r1,r2,_⟩:=hB k (by omega)
    rw [Qan,Qan,hk,r1,Qan,r2,Qan]
    unfold QgB
    rw [Qan]
    have hc:((!(geI p.t 0&&leI p.t 4096))||ltI p.a p.t||gtI p.a (addK .i64 p.t 4096))=((((ltI p.t 0)||(gtI p.t 4096))||(ltI p.a p.t))||(gtI p.a (addK .i64 p.t 4096))):=by
     congr 2
     rw [Bool.eq_iff_iff,ntT,andF,orT,QFu,QD1,Qou,Qxs]
    have hJ:∀ c,QgJ l (k:Int) p r c=Qdy l (k:Int) p c:=fun c=>by
     unfold QgJ Qdy
     rw [r2,Qan]
    rw [hc,hJ,hJ]
 have hJ:∀ c,QgI l c=Qeg l c:=fun c=>by
  unfold QgI Qeg
  rw [show (fun s:List Qaa×Int=>Qdf l s.1 s.2)=fun s=>Qcx l s.1 s.2 from funext hf]
 unfold QeU Qcw
 rw [hJ,hJ]
 congr 1
 rw [Bool.eq_iff_iff]
 simp only [orT,QxR,Qou,Qxs,lenI]
 omega
def QGi (l:List Qal) (i:Nat):Bool:=match l[i]? with
 | none=>false
 | some p=>!((geI p.t 0&&leI p.t 4096)&&(geI p.a 0&&leI p.a 4096))||(decide (0<i)&&(match l[i-1]? with
  | some q=>leI p.t q.t
  | none=>false))
def Qxt (l:List Qal):Nat→List Int
 | 0=>[]
 | k+1=>Qxt l k++if QGi l k=true then [2] else []
def QE2 (l:List Qal):List Int:=(if l.length>16 then [4] else [])++Qxt l l.length
theorem Qwt:∀ k,(Qxt l k).length≤k
 | 0=>Nat.le_refl _
 | k+1=>by have:=Qwt k; unfold Qxt; rw [List.length_append]; split <;> simp <;> omega
theorem QAW:(QE2 l).length≤l.length+1:=by
 have:=Qwt (l:=l) l.length
 unfold QE2
 rw [List.length_append]
 split <;> simp <;> omega
theorem QE0 {p:Qal} (e:l[0]?=some p):QGi l 0=!((geI p.t 0&&leI p.t 4096)&&(geI p.a 0&&leI p.a 4096)):=by
 unfold QGi
 rw [e]
 simp
theorem QE1 {p q:Qal} {i:Nat} (h0:0<i) (e:l[i]?=some p) (e0:l[i-1]?=some q):QGi l i=(!((geI p.t 0&&leI p.t 4096)&&(geI p.a 0&&leI p.a 4096))||leI p.t q.t):=by
 unfold QGi
 rw [e]
 simp only
 rw [e0]
 simp [h0]
theorem Qzl (k:Nat):Qxt l (k+1)=Qxt l k++if QGi l k=true then [2] else []:=rfl
theorem QG6 (hl:l.length≤1048576):Qib l=some (QE2 l):=by
 have main:∀ c:List Int,c.length≤1→QhK l c=some (c++Qxt l l.length):=fun c hc=>by
  unfold QhK
  have:=QeO l.length (fun i=>(c++Qxt l i,(i:Int))) (B:=fun s:List Int×Int=>Qeb l s.1 s.2) (e:=c++Qxt l l.length) (by omega) (fun i hi=>by
   have e1:l[i]?=some l[i]:=List.getElem?_eq_getElem hi
   have hE:=Qwt (l:=l) i
   have hok:okN ((c++Qxt l i)++[2]).length 8:=QcW (by simp only [List.length_append,List.length_singleton]; omega)
   have hadd:addK .i64 (i:Int) 1=((i+1:Nat):Int):=by rw [addI (by omega) (by omega)]; omega
   show Qeb l (c++Qxt l i) (i:Int)=some (.inl (c++Qxt l (i+1),((i+1:Nat):Int)))
   unfold Qeb QkX
   rw [Qbp (by simp only [Qou,lenI]; omega),QaZ e1,Qan,Qan,Qan,hadd,Qcn hok,Qzl]
   generalize l[i]=p at e1
   rcases Nat.eq_zero_or_pos i with h0|h0
   ·rw [Qby (b:=gtI (i:Int) 0) (by simp only [Qu6]; omega)]
    subst h0
    rw [QE0 e1]
    cases (geI p.t 0&&leI p.t 4096) <;> cases (geI p.a 0&&leI p.a 4096) <;> simp
   ·have e0:l[i-1]?=some (l[i-1]'(by omega)):=List.getElem?_eq_getElem _
    have hs:subK .i64 (i:Int) 1=((i-1:Nat):Int):=by rw [subI (by omega) (by omega)]; omega
    rw [Qbp (b:=gtI (i:Int) 0) (by simp only [Qxs]; omega),hs,QaZ e0,Qan,QE1 h0 e1 e0]
    cases (geI p.t 0&&leI p.t 4096) <;> cases (geI p.a 0&&leI p.a 4096) <;> cases leI p.t (l[i-1]'(by omega)).t <;> simp) (by
   show Qeb l (c++Qxt l l.length) (l.length:Int)=_
   unfold Qeb
   rw [Qby (by simp [lenI])])
  rw [Qfs (show QaX (fun s:List Int×Int=>Qeb l s.1 s.2) (c,0)=_ by simpa [Qxt] using this)]
 unfold Qib QE2
 by_cases h:l.length>16
 ·rw [Qbp (by simp [lenI]; omega),Qcn (QcW (by simp)),main [4] (by simp),if_pos h]
 ·rw [Qby (by simp [lenI]; omega),main [] (by simp),if_neg h]
def badG (a:Qai):Bool:=((((ltI a.profile 0)||(gtI a.profile 7))||(ltI a.miles 0))||(gtI a.miles 10000))||(eqI a.from_ a.to_)
def inA (n:Qag) (a:Qai):Bool:=QfT n a.from_&&QfT n a.to_
def arcT (a:Qai) (kn:Bool) (tr:List Qaa):List Int:=(if kn=true then [6] else [])++(tr.map (·.err)++QE2 a.slow)
def arcX (n:Qag) (a:Qai) (kn:Bool) (tr:List Qaa):List Int:=(if inA n a=true then [] else [11])++((if badG a=true then [2] else [])++arcT a kn tr)
theorem QFb {kn:Bool}:(arcX n a kn tr).length≤4+tr.length+a.slow.length:=by
 have:=QAW (l:=a.slow)
 unfold arcX arcT
 simp only [List.length_append,List.length_map]
 split <;> split <;> split <;> simp <;> omega
theorem QGo (ht:QeU a.travel=some tr) (htl:tr.length≤2097153) (hs:a.slow.length≤1048576) {l c:List Int} (hc:c.length≤100):Qit a known l c=some (c++(tr.map (·.err)++QE2 a.slow)):=by
 unfold Qit
 rw [ht,Qan]
 have:=QeO tr.length (fun i=>(c++(tr.take i).map (·.err),(i:Int))) (B:=fun s:List Int×Int=>Qe1 a known l tr s.1 s.2) (e:=c++tr.map (·.err)) (by omega) (fun i hi=>by
  have e1:tr[i]?=some tr[i]:=List.getElem?_eq_getElem hi
  have hadd:addK .i64 (i:Int) 1=((i+1:Nat):Int):=by rw [addI (by omega) (by omega)]; omega
  show Qe1 a known l tr (c++(tr.take i).map (·.err)) (i:Int)=_
  unfold Qe1
  rw [Qbp (by simp only [Qou,lenI]; omega),QaZ e1,Qan,Qcn (QcW (by simp only [List.length_append,List.length_map,List.length_take,List.length_singleton]; omega)),hadd,List.take_add_one,e1,Option.toList_some,List.map_append,← List.append_assoc]
  rfl) (by
  show Qe1 a known l tr (c++(tr.take tr.length).map (·.err)) (tr.length:Int)=_
  unfold Qe1
  rw [Qby (by simp [lenI]),List.take_length])
 have hsl:=QAW (l:=a.slow)
 rw [Qfs (show QaX (fun s:List Int×Int=>Qe1 a known l tr s.1 s.2) (c,0)=_ by simpa using this),QG6 hs,Qan,Qcn (QcW (by simp only [List.length_append,List.length_map]; omega)),List.append_assoc]
theorem QDx (ht:QeU a.travel=some tr) (htl:tr.length≤2097153) (hs:a.slow.length≤1048576) {l c:List Int} (hc:c.length≤99):Qho a known l c=some (c++arcT a (mGet Qar.keq known (Qar.mk a.from_ a.to_ a.profile) false) tr):=by
 unfold Qho QfE arcT
 rw [Qan]
 cases mGet Qar.keq known (Qar.mk a.from_ a.to_ a.profile) false with
 | true=>rw [QdY,Qcn (QcW (by simp; omega)),QGo ht htl hs (by simp; omega),if_pos rfl,List.append_assoc]
 | false=>rw [QcA,QGo ht htl hs (by omega),if_neg (by decide),List.nil_append]
theorem QGp {c:List Int}:Qka a known c=Qho a known c c:=rfl
theorem QHE (ht:QeU a.travel=some tr) (htl:tr.length≤2097153) (hs:a.slow.length≤1048576):Qp7 n a known=some (arcX n a (mGet Qar.keq known (Qar.mk a.from_ a.to_ a.profile) false) tr):=by
 have hJ1:∀ l:List Int,l.length≤90→Qis a known l=some (l++((if badG a=true then [2] else [])++arcT a (mGet Qar.keq known (Qar.mk a.from_ a.to_ a.profile) false) tr)):=fun l hl=>by
  unfold Qis
  show br (badG a) _ _=_
  cases badG a with
  | true=>rw [QdY,Qcn (QcW (by simp; omega)),QDx ht htl hs (by simp; omega),if_pos rfl,List.append_assoc]
  | false=>rw [QcA,QDx ht htl hs (by omega),if_neg (by decide),List.nil_append]
 unfold Qp7 arcX inA
 rw [Qt2,Qan,Qt2,Qan]
 cases QfT n a.from_ with
 | true =>
  cases QfT n a.to_ with
  | true=>rw [QdY,QdY,hJ1 [] (by simp)]; rfl
  | false=>rw [QdY,QcA,Qcn (QcW (by simp)),hJ1 [11] (by simp)]; rfl
 | false =>
  rw [QcA,Qcn (QcW (by simp))]
  show br (badG a) _ _=_
  cases badG a with
  | true =>
   rw [QdY,Qcn (QcW (by simp)),QGp,QDx ht htl hs (by simp)]
   simp
  | false =>
   rw [QcA,QGp,QDx ht htl hs (by simp)]
   simp
def fltA (r:ByteArray) (e:Int):Qaa:=Qaa.mk e (catS QaT r)
theorem QEX {r:ByteArray} {l0 c:List Qaa} (hs:a.slow.length≤1048576) (hc:c.length≤3000000):QbH r a l0 c=some (c++(Qxt a.slow a.slow.length).map (fltA r)):=by
 unfold QbH
 have:=QeO a.slow.length (fun i=>(c++(Qxt a.slow i).map (fltA r),(i:Int))) (B:=fun s:List Qaa×Int=>Qbc r a l0 s.1 s.2) (e:=c++(Qxt a.slow a.slow.length).map (fltA r)) (by omega) (fun i hi=>by
  have e1:a.slow[i]?=some a.slow[i]:=List.getElem?_eq_getElem hi
  have hE:=Qwt (l:=a.slow) i
  have hok:okN ((c++(Qxt a.slow i).map (fltA r))++[Qaa.mk 2 (catS QaT r)]).length 24:=QcW (by simp only [List.length_append,List.length_map,List.length_singleton]; omega)
  have hadd:addK .i64 (i:Int) 1=((i+1:Nat):Int):=by rw [addI (by omega) (by omega)]; omega
  show Qbc r a l0 (c++(Qxt a.slow i).map (fltA r)) (i:Int)=some (.inl (c++(Qxt a.slow (i+1)).map (fltA r),((i+1:Nat):Int)))
  unfold Qbc QgD
  rw [Qbp (by simp only [Qou,lenI]; omega),QaZ e1,Qan,Qan,Qan,hadd,Qcn hok,Qzl]
  generalize a.slow[i]=p at e1
  have hf:fltA r 2=Qaa.mk 2 (catS QaT r):=rfl
  rcases Nat.eq_zero_or_pos i with h0|h0
  ·rw [Qby (b:=gtI (i:Int) 0) (by simp only [Qu6]; omega)]
   subst h0
   rw [QE0 e1]
   cases (geI p.t 0&&leI p.t 4096) <;> cases (geI p.a 0&&leI p.a 4096) <;> simp [hf]
  ·have e0:a.slow[i-1]?=some (a.slow[i-1]'(by omega)):=List.getElem?_eq_getElem _
   have hs:subK .i64 (i:Int) 1=((i-1:Nat):Int):=by rw [subI (by omega) (by omega)]; omega
   rw [Qbp (b:=gtI (i:Int) 0) (by simp only [Qxs]; omega),hs,QaZ e0,Qan,QE1 h0 e1 e0]
   cases (geI p.t 0&&leI p.t 4096) <;> cases (geI p.a 0&&leI p.a 4096) <;> cases leI p.t (a.slow[i-1]'(by omega)).t <;> simp [hf]) (by
  show Qbc r a l0 (c++(Qxt a.slow a.slow.length).map (fltA r)) (a.slow.length:Int)=_
  unfold Qbc
  rw [Qby (by simp [lenI])])
 rw [Qfs (show QaX (fun s:List Qaa×Int=>Qbc r a l0 s.1 s.2) (c,0)=_ by simpa [Qxt] using this)]
theorem QEW {r:ByteArray} {l0 c:List Qaa} (ht:Qcw a.travel=some tr) (htl:tr.length≤2097153) (hs:a.slow.length≤1048576) (hc:c.length≤100):QbT r a l0 c=some (c++(tr.map (·.err)++QE2 a.slow).map (fltA r)):=by
 unfold QbT
 rw [ht,Qan]
 have:=QeO tr.length (fun i=>(c++((tr.take i).map (·.err)).map (fltA r),(i:Int))) (B:=fun s:List Qaa×Int=>Qbb r a l0 tr s.1 s.2) (e:=c++(tr.map (·.err)).map (fltA r)) (by omega) (fun i hi=>by
  have e1:tr[i]?=some tr[i]:=List.getElem?_eq_getElem hi
  have hadd:addK .i64 (i:Int) 1=((i+1:Nat):Int):=by rw [addI (by omega) (by omega)]; omega
  show Qbb r a l0 tr (c++((tr.take i).map (·.err)).map (fltA r)) (i:Int)=_
  unfold Qbb
  rw [Qbp (by simp only [Qou,lenI]; omega),QaZ e1,Qan,Qcn (QcW (by simp only [List.length_append,List.length_map,List.length_take,List.length_singleton]; omega)),hadd,List.take_add_one,e1,Option.toList_some,List.map_append,List.map_append,← List.append_assoc]
  rfl) (by
  show Qbb r a l0 tr (c++((tr.take tr.length).map (·.err)).map (fltA r)) (tr.length:Int)=_
  unfold Qbb
  rw [Qby (by simp [lenI]),List.take_length])
 rw [Qfs (show QaX (fun s:List Qaa×Int=>Qbb r a l0 tr s.1 s.2) (c,0)=_ by simpa using this)]
 unfold QE2
 by_cases h:a.slow.length>16
 ·rw [Qbp (by simp [lenI]; omega),Qcn (QcW (by simp only [List.length_append,List.length_map,List.length_singleton]; omega)),QEX hs (by simp only [List.length_append,List.length_map,List.length_singleton]; omega),if_pos h]
  simp [fltA]
 ·rw [Qby (by simp [lenI]; omega),QEX hs (by simp only [List.length_append,List.length_map]; omega),if_neg h]
  simp
def knA (n:Qag) (i:Nat) (a:Qai):Bool:=(n.arcs.take i).any fun b=>Qar.keq (Qar.mk a.from_ a.to_ a.profile) (Qar.mk b.from_ b.to_ b.profile)
theorem QHc {r:ByteArray} {l0 l1:List Qaa} {i:Nat} (hi:i<n.arcs.length) (hal:n.arcs.length≤1048576):QaX (fun s:Bool×Int=>Qba n (i:Int) r a l0 l1 s.1 s.2) (false,0)=some (knA n i a):=by
 have:=QeO i (fun k=>((n.arcs.take k).any fun b=>Qar.keq (Qar.mk a.from_ a.to_ a.profile) (Qar.mk b.from_ b.to_ b.profile),(k:Int))) (B:=fun s:Bool×Int=>Qba n (i:Int) r a l0 l1 s.1 s.2) (e:=knA n i a) (by omega) (fun k hk=>by
  have e1:n.arcs[k]?=some (n.arcs[k]'(by omega)):=List.getElem?_eq_getElem _
  have hadd:addK .i64 (k:Int) 1=((k+1:Nat):Int):=by rw [addI (by omega) (by omega)]; omega
  show Qba n (i:Int) r a l0 l1 ((n.arcs.take k).any _) (k:Int)=_
  unfold Qba
  rw [Qbp (by simp; omega),QaZ e1,Qan,hadd,List.take_add_one,e1,Option.toList_some,List.any_append]
  congr 3
  simp only [List.any_cons,List.any_nil,Bool.or_false,Qar.keq]
  congr 1
  rw [Bool.eq_iff_iff]
  simp [and_assoc]) (by
  show Qba n (i:Int) r a l0 l1 _ (i:Int)=_
  unfold Qba
  rw [Qby (by simp)]; rfl)
 simpa using this
theorem QGZ {r:ByteArray} {i:Nat} (hi:n.arcs[i]?=some a) (hal:n.arcs.length≤1048576) (hr:Qa8 (i:Int)=some r) (hrl:r.size≤21) (ht:Qcw a.travel=some tr) (htl:tr.length≤2097153) (hs:a.slow.length≤1048576):Qei n (i:Int)=some ((arcX n a (knA n i a) tr).map (fltA r)):=by
 have hlt:=(List.getElem?_eq_some_iff.1 hi).1
 have hJ2:∀ l c:List Qaa,c.length≤90→QcD n (i:Int) r a l c=some (c++(arcT a (knA n i a) tr).map (fltA r)):=fun l c hc=>by
  unfold QcD arcT
  rw [Qfs (QHc hlt hal)]
  cases knA n i a with
  | true=>rw [QdY,Qcn (QcW (by simp; omega)),QEW ht htl hs (by simp; omega),if_pos rfl]; simp [fltA]
  | false=>rw [QcA,QEW ht htl hs (by omega),if_neg (by decide),List.nil_append]
 have hJ1:∀ l:List Qaa,l.length≤80→QcC n (i:Int) r a l=some (l++((if badG a=true then [2] else [])++arcT a (knA n i a) tr).map (fltA r)):=fun l hl=>by
  unfold QcC
  show br (badG a) _ _=_
  cases badG a with
  | true=>rw [QdY,Qcn (QcW (by simp; omega)),hJ2 _ _ (by simp; omega),if_pos rfl]; simp [fltA]
  | false=>rw [QcA,hJ2 _ _ (by omega),if_neg (by decide),List.nil_append]
 unfold Qei
 rw [hr,Qan,Qcn (by show 4+r.size≤_; omega),QaZ hi,Qan]
 have hin:((((ltI a.from_ 0)||(geI a.from_ (lenI n.places)))||(ltI a.to_ 0))||(geI a.to_ (lenI n.places)))=!inA n a:=by
  unfold inA QfT
  rw [Bool.eq_iff_iff]
  simp only [orT,Qou,Qxr,lenI,ntT,andF,decide_eq_false_iff_not]
  omega
 rw [hin,Qyc]
 unfold arcX
 cases inA n a with
 | true=>rw [QdY,hJ1 [] (by simp)]; simp
 | false=>rw [QcA,Qcn (QcW (by simp)),hJ1 _ (by simp)]; simp [fltA]
end
end Go.Proofs.YtbilkblifgaflaaGreatDoor
namespace Go.Proofs.YtbilkblifgaflaaGreatDoor
set_option linter.unusedSimpArgs false
set_option linter.unusedVariables false
set_option linter.unusedSectionVars false
noncomputable def decS (k:Nat):ByteArray:=(Qa8 (k:Int)).getD ByteArray.empty
noncomputable def QGS (s:ByteArray):Bool:=(QdO s).getD false
noncomputable def trA (a:Qai):List Qaa:=(Qcw a.travel).getD []
noncomputable def plE (n:Qag) (k:Nat):List Qaa:=match n.places[k]? with
 | none=>[]
 | some s=>if QGS s=true then (if (n.places.take k).any (fun b=>eqY s b)=true then [Qaa.mk 6 (catS QbU (decS k))] else []) else [Qaa.mk 5 (catS QbU (decS k))]
noncomputable def plF (n:Qag):Nat→List Qaa
 | 0=>[]
 | k+1=>plF n k++plE n k
noncomputable def arE (n:Qag) (k:Nat):List Qaa:=match n.arcs[k]? with
 | none=>[]
 | some a=>(arcX n a (knA n k a) (trA a)).map (fltA (decS k))
noncomputable def arF (n:Qag):Nat→List Qaa
 | 0=>[]
 | k+1=>arF n k++arE n k
noncomputable def netF (n:Qag):List Qaa:=((if n.places.length>24 then [Qaa.mk 4 Qd6] else [])++plF n n.places.length)++((if n.arcs.length>1024 then [Qaa.mk 4 Qg8] else [])++arF n n.arcs.length)
section
variable {n : Qag} {B : Nat}
theorem QGY (k:Nat):(plE n k).length≤1:=by
 unfold plE
 split
 ·simp
 ·split
  ·split <;> simp
  ·simp
theorem QAI:∀ k,(plF n k).length≤k
 | 0=>Nat.le_refl _
 | k+1=>by
  have h1:=QAI k
  have h2:=QGY (n:=n) k
  unfold plF
  rw [List.length_append]
  omega
theorem QDH (hB:DecB B) {k:Nat} (hk:k<B):QgH (k:Int)=some (decS k)∧Qa8 (k:Int)=some (decS k)∧(decS k).size≤21:=by
 obtain ⟨s,s1,s2,s3⟩:=hB k hk
 have:decS k=s:=by unfold decS; rw [s2]; rfl
 rw [this]
 refine ⟨?_,s2,s3⟩
 unfold QgH
 rw [s1]; rfl
theorem QER (hn:NetI n) {s:ByteArray} (hs:s∈n.places):QdO s=some (QGS s):=by
 obtain ⟨b,hb,_⟩:=Qwo s (hn.names s hs)
 unfold QGS
 rw [hb]; rfl
theorem QCP (k:Nat):plF n (k+1)=plF n k++plE n k:=rfl
theorem QBN (k:Nat):arF n (k+1)=arF n k++arE n k:=rfl
theorem QBn (hn:NetI n) (hB:DecB B) (hp:n.places.length≤B) {l0 l:List Qaa} (hl:l0.length≤1):QaX (fun s:List Qaa×List (ByteArray×Bool)×Int=>QdR n l s.1 s.2.1 s.2.2) (l0,[],0)=some (l0++plF n n.places.length):=by
 have hpl:=hn.places
 have:=QeO n.places.length (fun i=>(l0++plF n i,(n.places.take i).foldl (fun m s=>mPut eqY m s true) [],(i:Int))) (B:=fun s:List Qaa×List (ByteArray×Bool)×Int=>QdR n l s.1 s.2.1 s.2.2) (e:=l0++plF n n.places.length) (by omega) (fun i hi=>by
  have e:n.places[i]?=some n.places[i]:=List.getElem?_eq_getElem hi
  have hadd:addK .i64 (i:Int) 1=((i+1:Nat):Int):=by rw [addI (by omega) (by omega)]; omega
  obtain ⟨d1,d2,d3⟩:=QDH hB (show i<B by omega)
  have hlen:=QAI (n:=n) i
  have hok:∀ f:Qaa,okN ((l0++plF n i)++[f]).length 24:=fun f=>QcW (by simp only [List.length_append,List.length_singleton]; omega)
  have hseen:=QC4 (eq:=eqY) QHk (fun s:ByteArray=>s) (n.places.take i) n.places[i]
  show QdR n l (l0++plF n i) ((n.places.take i).foldl (fun m s=>mPut eqY m s true) []) (i:Int)=some (.inl (l0++plF n (i+1),(n.places.take (i+1)).foldl (fun m s=>mPut eqY m s true) [],((i+1:Nat):Int)))
  unfold QdR
  rw [Qbp (by simp [lenI]; omega),QaZ e,Qan,d1,Qan,Qcn (by show 6+(decS i).size≤_; omega),QCF,QER hn (List.getElem_mem hi),Qan,hseen,Qcn (hok _),Qcn (hok _),QCP]
  unfold Qg4 plE
  rw [e,hadd,List.take_add_one,e,Option.toList_some,List.foldl_append]
  simp only
  cases QGS n.places[i] with
  | true =>
   cases (n.places.take i).any (fun b=>eqY n.places[i] b) <;> simp
  | false=>simp) (by
  show QdR n l (l0++plF n n.places.length) ((n.places.take n.places.length).foldl (fun m s=>mPut eqY m s true) []) (n.places.length:Int)=_
  unfold QdR
  rw [Qby (by simp [lenI])])
 simpa [plF] using this
theorem QEh (hn:NetI n) {l l1:List Qaa} {r:ByteArray} {i:Nat} {s:ByteArray} (hs:n.places[i]?=some s):QaX (fun q:Bool×Int=>QaR n l l1 (i:Int) r q.1 q.2) (false,0)=some ((n.places.take i).any fun b=>eqY s b):=by
 have hpl:=hn.places
 have hi:=(List.getElem?_eq_some_iff.1 hs).1
 have:=QeO i (fun k=>((n.places.take k).any (fun b=>eqY s b),(k:Int))) (B:=fun q:Bool×Int=>QaR n l l1 (i:Int) r q.1 q.2) (e:=(n.places.take i).any fun b=>eqY s b) (by omega) (fun k hk=>by
  have e1:n.places[k]?=some (n.places[k]'(by omega)):=List.getElem?_eq_getElem _
  have hadd:addK .i64 (k:Int) 1=((k+1:Nat):Int):=by rw [addI (by omega) (by omega)]; omega
  show QaR n l l1 (i:Int) r ((n.places.take k).any fun b=>eqY s b) (k:Int)=_
  unfold QaR
  rw [Qbp (by simp; omega),QaZ e1,Qan,QaZ hs,Qan,hadd,List.take_add_one,e1,Option.toList_some,List.any_append,QGA,QGB]
  cases (n.places.take k).any fun b=>eqY s b <;> simp) (by
  show QaR n l l1 (i:Int) r ((n.places.take i).any fun b=>eqY s b) (i:Int)=_
  unfold QaR
  rw [Qby (by simp)])
 simpa using this
theorem Qzj (hn:NetI n) (hB:DecB B) (hp:n.places.length≤B) {l0 l:List Qaa} (hl:l0.length≤1):QbO n l0=some (l0++plF n n.places.length):=by
 have hpl:=hn.places
 unfold QbO
 have:=QeO n.places.length (fun i=>(l0++plF n i,(i:Int))) (B:=fun s:List Qaa×Int=>QaQ n l0 s.1 s.2) (e:=l0++plF n n.places.length) (by omega) (fun i hi=>by
  have e:n.places[i]?=some n.places[i]:=List.getElem?_eq_getElem hi
  have hadd:addK .i64 (i:Int) 1=((i+1:Nat):Int):=by rw [addI (by omega) (by omega)]; omega
  obtain ⟨d1,d2,d3⟩:=QDH hB (show i<B by omega)
  have hlen:=QAI (n:=n) i
  have hok:∀ f:Qaa,okN ((l0++plF n i)++[f]).length 24:=fun f=>QcW (by simp only [List.length_append,List.length_singleton]; omega)
  show QaQ n l0 (l0++plF n i) (i:Int)=some (.inl (l0++plF n (i+1),((i+1:Nat):Int)))
  unfold QaQ
  rw [Qbp (by simp [lenI]; omega),d2,Qan,Qcn (by show 6+(decS i).size≤_; omega),QaZ e,Qan,QER hn (List.getElem_mem hi),Qan,Qfs (QEh hn e),Qcn (hok _),Qcn (hok _),hadd,QCP]
  unfold plE
  rw [e]
  simp only
  cases QGS n.places[i] with
  | true =>
   cases (n.places.take i).any (fun b=>eqY n.places[i] b) <;> simp
  | false=>simp) (by
  show QaQ n l0 (l0++plF n n.places.length) (n.places.length:Int)=_
  unfold QaQ
  rw [Qby (by simp [lenI])])
 rw [Qfs (show QaX (fun s:List Qaa×Int=>QaQ n l0 s.1 s.2) (l0,0)=_ by simpa [plF] using this)]
theorem QF0 {a:Qai} (hI:ArcI a):Qcw a.travel=some (trA a)∧(trA a).length≤2097153:=by
 obtain ⟨r,hr,h1,_⟩:=Qoa hI.travel hI.pts
 have:trA a=r:=by unfold trA; rw [hr]; rfl
 rw [this]
 have:=hI.travel
 exact ⟨hr,by omega⟩
theorem QBL (hn:NetI n) (k:Nat):(arE n k).length≤3145733:=by
 unfold arE
 split
 ·simp
 ·rename_i a ha
  have hI:=hn.arcI a (List.mem_of_getElem? ha)
  have h1:=(QF0 hI).2
  have h2:=hI.slow
  have h3:=QFb (n:=n) (a:=a) (kn:=knA n k a) (tr:=trA a)
  rw [List.length_map]
  omega
theorem QBM (hn:NetI n):∀ k,(arF n k).length≤3145733*k
 | 0=>Nat.le_refl _
 | k+1=>by
  have h1:=QBM hn k
  have h2:=QBL hn k
  unfold arF
  rw [List.length_append]
  omega
theorem QCr {i:Nat} {a:Qai}:mGet Qar.keq ((n.arcs.take i).foldl (fun m a=>mPut Qar.keq m (Qar.mk a.from_ a.to_ a.profile) true) []) (Qar.mk a.from_ a.to_ a.profile) false=knA n i a :=
 QC4 (eq:=Qar.keq) QHP (fun a:Qai=>Qar.mk a.from_ a.to_ a.profile) (n.arcs.take i) (Qar.mk a.from_ a.to_ a.profile)
theorem QAK (hn:NetI n) (hB:DecB B) (hp:n.arcs.length≤B) (ht:∀ a∈n.arcs,a.travel.length≤B) {l0 l:List Qaa} (hl:l0.length≤1048578):Qe6 n l l0=some (l0++arF n n.arcs.length):=by
 have hal:=hn.arcs
 unfold Qe6
 have:=QeO n.arcs.length (fun i=>(l0++arF n i,(n.arcs.take i).foldl (fun m a=>mPut Qar.keq m (Qar.mk a.from_ a.to_ a.profile) true) [],(i:Int))) (B:=fun s:List Qaa×List (Qar×Bool)×Int=>QdS n l s.1 s.2.1 s.2.2) (e:=l0++arF n n.arcs.length) (by omega) (fun i hi=>by
  have e:n.arcs[i]?=some n.arcs[i]:=List.getElem?_eq_getElem hi
  have hmem:=List.getElem_mem hi
  have hI:=hn.arcI _ hmem
  have hadd:addK .i64 (i:Int) 1=((i+1:Nat):Int):=by rw [addI (by omega) (by omega)]; omega
  obtain ⟨d1,d2,d3⟩:=QDH hB (show i<B by omega)
  obtain ⟨t1,t2⟩:=QF0 hI
  have htr:QeU n.arcs[i].travel=some (trA n.arcs[i]):=by rw [QEt hB (ht _ hmem)]; exact t1
  have hlen:=QBM hn i
  have hE:=QBL hn i
  have hEe:arE n i=(arcX n n.arcs[i] (knA n i n.arcs[i]) (trA n.arcs[i])).map (fltA (decS i)):=by unfold arE; rw [e]
  rw [hEe,List.length_map] at hE
  show QdS n l (l0++arF n i) ((n.arcs.take i).foldl _ []) (i:Int)=some (.inl (l0++arF n (i+1),(n.arcs.take (i+1)).foldl _ [],((i+1:Nat):Int)))
  unfold QdS
  rw [Qbp (by simp [lenI]; omega),QaZ e,Qan,QHE htr t2 hI.slow,Qan,QCr]
  rw [List.take_add_one,e,Option.toList_some,List.foldl_append,QBN,hEe]
  generalize n.arcs[i]=a at *
  generalize arcX n a (knA n i a) (trA a)=E at hE ⊢
  generalize (n.arcs.take i).foldl (fun m a=>mPut Qar.keq m (Qar.mk a.from_ a.to_ a.profile) true) []=M
  have hin:=QeO E.length (fun j=>((l0++arF n i)++(E.take j).map (fltA (decS i)),(j:Int))) (B:=fun s:List Qaa×Int=>QdT n l M (i:Int) a E s.1 s.2) (e:=(l0++arF n i)++E.map (fltA (decS i))) (by omega) (fun j hj=>by
   have e1:E[j]?=some E[j]:=List.getElem?_eq_getElem hj
   have hadd2:addK .i64 (j:Int) 1=((j+1:Nat):Int):=by rw [addI (by omega) (by omega)]; omega
   show QdT n l M (i:Int) a E ((l0++arF n i)++(E.take j).map (fltA (decS i))) (j:Int)=_
   unfold QdT
   rw [Qbp (by simp only [Qou,lenI]; omega),QaZ e1,Qan,d1,Qan,Qcn (by show 4+(decS i).size≤_; omega),Qcn (QcW (by simp only [List.length_append,List.length_map,List.length_take,List.length_singleton]; omega)),hadd2,List.take_add_one,e1,Option.toList_some,List.map_append,← List.append_assoc]
   rfl) (by
   show QdT n l M (i:Int) a E ((l0++arF n i)++(E.take E.length).map (fltA (decS i))) (E.length:Int)=_
   unfold QdT
   rw [Qby (by simp [lenI]),List.take_length])
  rw [Qfs (show QaX (fun s:List Qaa×Int=>QdT n l M (i:Int) a E s.1 s.2) (l0++arF n i,0)=_ by simpa using hin)]
  unfold QfE
  rw [Qan,hadd]
  rfl) (by
  show QdS n l (l0++arF n n.arcs.length) ((n.arcs.take n.arcs.length).foldl _ []) (n.arcs.length:Int)=_
  unfold QdS
  rw [Qby (by simp [lenI])])
 rw [Qfs (show QaX (fun s:List Qaa×List (Qar×Bool)×Int=>QdS n l s.1 s.2.1 s.2.2) (l0,[],0)=_ by simpa [arF] using this)]
theorem QCX (hn:NetI n) (hB:DecB B) (hp:n.arcs.length≤B) {l0:List Qaa} (hl:l0.length≤1048578):Qeh n l0=some (l0++arF n n.arcs.length):=by
 have hal:=hn.arcs
 unfold Qeh
 have:=QeO n.arcs.length (fun i=>(l0++arF n i,(i:Int))) (B:=fun s:List Qaa×Int=>Qbt n l0 s.1 s.2) (e:=l0++arF n n.arcs.length) (by omega) (fun i hi=>by
  have e:n.arcs[i]?=some n.arcs[i]:=List.getElem?_eq_getElem hi
  have hmem:=List.getElem_mem hi
  have hI:=hn.arcI _ hmem
  have hadd:addK .i64 (i:Int) 1=((i+1:Nat):Int):=by rw [addI (by omega) (by omega)]; omega
  obtain ⟨d1,d2,d3⟩:=QDH hB (show i<B by omega)
  obtain ⟨t1,t2⟩:=QF0 hI
  have hlen:=QBM hn i
  have hE:=QBL hn i
  have hEe:arE n i=(arcX n n.arcs[i] (knA n i n.arcs[i]) (trA n.arcs[i])).map (fltA (decS i)):=by unfold arE; rw [e]
  show Qbt n l0 (l0++arF n i) (i:Int)=some (.inl (l0++arF n (i+1),((i+1:Nat):Int)))
  unfold Qbt
  rw [Qbp (by simp [lenI]; omega),QGZ e hal d2 d3 t1 t2 hI.slow,Qan,← hEe,Qcn (QcW (by simp only [List.length_append]; omega)),hadd,QBN,List.append_assoc]) (by
  show Qbt n l0 (l0++arF n n.arcs.length) (n.arcs.length:Int)=_
  unfold Qbt
  rw [Qby (by simp [lenI])])
 rw [Qfs (show QaX (fun s:List Qaa×Int=>Qbt n l0 s.1 s.2) (l0,0)=_ by simpa [arF] using this)]
theorem QD9 (hn:NetI n) (hB:DecB B) (hp:n.places.length≤B) (ha:n.arcs.length≤B) (ht:∀ a∈n.arcs,a.travel.length≤B):Ql1 n=some (netF n)∧QfU n=some (netF n):=by
 have hpl:=hn.places
 have hal:=hn.arcs
 have hlen:=QAI (n:=n) n.places.length
 constructor
 ·have main:∀ l0:List Qaa,l0.length≤1→Qg3 n l0=some ((l0++plF n n.places.length)++((if n.arcs.length>1024 then [Qaa.mk 4 Qg8] else [])++arF n n.arcs.length)):=fun l0 h0=>by
   unfold Qg3
   rw [Qfs (QBn hn hB hp h0)]
   by_cases h:n.arcs.length>1024
   ·rw [Qbp (by simp [lenI]; omega),Qcn (QcW (by simp only [List.length_append,List.length_singleton]; omega)),QAK hn hB ha ht (by simp only [List.length_append,List.length_singleton]; omega),if_pos h]
    simp
   ·rw [Qby (by simp [lenI]; omega),QAK hn hB ha ht (by simp only [List.length_append]; omega),if_neg h]
    simp
  unfold Ql1 netF
  by_cases h:n.places.length>24
  ·rw [Qbp (by simp [lenI]; omega),Qcn (QcW (by simp)),main _ (by simp),if_pos h]
  ·rw [Qby (by simp [lenI]; omega),main _ (by simp),if_neg h]
 ·have main:Qcj n=some ((if n.places.length>24 then [Qaa.mk 4 Qd6] else [])++plF n n.places.length):=by
   unfold Qcj
   by_cases h:n.places.length>24
   ·rw [Qbp (by simp [lenI]; omega),Qcn (QcW (by simp)),Qzj hn hB hp (l:=[]) (by simp),if_pos h]
   ·rw [Qby (by simp [lenI]; omega),Qzj hn hB hp (l:=[]) (by simp),if_neg h]
  unfold QfU netF
  rw [main,Qan]
  have hle:((if n.places.length>24 then [Qaa.mk 4 Qd6] else [])++plF n n.places.length).length≤1048577:=by
   rw [List.length_append]
   split <;> simp <;> omega
  generalize (if n.places.length>24 then [Qaa.mk 4 Qd6] else [])++plF n n.places.length=l0 at hle
  by_cases h:n.arcs.length>1024
  ·rw [Qbp (by simp [lenI]; omega),Qcn (QcW (by simp only [List.length_append,List.length_singleton]; omega)),QCX hn hB ha (by simp only [List.length_append,List.length_singleton]; omega),if_pos h]
   simp
  ·rw [Qby (by simp [lenI]; omega),QCX hn hB ha (by omega),if_neg h]
   simp
end
end Go.Proofs.YtbilkblifgaflaaGreatDoor
namespace Go.Proofs.YtbilkblifgaflaaGreatDoor
set_option linter.unusedSimpArgs false
set_option linter.unusedVariables false
set_option linter.unusedSectionVars false
def QyQ (t:Bool) (p q:Qav):Bool:=(eqI p.x0 q.x0&&eqI p.x1 q.x1)||(t&&(eqI p.x0 q.x1&&eqI p.x1 q.x0))
def badP (orders:Int) (p:Qav):Bool:=((((ltI p.x0 0)||(geI p.x0 orders))||(ltI p.x1 0))||(geI p.x1 orders))||(eqI p.x0 p.x1)
def pE (t:Bool) (orders:Int) (l:List Qav) (i:Nat):Nat:=match l[i]? with
 | none=>0
 | some p=>if (badP orders p||(l.take i).any (QyQ t p))=true then 1 else 0
def pN (t:Bool) (orders:Int) (l:List Qav):Nat→Nat
 | 0=>0
 | k+1=>pN t orders l k+pE t orders l k
def QBG (t:Bool) (orders:Int) (l:List Qav):Nat:=(if l.length>16 then 1 else 0)+pN t orders l l.length
def SmL (r:List Qaa) (k:Nat):Prop:=r.length=k∧∀ f∈r,f.at_.size≤64
theorem SmL.snoc {r:List Qaa} {k:Nat} {f:Qaa} (h:SmL r k) (hf:f.at_.size≤64):SmL (r++[f]) (k+1):=by
 refine ⟨by simp [h.1],fun g hg=>?_⟩
 rcases List.mem_append.1 hg with hg|hg
 ·exact h.2 g hg
 ·rw [List.mem_singleton.1 hg]; exact hf
section
variable {t : Bool} {orders : Int} {l : List Qav} {word : ByteArray} {p : Qav}
theorem QID (i:Nat):pE t orders l i≤1:=by
 unfold pE
 split
 ·omega
 ·split <;> omega
theorem QHW:∀ k,pN t orders l k≤k
 | 0=>Nat.le_refl _
 | k+1=>by
  have h1:=QHW k
  have h2:=QID (t:=t) (orders:=orders) (l:=l) k
  unfold pN
  omega
theorem QIC {i:Nat} (h:l[i]?=some p):pE t orders l i=if (badP orders p||(l.take i).any (QyQ t p))=true then 1 else 0:=by
 unfold pE
 rw [h]
theorem QDI:∀ d:Nat,d<10→(QFW (cvK .i32 (addK .i64 48 (d:Int)))).size=1:=by decide +kernel
theorem QAj:∀ (k fuel n:Nat),n<10 ^ k→1≤k→k≤20→k≤fuel→n<9223372036854775808→∃ s,Qi4 fuel (n:Int)=some s∧s.size≤k
 | 0,_,_,_,h,_,_,_=>by omega
 | k+1,0,_,_,_,_,h,_=>by omega
 | k+1,fuel+1,n,hn,_,h20,hf,hb=>by
  have hr:remK (n:Int) 10=((n % 10:Nat):Int):=by unfold remK; rw [Int.tmod_eq_emod_of_nonneg (by omega)]; rfl
  have h1:=QDI (n % 10) (Nat.mod_lt _ (by omega))
  show ∃ s,Qi3 (Qi4 fuel) (n:Int)=some s∧s.size≤k+1
  unfold Qi3
  rw [hr]
  by_cases h10:n<10
  ·rw [Qbp (by rw [Qou]; omega)]
   exact ⟨_,rfl,by omega⟩
  ·rw [Qby (by rw [Qtb]; omega)]
   have hq:quoK .i64 (n:Int) 10=((n / 10:Nat):Int):=by
    have h2:((n:Int)).tdiv 10=((n / 10:Nat):Int):=by rw [Int.tdiv_eq_ediv_of_nonneg (by omega)]; rfl
    rw [quoI (by rw [h2]; omega) (by rw [h2]; omega),h2]
   have hk1:1≤k:=by
    rcases Nat.eq_zero_or_pos k with rfl|h
    ·simp at hn; omega
    ·exact h
   obtain ⟨s,hs,hsz⟩:=QAj k fuel (n / 10) (by rw [Nat.pow_succ] at hn; omega) hk1 (by omega) (by omega) (by omega)
   rw [hq,hs,Qan,Qcn (by omega)]
   exact ⟨_,rfl,by rw [QgR]; omega⟩
theorem QAk {i:Nat} (hi:i<1048576):∃ s,Qpa (i:Int)=some s∧s.size≤7:=QAj 7 QvU i (by omega) (by omega) (by omega) (by unfold QvU; omega) (by omega)
theorem QFK (a b:Qav):Qqn a b=some (QyQ true a b):=by
 unfold Qqn QyQ
 cases eqI a.x0 b.x0 <;> cases eqI a.x1 b.x1 <;> cases eqI a.x0 b.x1 <;> rfl
theorem QFm (a b:Qav):Qqm a b=some (QyQ false a b):=by
 unfold Qqm QyQ
 cases eqI a.x0 b.x0 <;> cases eqI a.x1 b.x1 <;> rfl
theorem QGL:((geI p.x0 0&&ltI p.x0 orders)&&((geI p.x1 0&&ltI p.x1 orders)&&!eqI p.x0 p.x1))=!badP orders p:=by
 unfold badP
 rw [Bool.eq_iff_iff]
 simp only [andT,ntT,orF,Qxr,Qou,Qtb,QFu,QBE]
 omega
theorem Qw4 {B:List Qaa×Int→Option ((List Qaa×Int)⊕List Qaa)} {l0:List Qaa} {k0:Nat} (h0:SmL l0 k0) (hk0:k0≤1) (hl:l.length≤1048576)
  (step:∀ (i:Nat) (p:Qav) (out:List Qaa),l[i]?=some p→out.length≤1048577→∃ s:ByteArray,s.size≤64∧∃ e:Int,B (out,(i:Int))=some (.inl (if (badP orders p||(l.take i).any (QyQ t p))=true then out++[Qaa.mk e s] else out,(i:Int)+1)))
  (fin:∀ out,B (out,(l.length:Int))=some (.inr out)):post (QaX B (l0,0)) fun r=>SmL r (k0+pN t orders l l.length):=by
 refine Qfw (fun s=>∃ i:Nat,s.2=(i:Int)∧i≤l.length∧SmL s.1 (k0+pN t orders l i)) (fun s=>l.length-s.2.toNat) ⟨0,rfl,Nat.zero_le _,h0⟩ (by simp; omega) ?_
 rintro ⟨out,_⟩ ⟨i,rfl,hi,hS⟩
 have hN:=QHW (t:=t) (orders:=orders) (l:=l) i
 have hS1:=hS.1
 simp only at hS1
 rcases Nat.lt_or_ge i l.length with h|h
 ·have e:l[i]?=some l[i]:=List.getElem?_eq_getElem h
  obtain ⟨s,hs,er,hB⟩:=step i _ out e (by omega)
  rw [hB]
  refine Qic ⟨⟨i+1,by simp,h,?_⟩,by show l.length-((i:Int)+1).toNat<l.length-(i:Int).toNat; omega⟩
  show SmL (if (badP orders l[i]||(l.take i).any (QyQ t l[i]))=true then out++[Qaa.mk er s] else out) (k0+(pN t orders l i+pE t orders l i))
  rw [QIC e]
  split
  ·exact hS.snoc hs
  ·exact hS
 ·obtain rfl:i=l.length:=by omega
  rw [fin]
  exact Qfm hS
theorem Qzh (hl:l.length≤1048576) (hw:word.size≤20) {l0:List Qaa} {k0:Nat} (h0:SmL l0 k0) (hk0:k0≤1):post (Qdp orders word l l0) fun r=>SmL r (k0+pN true orders l l.length):=by
 unfold Qdp
 refine Qbk (Qw4 (t:=true) (orders:=orders) (l:=l) h0 hk0 hl (B:=fun s=>QbQ orders word l s.1 s.2) (fun i p out e ho=>?_) (fun out=>?_)) fun r hr=>QaY.2 hr
 ·have hi:=(List.getElem?_eq_some_iff.1 e).1
  obtain ⟨s,hs,hsz⟩:=QAk (show i<1048576 by omega)
  have hs1:Qa1.size=1:=rfl
  refine ⟨catS (catS word Qa1) s,by rw [QgR,QgR]; omega,?_⟩
  have hok:∀ f:Qaa,okN (out++[f]).length 24:=fun f=>QcW (by simp; omega)
  have hbad:=QGL (p:=p) (orders:=orders)
  have hsl:(l.take i).length=i:=by rw [List.length_take]; omega
  show ∃ e,QbQ orders word l out (i:Int)=_
  unfold QbQ Qhd
  rw [Qbp (by simp [lenI]; omega),inc hi hl,QaZ e,Qan,Qcn (by omega),hs,Qan,Qcn (by rw [QgR]; omega),Qan,Qan,Qcn (hok _),QEm (by omega),Qan]
  have hloop:QaX (fun q=>QbC orders word l out (i:Int) p s (l.take i) q) 0=some (if ((l.take i).any (QyQ true p))=true then out++[Qaa.mk 6 (catS (catS word Qa1) s)] else out):=Qoc (B:=fun q=>QbC orders word l out (i:Int) p s (l.take i) q) (l:=l.take i) (by omega) (QyQ true p) (fun j a h=>by
   show QbC orders word l out (i:Int) p s (l.take i) (j:Int)=_
   unfold QbC
   rw [QhW h,QFK,Qan,Qcn (hok _),incL h (by omega),brs]) (by
   show QbC orders word l out (i:Int) p s (l.take i) ((l.take i).length:Int)=_
   unfold QbC
   rw [QfS])
  rw [Qfs hloop]
  cases hb:badP orders p with
  | true =>
   refine ⟨2,?_⟩
   rw [hb] at hbad
   rw [Bool.true_or,if_pos rfl]
   cases h1:(geI p.x0 0&&ltI p.x0 orders) with
   | false=>rfl
   | true =>
    cases h2:(geI p.x1 0&&ltI p.x1 orders) with
    | false=>rfl
    | true =>
     rw [h1,h2] at hbad
     have:eqI p.x0 p.x1=true:=by
      cases h3:eqI p.x0 p.x1 with
      | true=>rfl
      | false=>rw [h3] at hbad; cases hbad
     rw [QdY,QdY,this]; rfl
  | false =>
   refine ⟨6,?_⟩
   rw [hb] at hbad
   simp only [Bool.not_false,Bool.and_eq_true,Bool.not_eq_true'] at hbad
   rw [show (geI p.x0 0&&ltI p.x0 orders)=true from by rw [hbad.1.1,hbad.1.2]; rfl,show (geI p.x1 0&&ltI p.x1 orders)=true from by rw [hbad.2.1.1,hbad.2.1.2]; rfl,QdY,QdY,hbad.2.2,QcA,Bool.false_or]
 ·show QbQ orders word l out (l.length:Int)=_
  unfold QbQ
  rw [Qby (by simp [lenI])]
theorem Qzg (hl:l.length≤1048576) (hw:word.size≤20) {l0:List Qaa} {k0:Nat} (h0:SmL l0 k0) (hk0:k0≤1):post (QeT orders word l l0) fun r=>SmL r (k0+pN false orders l l.length):=by
 unfold QeT
 refine Qbk (Qw4 (t:=false) (orders:=orders) (l:=l) h0 hk0 hl (B:=fun s=>QcI orders word l s.1 s.2) (fun i p out e ho=>?_) (fun out=>?_)) fun r hr=>QaY.2 hr
 ·have hi:=(List.getElem?_eq_some_iff.1 e).1
  obtain ⟨s,hs,hsz⟩:=QAk (show i<1048576 by omega)
  have hs1:Qa1.size=1:=rfl
  refine ⟨catS (catS word Qa1) s,by rw [QgR,QgR]; omega,?_⟩
  have hok:∀ f:Qaa,okN (out++[f]).length 24:=fun f=>QcW (by simp; omega)
  have hbad:=QGL (p:=p) (orders:=orders)
  have hsl:(l.take i).length=i:=by rw [List.length_take]; omega
  show ∃ e,QcI orders word l out (i:Int)=_
  unfold QcI Qhd
  rw [Qbp (by simp [lenI]; omega),inc hi hl,QaZ e,Qan,Qcn (by omega),hs,Qan,Qcn (by rw [QgR]; omega),Qan,Qan,Qcn (hok _),QEm (by omega),Qan]
  have hloop:QaX (fun q=>Qck orders word l out (i:Int) p s (l.take i) q) 0=some (if ((l.take i).any (QyQ false p))=true then out++[Qaa.mk 6 (catS (catS word Qa1) s)] else out):=Qoc (B:=fun q=>Qck orders word l out (i:Int) p s (l.take i) q) (l:=l.take i) (by omega) (QyQ false p) (fun j a h=>by
   show Qck orders word l out (i:Int) p s (l.take i) (j:Int)=_
   unfold Qck
   rw [QhW h,QFm,Qan,Qcn (hok _),incL h (by omega),brs]) (by
   show Qck orders word l out (i:Int) p s (l.take i) ((l.take i).length:Int)=_
   unfold Qck
   rw [QfS])
  rw [Qfs hloop]
  cases hb:badP orders p with
  | true =>
   refine ⟨2,?_⟩
   rw [hb] at hbad
   rw [Bool.true_or,if_pos rfl]
   cases h1:(geI p.x0 0&&ltI p.x0 orders) with
   | false=>rfl
   | true =>
    cases h2:(geI p.x1 0&&ltI p.x1 orders) with
    | false=>rfl
    | true =>
     rw [h1,h2] at hbad
     have:eqI p.x0 p.x1=true:=by
      cases h3:eqI p.x0 p.x1 with
      | true=>rfl
      | false=>rw [h3] at hbad; cases hbad
     rw [QdY,QdY,this]; rfl
  | false =>
   refine ⟨6,?_⟩
   rw [hb] at hbad
   simp only [Bool.not_false,Bool.and_eq_true,Bool.not_eq_true'] at hbad
   rw [show (geI p.x0 0&&ltI p.x0 orders)=true from by rw [hbad.1.1,hbad.1.2]; rfl,show (geI p.x1 0&&ltI p.x1 orders)=true from by rw [hbad.2.1.1,hbad.2.1.2]; rfl,QdY,QdY,hbad.2.2,QcA,Bool.false_or]
 ·show QcI orders word l out (l.length:Int)=_
  unfold QcI
  rw [Qby (by simp [lenI])]
theorem QAN (hl:l.length≤1048576) (hw:word.size≤20) {l0:List Qaa} {k0:Nat} (h0:SmL l0 k0) (hk0:k0≤1):post (Qd2 orders l word t l0) fun r=>SmL r (k0+pN t orders l l.length):=by
 unfold Qd2
 refine Qbk (Qw4 (t:=t) (orders:=orders) (l:=l) h0 hk0 hl (B:=fun s=>Qbx orders l word t s.1 s.2) (fun i p out e ho=>?_) (fun out=>?_)) fun r hr=>QaY.2 hr
 ·have hi:=(List.getElem?_eq_some_iff.1 e).1
  obtain ⟨s,hs,hsz⟩:=Qup (show i<1048576 by omega)
  have hs1:Qa1.size=1:=rfl
  refine ⟨catS (catS word Qa1) s,by rw [QgR,QgR]; omega,?_⟩
  have hok:∀ f:Qaa,okN (out++[f]).length 24:=fun f=>QcW (by simp; omega)
  show ∃ e,Qbx orders l word t out (i:Int)=_
  unfold Qbx
  have htw:QaX (fun q:Bool×Int=>QbM orders l word t out (i:Int) p s q.1 q.2) (false,0)=some ((l.take i).any (QyQ t p)):=by
   have:=QeO i (fun k=>((l.take k).any (QyQ t p),(k:Int))) (B:=fun q:Bool×Int=>QbM orders l word t out (i:Int) p s q.1 q.2) (e:=(l.take i).any (QyQ t p)) (by omega) (fun k hk=>by
    have e1:l[k]?=some (l[k]'(by omega)):=List.getElem?_eq_getElem _
    have hadd:addK .i64 (k:Int) 1=((k+1:Nat):Int):=by rw [addI (by omega) (by omega)]; omega
    show QbM orders l word t out (i:Int) p s ((l.take k).any (QyQ t p)) (k:Int)=_
    unfold QbM
    rw [Qbp (by simp; omega),QaZ e1,Qan,hadd,List.take_add_one,e1,Option.toList_some,List.any_append]
    generalize l[k]'(by omega)=q
    simp only [List.any_cons,List.any_nil,Bool.or_false]
    have sy:∀ a b:Int,eqI a b=eqI b a:=fun a b=>by rw [Bool.eq_iff_iff,QxR,QxR]; exact eq_comm
    unfold QyQ
    rw [sy q.x0 p.x0,sy q.x1 p.x1,sy q.x0 p.x1,sy q.x1 p.x0]
    cases (l.take k).any _ <;> cases eqI p.x0 q.x0 <;> cases eqI p.x1 q.x1 <;> cases t <;> cases eqI p.x1 q.x0 <;> cases eqI p.x0 q.x1 <;> rfl) (by
    show QbM orders l word t out (i:Int) p s ((l.take i).any (QyQ t p)) (i:Int)=_
    unfold QbM
    rw [Qby (by simp)])
   simpa using this
  rw [Qbp (by simp [lenI]; omega),inc hi hl,QaZ e,Qan,Qcn (by omega),hs,Qan,Qcn (by rw [QgR]; omega),Qfs htw,Qcn (hok _),Qcn (hok _)]
  show ∃ e,br (badP orders p) _ _=_
  cases badP orders p with
  | true=>exact ⟨2,rfl⟩
  | false =>
   refine ⟨6,?_⟩
   rw [QcA,brs,Bool.false_or]
   split <;> rfl
 ·show Qbx orders l word t out (l.length:Int)=_
  unfold Qbx
  rw [Qby (by simp [lenI])]
theorem QFO (hw:word.size≤20) {e:Int}:SmL [Qaa.mk e word] 1:=⟨rfl,fun f hf=>by rw [List.mem_singleton.1 hf]; show word.size≤64; omega⟩
theorem QFM:SmL [] 0:=⟨rfl,fun f hf=>by cases hf⟩
theorem Qvo:QBG t orders l≤1+l.length:=by
 have:=QHW (t:=t) (orders:=orders) (l:=l) l.length
 unfold QBG
 split <;> omega
theorem QIF (hl:l.length≤1048576) (hw:word.size≤20):post (Qfp orders word l) fun r=>SmL r (QBG true orders l):=by
 unfold Qfp QBG
 refine Qa2 (fun h=>QbP (QcW (by simp)) ?_) (fun h=>?_)
 ·rw [if_pos (by rw [Qxs,lenI] at h; omega)]; exact Qzh hl hw (QFO hw) (Nat.le_refl _)
 ·rw [if_neg (by rw [Qu6,lenI] at h; omega)]; exact Qzh hl hw QFM (by omega)
theorem QIE (hl:l.length≤1048576) (hw:word.size≤20):post (QhD orders word l) fun r=>SmL r (QBG false orders l):=by
 unfold QhD QBG
 refine Qa2 (fun h=>QbP (QcW (by simp)) ?_) (fun h=>?_)
 ·rw [if_pos (by rw [Qxs,lenI] at h; omega)]; exact Qzg hl hw (QFO hw) (Nat.le_refl _)
 ·rw [if_neg (by rw [Qu6,lenI] at h; omega)]; exact Qzg hl hw QFM (by omega)
theorem refP (hl:l.length≤1048576) (hw:word.size≤20):post (QeB orders l word t) fun r=>SmL r (QBG t orders l):=by
 unfold QeB QBG
 refine Qa2 (fun h=>QbP (QcW (by simp)) ?_) (fun h=>?_)
 ·rw [if_pos (by rw [Qxs,lenI] at h; omega)]; exact QAN hl hw (QFO hw) (Nat.le_refl _)
 ·rw [if_neg (by rw [Qu6,lenI] at h; omega)]; exact QAN hl hw QFM (by omega)
theorem QIB:QgQ orders l word t=QeB orders l word t:=rfl
end
theorem SmL.app {a b:List Qaa} {j k:Nat} (ha:SmL a j) (hb:SmL b k):SmL (a++b) (j+k):=by
 refine ⟨by simp [ha.1,hb.1],fun f hf=>?_⟩
 rcases List.mem_append.1 hf with hf|hf
 ·exact ha.2 f hf
 ·exact hb.2 f hf
theorem QCT {orders:Int} {a b:List Qav} (ha:a.length≤1048576) (hb:b.length≤1048576):post (Qqj orders a b) fun r=>SmL r (QBG true orders a+QBG false orders b):=by
 have h1:=Qvo (t:=true) (orders:=orders) (l:=a)
 have h2:=Qvo (t:=false) (orders:=orders) (l:=b)
 unfold Qqj
 refine Qbk (QIF ha (by show 5≤20; omega)) fun r hr=>Qbk (QIE hb (by show 6≤20; omega)) fun q hq=>?_
 have:=hr.1; have:=hq.1
 exact QbP (QcW (by simp; omega)) (QaY.2 (hr.app hq))
theorem QEg {orders:Int} {a b:List Qav} (ha:a.length≤1048576) (hb:b.length≤1048576):post (QfY orders a b) fun r=>SmL r (QBG true orders a+QBG false orders b):=by
 have h1:=Qvo (t:=true) (orders:=orders) (l:=a)
 have h2:=Qvo (t:=false) (orders:=orders) (l:=b)
 unfold QfY
 rw [QIB]
 refine Qbk (refP ha (by show 5≤20; omega)) fun r hr=>Qbk (refP hb (by show 6≤20; omega)) fun q hq=>?_
 have:=hr.1; have:=hq.1
 exact QbP (QcW (by simp; omega)) (QaY.2 (hr.app hq))
end Go.Proofs.YtbilkblifgaflaaGreatDoor
namespace Go.Proofs.YtbilkblifgaflaaGreatDoor
set_option linter.unusedSimpArgs false
set_option linter.unusedVariables false
set_option linter.unusedSectionVars false
section
variable {x : Qab}
theorem Qtd {word:ByteArray} {r:List Qaa} (hw:word.size≤20) (hr:r.length≤5000000000000) (hs:∀ f∈r,f.at_.size≤64):post (Qgm word r) fun x=>x.length=r.length:=by
 unfold Qgm
 have hm:mkI 0 (lenI r) 24 (Qaa.mk 0 ByteArray.empty)=some []:=by unfold mkI lenI; rw [if_pos (by omega)]; rfl
 rw [hm,Qan]
 refine QqM ?_
 refine Qfw (fun s=>∃ k:Nat,s.2=(k:Int)∧k≤r.length∧s.1.length=k) (fun s=>r.length-s.2.toNat) ⟨0,rfl,Nat.zero_le _,rfl⟩ (by simp; omega) ?_
 rintro ⟨out,_⟩ ⟨k,rfl,hk,hl⟩
 show post (Qgg word r out (k:Int)) _
 unfold Qgg Qhz
 refine Qa2 (fun hb=>?_) (fun hb=>Qfm (QaY.2 ?_))
 ·simp only [Qou,lenI] at hb
  simp only at hl
  have hk':k<r.length:=by omega
  have e1:r[k]?=some r[k]:=List.getElem?_eq_getElem hk'
  have hsk:(r[k]).at_.size≤64:=hs _ (List.getElem_mem hk')
  have hadd:addK .i64 (k:Int) 1=(k:Int)+1:=addI (by omega) (by omega)
  have hs1:Qa1.size=1:=rfl
  rw [QaZ e1,Qan,hadd]
  have leaf:∀ f:Qaa,post (chk (okN (out++[f]).length 24) (some (Sum.inl (out++[f],(k:Int)+1):(List Qaa×Int)⊕(List Qaa)))) fun x=>(∀ s',x=.inl s'→(∃ k:Nat,s'.2=(k:Int)∧k≤r.length∧s'.1.length=k)∧r.length-s'.2.toNat<r.length-((out,(k:Int)):List Qaa×Int).2.toNat)∧∀ e,x=.inr e→post (some e) fun x=>x.length=r.length :=
   fun f=>QbP (QcW (by simp; omega)) (Qic ⟨⟨k+1,by simp,by omega,by simp; omega⟩,by simp; omega⟩)
  exact Qa2 (fun _=>leaf _) (fun _=>QbP (by omega) (QbP (by rw [QgR]; omega) (leaf _)))
 ·simp only [Qtb,lenI] at hb
  simp only at hl
  omega
theorem QB0 {a b c d:List Qaa} (h:a.length+b.length+c.length+d.length≤5000000000000):Qb0 [a,b,c,d]=some (a++b++c++d):=by
 have l1:QaX (fun s:Int×Int=>QaO [a,b,c,d] s.1 s.2) (0,0)=some ((a.length+b.length+c.length+d.length:Nat):Int):=by
  have:=QeO 4 (fun k=>(((([a,b,c,d].take k).map List.length).sum:Nat),(k:Int))) (B:=fun s:Int×Int=>QaO [a,b,c,d] s.1 s.2) (e:=((a.length+b.length+c.length+d.length:Nat):Int)) (by omega) (fun k hk=>by
   have e1:[a,b,c,d][k]?=some ([a,b,c,d][k]'(by simpa using hk)):=List.getElem?_eq_getElem _
   have hadd:addK .i64 (k:Int) 1=((k+1:Nat):Int):=by rw [addI (by omega) (by omega)]; omega
   have hs:(([a,b,c,d].take (k+1)).map List.length).sum=(([a,b,c,d].take k).map List.length).sum+([a,b,c,d][k]'(by simpa using hk)).length:=by
    rw [List.take_add_one,e1,Option.toList_some,List.map_append,List.sum_append]; simp
   have hle:(([a,b,c,d].take (k+1)).map List.length).sum≤5000000000000:=by
    have:k=0∨k=1∨k=2∨k=3:=by omega
    rcases this with rfl|rfl|rfl|rfl <;> simp <;> omega
   show QaO [a,b,c,d] (((([a,b,c,d].take k).map List.length).sum:Nat):Int) (k:Int)=some (.inl (((([a,b,c,d].take (k+1)).map List.length).sum:Nat),((k+1:Nat):Int)))
   unfold QaO
   rw [Qbp (by simp [lenI]; omega),QaZ e1,Qan,hadd]
   rw [hs] at hle ⊢
   unfold lenI
   rw [addI (by omega) (by omega),Qby (by rw [Qtb]; omega)]
   simp) (by
   show QaO [a,b,c,d] (((([a,b,c,d].take 4).map List.length).sum:Nat):Int) ((4:Nat):Int)=_
   unfold QaO
   rw [Qby (by simp [lenI])]
   simp; omega)
  simpa using this
 have l2:Qbf ((a.length+b.length+c.length+d.length:Nat):Int)=some []:=by
  unfold Qbf
  have hz:subK .i64 (((a.length+b.length+c.length+d.length:Nat)):Int) (subK .i64 0 0)=((a.length+b.length+c.length+d.length:Nat):Int):=by
   rw [subI (a:=(0:Int)) (b:=0) (by omega) (by omega),subI (by omega) (by omega)]; omega
  rw [hz,Qby (by rw [Qtb]; omega)]
  by_cases h0:0<a.length+b.length+c.length+d.length
  ·rw [Qbp (by rw [Qxs]; omega)]
   unfold mkI
   rw [if_pos (by omega),Qan]
   unfold slcI
   rw [if_pos (by simp; omega)]
   rfl
  ·rw [Qby (by rw [Qu6]; omega)]
 have l3:QaX (fun s:List Qaa×Int=>QaK [a,b,c,d] s.1 s.2) ([],0)=some (a++b++c++d):=by
  have:=QeO 4 (fun k=>(([a,b,c,d].take k).flatten,(k:Int))) (B:=fun s:List Qaa×Int=>QaK [a,b,c,d] s.1 s.2) (e:=a++b++c++d) (by omega) (fun k hk=>by
   have e1:[a,b,c,d][k]?=some ([a,b,c,d][k]'(by simpa using hk)):=List.getElem?_eq_getElem _
   have hadd:addK .i64 (k:Int) 1=((k+1:Nat):Int):=by rw [addI (by omega) (by omega)]; omega
   have hs:([a,b,c,d].take (k+1)).flatten=([a,b,c,d].take k).flatten++([a,b,c,d][k]'(by simpa using hk)):=by
    rw [List.take_add_one,e1,Option.toList_some,List.flatten_append]; simp
   have hle:(([a,b,c,d].take (k+1)).flatten).length≤5000000000000:=by
    have:k=0∨k=1∨k=2∨k=3:=by omega
    rcases this with rfl|rfl|rfl|rfl <;> simp <;> omega
   show QaK [a,b,c,d] (([a,b,c,d].take k).flatten) (k:Int)=some (.inl (([a,b,c,d].take (k+1)).flatten,((k+1:Nat):Int)))
   unfold QaK
   rw [hs] at hle ⊢
   rw [Qbp (by simp [lenI]; omega),QaZ e1,Qan,hadd,Qcn (QcW (by omega))]) (by
   show QaK [a,b,c,d] (([a,b,c,d].take 4).flatten) ((4:Nat):Int)=_
   unfold QaK
   rw [Qby (by simp [lenI])]
   simp)
  simpa using this
 unfold Qb0
 rw [Qfs l1,l2,Qan,Qfs l3]
structure FewX (x:Qab):Prop where
 places:x.net.places.length≤100
 arcs:x.net.arcs.length≤100
 travel:∀ a∈x.net.arcs,a.travel.length≤100
 types:x.types.length≤100
 orders:x.orders.length≤100
theorem QFz (hI:Qxq x) (hF:FewX x):∃ rp rr,Qiq x=some rp∧QbZ x=some rr∧rp.length=rr.length:=by
 have h1:=hI.types; have h2:=hI.orders; have h3:=hI.apart; have h4:=hI.before; have h5:=hI.net.arcs
 obtain ⟨n1,n2⟩:=QD9 hI.net QFg hF.places hF.arcs hF.travel
 obtain ⟨r,hr,hE⟩:=QsL (n:=x.net) hI.net
 rw [n2] at hr
 cases hr
 have l1:=hE.len0
 have s1:∀ f∈netF x.net,f.at_.size≤64:=hE.sms
 obtain ⟨t,ht,htE⟩:=QwC (n:=x.net) hI.net.places h1 hI.typI
 have l2:=htE.len0
 have s2:∀ f∈t,f.at_.size≤64:=htE.sms
 have ht':Qnt x.net x.types=some t:=by rw [QBA hF.types fun y hy=>(hI.typI y hy).cap]; exact ht
 have hd:Qsc x.types=some (Qur x.types:Int):=QyW (l0:=x.types)
 obtain ⟨o,ho,hoE⟩:=QwD (n:=x.net) (types:=x.types.length) (dims:=Qur x.types) hI.net.places h2 hI.ordI
 have l3:=hoE.len0
 have s3:∀ f∈o,f.at_.size≤64:=hoE.sms
 have ho':Qnw x.net (Qur x.types:Int) (lenI x.types) x.orders=some o:=by rw [QzQ hF.orders fun y hy=>(hI.ordI y hy).load]; exact ho
 obtain ⟨p,hp,hpS⟩:=QCT (orders:=lenI x.orders) h3 h4
 obtain ⟨q,hq,hqS⟩:=QEg (orders:=lenI x.orders) h3 h4
 have b1:=Qvo (t:=true) (orders:=lenI x.orders) (l:=x.apart)
 have b2:=Qvo (t:=false) (orders:=lenI x.orders) (l:=x.before)
 have lp:=hpS.1
 have lq:=hqS.1
 obtain ⟨u1,hu1,k1⟩:=Qtd (word:=Qob) (show 3≤20 by omega) (by omega) s1
 obtain ⟨u2,hu2,k2⟩:=Qtd (word:=QqR) (show 5≤20 by omega) (by omega) s2
 obtain ⟨u3,hu3,k3⟩:=Qtd (word:=Qpe) (show 6≤20 by omega) (by omega) s3
 obtain ⟨u4,hu4,k4⟩:=Qtd (word:=QqQ) (show 5≤20 by omega) (by omega) hpS.2
 obtain ⟨v1,hv1,j1⟩:=(Qmf (word:=Qob) (show 3≤20 by omega) (by omega) s1:post (QeR Qob _) _)
 obtain ⟨v2,hv2,j2⟩:=Qmf (word:=QqR) (show 5≤20 by omega) (by omega) s2
 obtain ⟨v3,hv3,j3⟩:=Qmf (word:=Qpe) (show 6≤20 by omega) (by omega) s3
 obtain ⟨v4,hv4,j4⟩:=Qmf (word:=QqQ) (show 5≤20 by omega) (by omega) hqS.2
 have hv1':QeR Qob (netF x.net)=some v1:=hv1
 refine ⟨u1++u2++u3++u4,((v1++v2)++v3)++v4,?_,?_,by simp; omega⟩
 ·unfold Qiq
  rw [n1,Qan,hu1,Qan,ht',Qan,hu2,Qan,hd,Qan,ho',Qan,hu3,Qan,hp,Qan,hu4,Qan,QB0 (by omega),Qan]
 ·unfold QbZ
  rw [n2,Qan,hv1',Qan,ht,Qan,hv2,Qan,Qcn (QcW (by simp; omega)),QyW,Qan,show lenI x.types=((x.types.length:Nat):Int) from rfl,ho,Qan,hv3,Qan,Qcn (QcW (by simp; omega)),hq,Qan,hv4,Qan,Qcn (QcW (by simp; omega))]
theorem QDT (hI:Qxq x) (hF:FewX x):∃ rp rr,Qiq x=some rp∧QbZ x=some rr∧rp.length=rr.length∧(rr=[]→QkJ x):=by
 obtain ⟨rp,rr,h1,h2,h3⟩:=QFz hI hF
 obtain ⟨q,hq,hP⟩:=QzA hI
 rw [h2] at hq
 cases hq
 exact ⟨rp,rr,h1,h2,h3,hP⟩
end
end Go.Proofs.YtbilkblifgaflaaGreatDoor
namespace Go.Proofs.YtbilkblifgaflaaGreatDoor
set_option linter.unusedSimpArgs false
set_option linter.unusedVariables false
set_option linter.unusedSectionVars false
section
variable {n : Qag} {profile from_ to_ t : Int}
theorem Qym {C:List Int→Prop} {arcs:List Qai} {s:List Int} (h0:C s) (hs:∀ (u:List Int) (a:Qai),a∈arcs→C u→C (QAO profile u a)):∀ j,C (iter profile arcs s j)
 | 0=>h0
 | j+1=>by
  have ih:=Qym h0 hs j
  show C (pass profile arcs (iter profile arcs s j))
  unfold pass QrW
  rw [List.take_length]
  generalize iter profile arcs s j=u at ih
  have key:∀ (l:List Qai),(∀ a∈l,a∈arcs)→∀ u,C u→C (l.foldl (QAO profile) u):=by
   intro l
   induction l with
   | nil=>intro _ u hu; exact hu
   | cons a r ihl =>
    intro hl u hu
    exact ihl (fun b hb=>hl b (List.mem_cons_of_mem _ hb)) _ (hs u a (hl a (List.mem_cons_self ..)) hu)
  exact key arcs (fun a ha=>ha) u ih
theorem QDJ (h0:0≤from_) (h1:from_<n.places.length):earS n profile from_ t=iter profile n.arcs (start n.places.length from_ t) n.places.length:=by
 unfold earS
 rw [if_pos (by unfold QfT; simp; omega)]
theorem Qy0:(earS n profile from_ t).length=n.places.length:=by
 unfold earS
 split
 ·rw [QwS]; simp [start]
 ·simp
theorem QFi (hok:Qzv n) (h0:0≤from_) (h1:from_<n.places.length) (ht:0≤t) (ht':t≤1048576) {a:Qai} (ha:a∈n.arcs):QF7 profile (earS n profile from_ t) a:=by
 obtain ⟨i,hi⟩:=List.getElem?_of_mem ha
 have hil:=(List.getElem?_eq_some_iff.1 hi).1
 have hp:=Qwq (profile:=profile) (t:=t) hok h0 h1 ht ht' n.places.length
 have e1:=(hp i (by omega)).2 (by omega)
 have e2:=(hp (i+1) (by omega)).2 (by omega)
 rw [Qqb hi,e1] at e2
 have hl:(iter profile n.arcs (start n.places.length from_ t) n.places.length).length=n.places.length:=by rw [QwS]; simp [start]
 rw [QDJ h0 h1]
 have hno:¬ use profile (iter profile n.arcs (start n.places.length from_ t) n.places.length) a:=fun hu=>QHe hl (hok.all a ha) hu e2
 intro hpr hfr
 unfold use at hno
 have:¬ (at_ (iter profile n.arcs (start n.places.length from_ t) n.places.length) a.to_.toNat<0∨arrA a (at_ (iter profile n.arcs (start n.places.length from_ t) n.places.length) a.from_.toNat)<at_ (iter profile n.arcs (start n.places.length from_ t) n.places.length) a.to_.toNat):=fun h=>hno ⟨hpr,hfr,h⟩
 omega
theorem QCY {s:List Int} {a:Qai} (hl:s.length=n.places.length) (ha:QBC n.places.length a) (v:Nat):at_ (QAO profile s a) v=at_ s v∨(use profile s a∧v=a.to_.toNat∧at_ (QAO profile s a) v=arrA a (at_ s a.from_.toNat)):=by
 by_cases hu:use profile s a
 ·rw [Qte hu,QDA (by have:=ha.to0; have:=ha.to1; omega)]
  by_cases hv:v=a.to_.toNat
  ·rw [if_pos hv]; exact .inr ⟨hu,hv,rfl⟩
  ·rw [if_neg hv]; exact .inl rfl
 ·rw [Qnn hu]; exact .inl rfl
theorem QFj (hok:Qzv n) (h0:0≤from_) (h1:from_<n.places.length) (ht:0≤t):0≤at_ (earS n profile from_ t) from_.toNat∧at_ (earS n profile from_ t) from_.toNat≤t:=by
 rw [QDJ h0 h1]
 have:=Qym (profile:=profile) (C:=fun s=>s.length=n.places.length∧0≤at_ s from_.toNat∧at_ s from_.toNat≤t) (arcs:=n.arcs) (s:=start n.places.length from_ t) ⟨by simp [start],by rw [Qz2 h0 h1,if_pos rfl]; omega⟩ (fun u a ha hu=>by
  obtain ⟨u1,u2,u3⟩:=hu
  have hA:=hok.all a ha
  refine ⟨by rw [Qyz]; exact u1,?_⟩
  rcases QCY (profile:=profile) u1 hA from_.toNat with h|⟨h2,h3,h4⟩
  ·rw [h]; exact ⟨u2,u3⟩
  ·rw [h4]
   have hge:=QAa hA (at_ u a.from_.toNat)
   obtain ⟨_,k1,k2⟩:=h2
   rw [← h3] at k2
   omega) n.places.length
 exact this.2
theorem QDK (hok:Qzv n) (h0:0≤from_) (h1:from_<n.places.length) (ht:0≤t) {S:List Int} (hS:∀ a∈n.arcs,QF7 profile S a) (hf:0≤at_ S from_.toNat∧at_ S from_.toNat≤t) (v:Nat) (hv:0≤at_ (earS n profile from_ t) v) :
  0≤at_ S v∧at_ S v≤at_ (earS n profile from_ t) v:=by
 rw [QDJ h0 h1] at hv ⊢
 have:=Qym (profile:=profile) (C:=fun s=>s.length=n.places.length∧∀ v,0≤at_ s v→0≤at_ S v∧at_ S v≤at_ s v) (arcs:=n.arcs) (s:=start n.places.length from_ t) ⟨by simp [start],fun v hv=>by
  rw [Qz2 h0 h1] at hv ⊢
  split at hv
  ·rename_i h; subst h; rw [if_pos rfl]; exact hf
  ·omega⟩ (fun u a ha hu=>by
  obtain ⟨u1,u2⟩:=hu
  have hA:=hok.all a ha
  refine ⟨by rw [Qyz]; exact u1,fun v hv=>?_⟩
  rcases QCY (profile:=profile) u1 hA v with h|⟨h2,h3,h4⟩
  ·rw [h] at hv ⊢; exact u2 v hv
  ·rw [h4]
   obtain ⟨k0,k1,k2⟩:=h2
   obtain ⟨s1,s2⟩:=u2 _ k1
   obtain ⟨d1,d2⟩:=hS a ha k0 s1
   have hm:=QDz hA s2
   rw [h3]
   omega) n.places.length
 exact this.2 v hv
theorem QFk (hok:Qzv n) (h0:0≤from_) (h1:from_<n.places.length) {d e:Int} (hd:0≤d) (hde:d≤e) (he:e≤1048576) (v:Nat) (hv:0≤at_ (earS n profile from_ e) v):0≤at_ (earS n profile from_ d) v∧at_ (earS n profile from_ d) v≤at_ (earS n profile from_ e) v:=by
 have hf:=QFj (profile:=profile) hok h0 h1 hd
 exact QDK hok h0 h1 (by omega) (fun a ha=>QFi hok h0 h1 hd (by omega) ha) ⟨hf.1,by omega⟩ v hv
end
end Go.Proofs.YtbilkblifgaflaaGreatDoor
namespace Go.Proofs.YtbilkblifgaflaaGreatDoor
set_option linter.unusedSimpArgs false
set_option linter.unusedVariables false
set_option linter.unusedSectionVars false
structure QHw (x:Qab):Prop where
 orders:x.orders.length≤3
 types:x.types.length≤3
 places:x.net.places.length≤6
 arcs:x.net.arcs.length≤30
 travel:∀ a∈x.net.arcs,a.travel.length≤20
section
variable {x : Qab} {o : Qac} {t : Qaf} {place d : Int}
theorem QwM (hI:Qxq x):post (Qhh x) fun ok=>ok=true→QHw x:=by
 have hal:=hI.net.arcs
 unfold Qhh
 refine Qa2 (fun _=>QaY.2 fun h=>by cases h) (fun h=>?_)
 simp only [orF,Qu6,lenI] at h
 obtain ⟨⟨⟨h1,h2⟩,h3⟩,h4⟩:=h
 rw [Qfs (Qoc (B:=fun s=>QdX x s) (l:=x.net.arcs) (by omega) (fun a=>gtI (lenI a.travel) 20||gtI (lenI a.slow) 20) (y:=(.inr false:Unit⊕Bool)) (N:=.inl ()) (fun i a h=>by
  show QdX x i=_
  unfold QdX
  rw [QhW h,incL h (by omega)]
  cases gtI (lenI a.travel) 20 <;> cases gtI (lenI a.slow) 20 <;> rfl) (by
  show QdX x x.net.arcs.length=_
  unfold QdX
  rw [QfS]))]
 by_cases ha:(x.net.arcs.any fun a=>gtI (lenI a.travel) 20||gtI (lenI a.slow) 20)=true
 ·rw [if_pos ha,QAU]; exact QaY.2 fun h=>by cases h
 ·rw [if_neg ha,QrG]
  refine QaY.2 fun _=>⟨by omega,by omega,by omega,by omega,fun a hm=>?_⟩
  have:=List.any_eq_false.1 (by simpa using ha:(x.net.arcs.any fun a=>gtI (lenI a.travel) 20||gtI (lenI a.slow) 20)=false) a hm
  simp only [Bool.or_eq_true,Qxs,lenI,not_or] at this
  omega
theorem QHw.fewX (h:QHw x):FewX x:=⟨by have:=h.places; omega,by have:=h.arcs; omega,fun a ha=>by have:=h.travel a ha; omega,by have:=h.types; omega,by have:=h.orders; omega⟩
theorem QC1 (hI:Qxq x) (hF:FewX x):∃ b,Qf4 x=some b∧(∃ rr,QbZ x=some rr∧b=decide (rr.length=0))∧(b=true→QkJ x):=by
 obtain ⟨rp,rr,h1,h2,h3,h4⟩:=QDT hI hF
 refine ⟨decide (rr.length=0),?_,⟨rr,h2,rfl⟩,fun h=>h4 (List.eq_nil_of_length_eq_zero (of_decide_eq_true h))⟩
 unfold Qf4
 rw [h1,Qan]
 congr 1
 rw [Bool.eq_iff_iff,QxR,decide_eq_true_eq,lenI]
 omega
def ear0 (x:Qab) (t:Qaf):List Int:=earS x.net t.profile t.from_ t.open_
def QcQ (x:Qab):Qaz:=Qaz.mk x (x.types.map (ear0 x))
theorem Qy1 (hx:QkJ x):QiA x=some (QcQ x):=by
 have h6:=hx.types
 unfold QiA QcQ
 have:=QeO x.types.length (fun i=>((x.types.take i).map (ear0 x),(i:Int))) (B:=fun s:List (List Int)×Int=>Qdd x s.1 s.2) (e:=x.types.map (ear0 x)) (by omega) (fun i hi=>by
  have e:x.types[i]?=some x.types[i]:=List.getElem?_eq_getElem hi
  have hT:=hx.typ _ (List.getElem_mem hi)
  have ho:=hT.opn
  have hc:=hT.close
  show Qdd x ((x.types.take i).map (ear0 x)) (i:Int)=_
  unfold Qdd
  rw [QhW e,QxP hx.net ho.1 (by omega),Qan,Qcn (QcW (by simp only [List.length_append,List.length_map,List.length_take,List.length_singleton]; omega)),incL e (by omega),List.take_add_one,e,Option.toList_some,List.map_append]
  rfl) (by
  show Qdd x ((x.types.take x.types.length).map (ear0 x)) (x.types.length:Int)=_
  unfold Qdd
  rw [Qby (by simp [lenI]),List.take_length])
 rw [Qfs (show QaX (fun s:List (List Int)×Int=>Qdd x s.1 s.2) ([],0)=_ by simpa using this)]
noncomputable def Qna (x:Qab) (o:Qac):List Qaf:=x.types.filter fun t=>QyR t o.skills
theorem Qzw (ht:0≤t.skills∧t.skills≤1073741823) {s:Int} (hs:0≤s∧s≤1073741823):QjM t s=some (QyR t s)∧QhH t s=some (QyR t s):=by
 obtain ⟨b,b1,b2⟩:=QHA ht hs
 have:QyR t s=b:=by unfold QyR; rw [b1]; rfl
 rw [this]
 exact ⟨b1,b2⟩
theorem QHB (hx:QkJ x) (ho:o∈x.orders):Qi0 x o=some (Qna x o):=by
 have h6:=hx.types
 have hs:=(hx.ord o ho).skills
 unfold Qi0 Qna
 rw [Qfs (Qvh (B:=fun s:List Qaf×Int=>Qdo x o s.1 s.2) (l:=x.types) (by omega) (fun t=>QyR t o.skills) id [] (fun s i a h hsl=>by
  have hi:=(List.getElem?_eq_some_iff.1 h).1
  simp only [List.length_nil] at hsl
  show Qdo x o s i=_
  unfold Qdo
  rw [QhW h,(Qzw (hx.typ a (List.mem_of_getElem? h)).skills hs).2,Qan,incL h (by omega),Qcn (QcW (by simp; omega))]
  cases QyR a o.skills <;> rfl) (fun s=>by
  show Qdo x o s x.types.length=_
  unfold Qdo
  rw [QfS]; rfl))]
 simp
def Qxl (x:Qab) (place:Int) (out:Int) (t:Qaf):Int:=if 0≤at_ (ear0 x t) place.toNat∧(out<0∨at_ (ear0 x t) place.toNat<out) then at_ (ear0 x t) place.toNat else out
noncomputable def QjL (x:Qab) (o:Qac) (place:Int):Int:=(Qna x o).foldl (Qxl x place) (-1)
theorem Qy5 {α β:Type} {f:β→α→β} {l:List α} {b:β} {i:Nat} {a:α} (h:l[i]?=some a):(l.take (i+1)).foldl f b=f ((l.take i).foldl f b) a:=by
 rw [List.take_add_one,h,Option.toList_some,List.foldl_append]; rfl
theorem QB7 (hx:QkJ x) (ho:o∈x.orders) (h0:0≤place) (h1:place<x.net.places.length):Qfo (QcQ x) o place=some (QjL x o place):=by
 have h6:=hx.types
 have hs:=(hx.ord o ho).skills
 have hff:QjL x o place=x.types.foldl (fun out t=>if QyR t o.skills=true then Qxl x place out t else out) (-1):=by
  unfold QjL Qna
  rw [List.foldl_filter]
 rw [hff]
 unfold Qfo
 have:=QeO x.types.length (fun i=>((x.types.take i).foldl (fun out t=>if QyR t o.skills=true then Qxl x place out t else out) (-1),(i:Int))) (B:=fun s:Int×Int=>QbB (QcQ x) o place s.1 s.2) (e:=x.types.foldl (fun out t=>if QyR t o.skills=true then Qxl x place out t else out) (-1)) (by omega) (fun i hi=>by
  have e:x.types[i]?=some x.types[i]:=List.getElem?_eq_getElem hi
  have e2:(QcQ x).first_[i]?=some (ear0 x x.types[i]):=by show (x.types.map (ear0 x))[i]?=_; rw [List.getElem?_map,e]; rfl
  have hl:(ear0 x x.types[i]).length=x.net.places.length:=Qy0
  have ek:addK .i64 (i:Int) 1=((i+1:Nat):Int):=(addI (by omega) (by omega)).trans (by omega)
  show QbB (QcQ x) o place _ (i:Int)=_
  unfold QbB
  rw [Qbp (show ltI (i:Int) (lenI (QcQ x).x.types)=true by rw [Qou]; show (i:Int)<(x.types.length:Int); omega),show getI (QcQ x).x.types (i:Int)=some x.types[i] from QaZ e,Qan,QaZ e2,Qan,Qpt h0 (by omega),Qan,(Qzw (hx.typ _ (List.getElem_mem hi)).skills hs).1,Qan,ek,Qy5 e]
  generalize (x.types.take i).foldl (fun out t=>if QyR t o.skills=true then Qxl x place out t else out) (-1)=w
  unfold Qxl
  rw [brs]
  cases QyR x.types[i] o.skills with
  | false=>simp
  | true =>
   simp only [Bool.true_and,Bool.and_eq_true,Bool.or_eq_true,Qxr,Qou,if_true]
   split <;> rfl) (by
  show QbB (QcQ x) o place _ (x.types.length:Int)=_
  unfold QbB
  rw [Qby (show ltI (x.types.length:Int) (lenI (QcQ x).x.types)=false by rw [Qtb]; show (x.types.length:Int)≤(x.types.length:Int); omega),List.take_length])
 rw [Qfs (show QaX (fun s:Int×Int=>QbB (QcQ x) o place s.1 s.2) (-1,0)=_ by simpa using this)]
theorem QE4 (hx:QkJ x) (ht:t∈x.types) (h0:0≤place) (h1:place<x.net.places.length):Qe4 x t place=some (at_ (ear0 x t) place.toNat):=by
 have hT:=hx.typ t ht
 have ho:=hT.opn
 have hc:=hT.close
 have hl:(ear0 x t).length=x.net.places.length:=Qy0
 unfold Qe4
 rw [Qpw hx.net ho.1 (by omega),Qan]
 show br (ltI place 0||geI place (lenI (ear0 x t))) _ (bnd (getI (ear0 x t) place) _)=_
 rw [Qby (by simp [lenI,hl]; omega),Qpt h0 (by omega),Qan]
theorem QGD (hx:QkJ x) (h0:0≤place) (h1:place<x.net.places.length):Qf1 x (Qna x o) place=some (QjL x o place):=by
 have h6:=hx.types
 have hlen:(Qna x o).length≤x.types.length:=List.length_filter_le ..
 unfold Qf1 QjL
 have:=QeO (Qna x o).length (fun i=>(((Qna x o).take i).foldl (Qxl x place) (-1),(i:Int))) (B:=fun s:Int×Int=>Qbg x (Qna x o) place s.1 s.2) (e:=(Qna x o).foldl (Qxl x place) (-1)) (by omega) (fun i hi=>by
  have e:(Qna x o)[i]?=some (Qna x o)[i]:=List.getElem?_eq_getElem hi
  have hm:(Qna x o)[i]∈x.types:=(List.mem_filter.1 (List.getElem_mem hi)).1
  have ek:addK .i64 (i:Int) 1=((i+1:Nat):Int):=(addI (by omega) (by omega)).trans (by omega)
  show Qbg x (Qna x o) place (((Qna x o).take i).foldl (Qxl x place) (-1)) (i:Int)=_
  unfold Qbg
  rw [Qbp (by simp [lenI]; omega),QaZ e,Qan,QE4 hx hm h0 h1,Qan,ek,Qy5 e,brs]
  generalize ((Qna x o).take i).foldl (Qxl x place) (-1)=w
  unfold Qxl
  simp only [Bool.and_eq_true,Bool.or_eq_true,Qxr,Qou]
  split <;> rfl) (by
  show Qbg x (Qna x o) place (((Qna x o).take (Qna x o).length).foldl (Qxl x place) (-1)) ((Qna x o).length:Int)=_
  unfold Qbg
  rw [Qby (by simp [lenI]),List.take_length])
 rw [Qfs (show QaX (fun s:Int×Int=>Qbg x (Qna x o) place s.1 s.2) (-1,0)=_ by simpa using this)]
def retB (x:Qab) (t:Qaf) (place d:Int):Bool:=geI (at_ (earS x.net t.profile place d) t.to_.toNat) 0&&leI (at_ (earS x.net t.profile place d) t.to_.toNat) t.close
noncomputable def Qkk (x:Qab) (o:Qac) (place d:Int):Bool:=(Qna x o).any fun t=>retB x t place d
theorem QzS (hx:QkJ x) (ho:o∈x.orders) (hd:0≤d) (hd':d≤1048576):Qf3 (QcQ x) o place d=some (Qkk x o place d):=by
 have h6:=hx.types
 have hs:=(hx.ord o ho).skills
 have hone:∀ t∈x.types,Qe8 t o (QcQ x) place d=some (QyR t o.skills&&retB x t place d):=fun t ht=>by
  have hT:=hx.typ t ht
  have hto:=hT.to_
  have hl:(earS x.net t.profile place d).length=x.net.places.length:=Qy0
  unfold Qe8
  rw [(Qzw hT.skills hs).1,Qan,show (QcQ x).x.net=x.net from rfl,QxP hx.net hd hd',Qan,Qpt hto.1 (by omega),Qan]
  cases QyR t o.skills <;> rfl
 have hany:Qkk x o place d=x.types.any fun t=>QyR t o.skills&&retB x t place d:=by
  unfold Qkk Qna
  rw [List.any_filter]
 rw [hany]
 unfold Qf3 Qbq QbJ
 have:=QAT (l:=x.types) (by omega) (fun t=>QyR t o.skills&&retB x t place d) (fun k=>(.inr (k:Int):Unit⊕Int)) (N:=.inl ()) (B:=fun s=>QaC (QcQ x).x.types o (QcQ x) place d s) (fun i a h=>by
  show QaC x.types o (QcQ x) place d i=_
  unfold QaC
  rw [QhW h,hone a (List.mem_of_getElem? h),Qan,incL h (by omega),brs]) (by
  show QaC x.types o (QcQ x) place d x.types.length=_
  unfold QaC
  rw [QfS])
 rw [Qfs this,← Qy6]
 unfold ixI
 cases ixP (fun t=>QyR t o.skills&&retB x t place d) x.types <;> rfl
theorem QBq (hx:QkJ x) (ht:t∈x.types) (hd:0≤d) (hd':d≤1048576):Qg2 x t place d=some (retB x t place d):=by
 have hT:=hx.typ t ht
 have hto:=hT.to_
 have hl:(earS x.net t.profile place d).length=x.net.places.length:=Qy0
 unfold Qg2 retB
 rw [Qpw hx.net hd hd',Qan,Qbp (by simp [lenI,hl]; omega),Qpt hto.1 (by omega),Qan,brs]
 cases h:geI (at_ (earS x.net t.profile place d) t.to_.toNat) 0 <;> simp
theorem QFV (hx:QkJ x) (h0:0≤place) (h1:place<x.net.places.length) {e:Int} (hd:0≤d) (hde:d≤e) (he:e≤1048576) (h:Qkk x o place e=true):Qkk x o place d=true:=by
 unfold Qkk at h ⊢
 obtain ⟨t,ht,hr⟩:=List.any_eq_true.1 h
 refine List.any_eq_true.2 ⟨t,ht,?_⟩
 unfold retB at hr ⊢
 rw [Bool.and_eq_true,Qxr,QzK] at hr ⊢
 have:=QFk (profile:=t.profile) hx.net h0 h1 hd hde he t.to_.toNat hr.1
 omega
end
end Go.Proofs.YtbilkblifgaflaaGreatDoor
namespace Go.Proofs.YtbilkblifgaflaaGreatDoor
set_option linter.unusedSimpArgs false
set_option linter.unusedVariables false
set_option linter.unusedSectionVars false
section
variable {x : Qab} {o : Qac} {s r : Qap} {a : Qai} {place : Int}
theorem QIp {i j:Nat} (h:i<1048576) (h':j<1048576):cvK .i64 (shrK .u64 (cvK .u64 (addK .i64 (i:Int) (j:Int))) 1)=(((i+j) / 2:Nat):Int):=by
 rw [addI (by omega) (by omega)]
 unfold cvK shrK
 rw [IntKind.wrap_u64,IntKind.wrap_i64]
 have e:(2:Int) ^ min (Int.toNat 1) (IntKind.u64.bits)=2:=by decide
 rw [e,Int.fdiv_eq_ediv_of_nonneg _ (by omega)]
 omega
theorem QFX {c:Qaz} {c1:Qac} {c2:Qap} {c3:Int} (p:Nat→Bool) (M:Nat) (hM:M≤5000) (hp:∀ k,k<M→QeS (k:Int) c c1 c2 c3=some (!p k)):post (Qgz (M:Int) c c1 c2 c3) fun r=>∃ n:Nat,r=(n:Int)∧n≤M∧(n=0∨p (n-1)=true)∧(n=M∨p n=false):=by
 unfold Qgz
 refine Qbk (R:=fun r=>∃ n:Nat,r=(n:Int)∧n≤M∧(n=0∨p (n-1)=true)∧(n=M∨p n=false)) ?_ fun r hr=>QaY.2 hr
 refine Qfw (fun s:Int×Int=>∃ i j:Nat,s=((i:Int),(j:Int))∧i≤j∧j≤M∧(i=0∨p (i-1)=true)∧(j=M∨p j=false)) (fun s=>(s.2-s.1).toNat) ⟨0,M,rfl,Nat.zero_le _,Nat.le_refl _,.inl rfl,.inl rfl⟩ (by simp; omega) ?_
 rintro _ ⟨i,j,rfl,hij,hjM,h1,h2⟩
 show post (Qd7 c c1 c2 c3 (i:Int) (j:Int)) _
 unfold Qd7
 refine Qa2 (fun hb=>?_) (fun hb=>Qfm ?_)
 ·rw [Qou] at hb
  have hlt:i<j:=by omega
  have hh:(i+j) / 2<j:=by omega
  have hi:i≤(i+j) / 2:=by omega
  rw [QIp (by omega) (by omega),hp _ (by omega),Qan]
  generalize (i+j) / 2=h at hh hi
  have ek:addK .i64 (h:Int) 1=((h+1:Nat):Int):=(addI (by omega) (by omega)).trans (by omega)
  rw [ek]
  refine Qa2 (fun hr=>Qic ⟨⟨i,h,rfl,hi,by omega,h1,.inr (by simpa using hr)⟩,?_⟩) (fun hr=>Qic ⟨⟨h+1,j,rfl,hh,hjM,.inr (by simpa using hr),h2⟩,?_⟩)
  ·show ((h:Int)-(i:Int)).toNat<((j:Int)-(i:Int)).toNat; omega
  ·show ((j:Int)-((h+1:Nat):Int)).toNat<((j:Int)-(i:Int)).toNat; omega
 ·rw [Qtb] at hb
  have:i=j:=by omega
  subst this
  exact ⟨i,rfl,hjM,h1,h2⟩
structure QE8 (x:Qab) (o:Qac) (s r:Qap):Prop where
 place:r.place=s.place
 service:r.service=s.service
 cases:(r=s∧(s.place<0∨QjL x o s.place<0∨s.close<QjL x o s.place∨∀ b,max s.open_ (QjL x o s.place)≤b→b≤s.close→Qkk x o s.place (b+s.service)=false)) ∨
  (0≤s.place∧0≤QjL x o s.place∧r.open_=max s.open_ (QjL x o s.place)∧r.open_≤r.close∧r.close≤s.close∧Qkk x o s.place (r.close+s.service)=true∧∀ b,r.close<b→b≤s.close→Qkk x o s.place (b+s.service)=false)
theorem QCG (hx:QkJ x) (hs0:0≤s.service) (hs1:s.service≤4096) {f:Int} (hc:s.close≤4096) (hop:0≤max s.open_ f) (hle:max s.open_ f≤s.close):post (QaX (fun b=>Qd3 x (Qna x o) s f b) s.close) fun e =>
  (e=.inl ()∧∀ b,max s.open_ f≤b→b≤s.close→Qkk x o s.place (b+s.service)=false)∨(∃ b,e=.inr (Qap.mk s.place (max s.open_ f) b s.service)∧max s.open_ f≤b∧b≤s.close∧Qkk x o s.place (b+s.service)=true∧∀ b',b<b'→b'≤s.close→Qkk x o s.place (b'+s.service)=false):=by
 have h6:=hx.types
 have hlen:(Qna x o).length≤x.types.length:=List.length_filter_le ..
 refine Qfw (fun b=>b≤s.close∧max s.open_ f-1≤b∧∀ b',b<b'→b'≤s.close→Qkk x o s.place (b'+s.service)=false) (fun b=>(b-(max s.open_ f-1)).toNat) ⟨by omega,by omega,fun b' h h'=>by omega⟩ (by omega) ?_
 rintro b ⟨hb1,hb2,hb3⟩
 show post (Qd3 x (Qna x o) s f b) _
 unfold Qd3
 have em:maxI s.open_ f=max s.open_ f:=QEO ..
 rw [em]
 refine Qa2 (fun hb=>?_) (fun hb=>Qfm ?_)
 ·rw [Qxr] at hb
  have ea:addK .i64 b s.service=b+s.service:=addI (by omega) (by omega)
  have:=Qoc (l:=Qna x o) (by omega) (fun t=>retB x t s.place (b+s.service)) (y:=(.inr (Qap.mk s.place (max s.open_ f) b s.service):Unit⊕Qap)) (N:=.inl ()) (B:=fun i=>QcF x (Qna x o) s f b i) (fun i a h=>by
   show QcF x (Qna x o) s f b i=_
   unfold QcF
   rw [QhW h,ea,QBq hx (List.mem_filter.1 (List.mem_of_getElem? h)).1 (by omega) (by omega),Qan,incL h (by omega),em,brs]) (by
   show QcF x (Qna x o) s f b (Qna x o).length=_
   unfold QcF
   rw [QfS])
  rw [Qfs this]
  have hr:Qkk x o s.place (b+s.service)=(Qna x o).any fun t=>retB x t s.place (b+s.service):=rfl
  rw [← hr]
  cases hq:Qkk x o s.place (b+s.service) with
  | true=>exact Qfm (.inr ⟨b,rfl,hb,hb1,hq,hb3⟩)
  | false =>
   have es:subK .i64 b 1=b-1:=subI (by omega) (by omega)
   rw [es]
   refine Qic ⟨⟨by omega,by omega,fun b' h h'=>?_⟩,?_⟩
   ·rcases Decidable.em (b'=b) with e|e
    ·rw [e]; exact hq
    ·exact hb3 b' (by omega) h'
   ·show (b-1-(max s.open_ f-1)).toNat<(b-(max s.open_ f-1)).toNat; omega
 ·rw [QFu] at hb
  exact .inl ⟨rfl,fun b' h h'=>hb3 b' (by omega) h'⟩
theorem QDM (hx:QkJ x) (h0:place<0):Qf1 x (Qna x o) place=some (-1):=by
 have h6:=hx.types
 have hlen:(Qna x o).length≤x.types.length:=List.length_filter_le ..
 unfold Qf1
 have:=QeO (Qna x o).length (fun i=>((-1:Int),(i:Int))) (B:=fun s:Int×Int=>Qbg x (Qna x o) place s.1 s.2) (e:=-1) (by omega) (fun i hi=>by
  have e:(Qna x o)[i]?=some (Qna x o)[i]:=List.getElem?_eq_getElem hi
  have hm:(Qna x o)[i]∈x.types:=(List.mem_filter.1 (List.getElem_mem hi)).1
  have hT:=hx.typ _ hm
  have ho:=hT.opn
  have hc:=hT.close
  have ek:addK .i64 (i:Int) 1=((i+1:Nat):Int):=(addI (by omega) (by omega)).trans (by omega)
  show Qbg x (Qna x o) place (-1) (i:Int)=_
  unfold Qbg
  have e2:Qe4 x (Qna x o)[i] place=some (-1):=by
   unfold Qe4
   rw [Qpw hx.net ho.1 (by omega),Qan,Qbp]
   rw [orT]; left; rw [Qou]; exact h0
  rw [Qbp (by simp [lenI]; omega),QaZ e,Qan,e2,Qan,Qby (show (geI (-1) 0&&(ltI (-1) 0||ltI (-1) (-1)))=false by decide),ek]) (by
  show Qbg x (Qna x o) place (-1) ((Qna x o).length:Int)=_
  unfold Qbg
  rw [Qby (by simp [lenI])])
 rw [Qfs (show QaX (fun s:Int×Int=>Qbg x (Qna x o) place s.1 s.2) (-1,0)=_ by simpa using this)]
theorem QEV {α:Type} {o:Option α} {Q:α→Prop} (h:post o Q):∃ a,o=some a∧Q a:=h
theorem QDe (hx:QkJ x) (ho:o∈x.orders) (hs:QDw x.net.places.length s):∃ r,Qd5 (QcQ x) o s=some r∧Qfl x (Qna x o) s=some r∧QE8 x o s r:=by
 unfold Qd5 Qfl
 rcases hs with ⟨hp,_,_,_⟩|⟨h0,h1,h2,h3,h4,h5,h7⟩
 ·refine ⟨s,Qbp (by rw [Qou]; omega),?_,⟨rfl,rfl,.inl ⟨rfl,.inl (by omega)⟩⟩⟩
  rw [QDM hx (by omega),Qan,Qbp (by simp only [orT,Qou]; omega)]
 ·rw [Qby (by rw [Qtb]; omega),QB7 hx ho h0 h1,Qan,QGD hx h0 h1,Qan]
  have hbr:((ltI s.place 0||ltI (QjL x o s.place) 0)||gtI (QjL x o s.place) s.close)=(ltI (QjL x o s.place) 0||gtI (QjL x o s.place) s.close):=by
   rw [show ltI s.place 0=false by rw [Qtb]; omega]; rfl
  rw [hbr]
  by_cases hf:QjL x o s.place<0∨s.close<QjL x o s.place
  ·have hb:(ltI (QjL x o s.place) 0||gtI (QjL x o s.place) s.close)=true:=by rw [orT,Qou,Qxs]; omega
   refine ⟨s,Qbp hb,Qbp hb,⟨rfl,rfl,.inl ⟨rfl,.inr ?_⟩⟩⟩
   rcases hf with hf|hf
   ·exact .inl hf
   ·exact .inr (.inl hf)
  ·have hb:(ltI (QjL x o s.place) 0||gtI (QjL x o s.place) s.close)=false:=by rw [orF,Qtb,Qu6]; omega
   rw [Qby hb,Qby hb]
   have em:maxI s.open_ (QjL x o s.place)=max s.open_ (QjL x o s.place):=QEO ..
   rw [em]
   have h0f:0≤QjL x o s.place:=by omega
   have hop:0≤max s.open_ (QjL x o s.place):=by omega
   have hle:max s.open_ (QjL x o s.place)≤s.close:=by omega
   obtain ⟨e,e1,e2⟩:=QEV (QCG (o:=o) (f:=QjL x o s.place) hx h5 h7 h4 hop hle)
   rw [Qfs e1]
   generalize hopv:max s.open_ (QjL x o s.place)=op at hop hle e2
   have hM:addK .i64 (subK .i64 s.close op) 1=(((s.close-op+1).toNat:Nat):Int):=by
    rw [subI (by omega) (by omega),addI (by omega) (by omega)]; omega
   rw [hM]
   have hpk:∀ k,k<(s.close-op+1).toNat→QeS (k:Int) (QcQ x) o s op=some (!(Qkk x o s.place (op+(k:Int)+s.service))):=fun k hk=>by
    unfold QeS
    rw [addI (a:=op) (by omega) (by omega),addI (by omega) (by omega),QzS hx ho (by omega) (by omega),Qan]
   obtain ⟨nI,n1,n,rfl,n2,n3,n4⟩:=QEV (QFX (fun k=>Qkk x o s.place (op+(k:Int)+s.service)) _ (by omega) hpk)
   rw [n1,Qan]
   have mono:∀ b b',op≤b→b≤b'→b'≤s.close→Qkk x o s.place (b'+s.service)=true→Qkk x o s.place (b+s.service)=true:=fun b b' g1 g2 g3 g4=>QFV hx h0 h1 (by omega) (by omega) (by omega) g4
   rcases Nat.eq_zero_or_pos n with hn|hn
   ·subst hn
    have hno:∀ b,op≤b→b≤s.close→Qkk x o s.place (b+s.service)=false:=fun b g1 g2=>by
     cases hq:Qkk x o s.place (b+s.service) with
     | false=>rfl
     | true =>
      have:=mono op b (by omega) g1 g2 hq
      rcases n4 with n4|n4
      ·omega
      ·have n4':Qkk x o s.place (op+((0:Nat):Int)+s.service)=false:=n4
       rw [show op+((0:Nat):Int)=op by omega,this] at n4'
       cases n4'
    refine ⟨s,Qbp rfl,?_,⟨rfl,rfl,.inl ⟨rfl,.inr (.inr (.inr (by rw [hopv]; exact hno)))⟩⟩⟩
    rcases e2 with ⟨e2,_⟩|⟨b,_,g1,g2,g3,_⟩
    ·rw [e2]; rfl
    ·rw [hno b g1 g2] at g3; cases g3
   ·have hend:Qkk x o s.place (op+(n:Int)-1+s.service)=true:=by
     rcases n3 with n3|n3
     ·omega
     ·have n3':Qkk x o s.place (op+((n-1:Nat):Int)+s.service)=true:=n3
      rw [show op+((n-1:Nat):Int)=op+(n:Int)-1 by omega] at n3'
      exact n3'
    have hno:∀ b,op+(n:Int)-1<b→b≤s.close→Qkk x o s.place (b+s.service)=false:=fun b g1 g2=>by
     cases hq:Qkk x o s.place (b+s.service) with
     | false=>rfl
     | true =>
      have:=mono (op+(n:Int)) b (by omega) (by omega) g2 hq
      rcases n4 with n4|n4
      ·omega
      ·have n4':Qkk x o s.place (op+(n:Int)+s.service)=false:=n4
       rw [this] at n4'
       cases n4'
    refine ⟨Qap.mk s.place op (op+(n:Int)-1) s.service,?_,?_,⟨rfl,rfl,.inr ⟨h0,h0f,hopv.symm,?_,?_,hend,hno⟩⟩⟩
    ·rw [Qby (by rw [QBE]; omega),addI (by omega) (by omega),subI (by omega) (by omega)]
    ·rcases e2 with ⟨_,e2⟩|⟨b,e2,g1,g2,g3,g4⟩
     ·rw [e2 _ (by omega) (by omega)] at hend; cases hend
     ·have:b=op+(n:Int)-1:=by
       rcases Int.lt_trichotomy b (op+(n:Int)-1) with g|g|g
       ·rw [g4 _ g (by omega)] at hend; cases hend
       ·exact g
       ·rw [hno b g g2] at g3; cases g3
      rw [e2,this]; rfl
    ·show op≤op+(n:Int)-1; omega
    ·show op+(n:Int)-1≤s.close; omega
end
end Go.Proofs.YtbilkblifgaflaaGreatDoor
namespace Go.Proofs.YtbilkblifgaflaaGreatDoor
set_option linter.unusedSimpArgs false
set_option linter.unusedVariables false
set_option linter.unusedSectionVars false
section
variable {x : Qab} {o : Qac} {s r : Qap} {a : Qai} {place : Int}
noncomputable def Qz6 (x:Qab) (o:Qac) (s:Qap):Qap:=(Qd5 (QcQ x) o s).getD s
theorem Qwu (hx:QkJ x) (ho:o∈x.orders) (hs:QDw x.net.places.length s):Qd5 (QcQ x) o s=some (Qz6 x o s)∧Qfl x (Qna x o) s=some (Qz6 x o s)∧QE8 x o s (Qz6 x o s):=by
 obtain ⟨r,h1,h2,h3⟩:=QDe hx ho hs
 have:Qz6 x o s=r:=by unfold Qz6; rw [h1]; rfl
 rw [this]
 exact ⟨h1,h2,h3⟩
noncomputable def QxI (x:Qab) (o:Qac):Qac:=if o.off=true then o else Qac.mk o.name o.load (Qz6 x o o.pick) (Qz6 x o o.drop) o.skills o.penalty o.split o.last_ o.now o.off
noncomputable def QxJ (x:Qab):Qab:=Qab.mk x.net x.types (x.orders.map (QxI x)) x.apart x.before
def badX:Qab:=Qab.mk (Qag.mk [] []) [] [] [] []
theorem QAV {α:Type} {l:List α} {i:Nat} {y z:α}:setI (setI l (i:Int) y) (i:Int) z=l.set i z:=by
 unfold setI; rw [Int.toNat_natCast,List.set_set]
theorem QCB {α E:Type} {l:List α} (hl:l.length≤1048576) (f:α→α) {B:List α×Int→Option ((List α×Int)⊕E)} {e:E} (hs:∀ (i:Nat) (a:α) (m:List α),l[i]?=some a→m.length=l.length→m[i]?=some a→B (m,(i:Int))=some (.inl (m.set i (f a),(i:Int)+1))) (he:∀ m:List α,m.length=l.length→m=l.map f→B (m,(l.length:Int))=some (.inr e)):QaX B (l,0)=some e:=by
 have:=QeO (B:=B) (e:=e) l.length (fun i=>((l.take i).map f++l.drop i,(i:Int))) (by omega) (fun i hi=>by
  have e1:l[i]?=some l[i]:=List.getElem?_eq_getElem hi
  have hlen:((l.take i).map f).length=i:=by simp; omega
  rw [hs i l[i] ((l.take i).map f++l.drop i) e1 (by simp; omega) (by rw [List.getElem?_append_right (by omega),hlen,Nat.sub_self,List.getElem?_drop]; simp)]
  congr 1
  congr 1
  rw [Prod.mk.injEq]
  refine ⟨?_,by omega⟩
  rw [List.drop_eq_getElem_cons hi,List.set_append_right _ _ (by omega),hlen,Nat.sub_self,List.set_cons_zero,List.take_add_one,e1,Option.toList_some,List.map_append,List.append_assoc]
  rfl) (by
  rw [List.take_length,List.drop_length,List.append_nil]
  exact he _ (by simp) rfl)
 simpa using this
theorem QDf (hx:QkJ x) (hF:FewX x) (hr:Qf4 x=some true):QgF x=some (QxJ x,0):=by
 have h10:=hx.orders
 unfold QgF
 rw [hr,Qan,Qbp rfl,Qy1 hx,Qan]
 have hc:QbK x.orders=some x.orders:=by
  unfold QbK
  rw [Qcn (QcW (by omega))]
  cases hq:x.orders with
  | nil=>rfl
  | cons b l=>rfl
 rw [hc,Qan,Qfs (QCB (B:=fun s=>Qe2 x (QcQ x) x.orders s.1 s.2) (l:=x.orders) (e:=x.orders.map (QxI x)) (by omega) (QxI x) (fun i a m h hm hm2=>by
  have ha:=List.mem_of_getElem? h
  have hO:=hx.ord a ha
  have ek:addK .i64 (i:Int) 1=(i:Int)+1:=addI (by omega) (by have:=(List.getElem?_eq_some_iff.1 h).1; omega)
  show Qe2 x (QcQ x) x.orders m (i:Int)=_
  unfold Qe2
  rw [Qbp (show ltI (i:Int) (lenI x.orders)=true by rw [Qou]; show (i:Int)<(x.orders.length:Int); have:=(List.getElem?_eq_some_iff.1 h).1; omega),QaZ hm2,Qan,ek]
  unfold QxI
  cases hoff:a.off with
  | true =>
   rw [Qbp rfl,if_pos rfl]
   rw [show m.set i a=m from List.ext_getElem? fun j=>by
    rw [List.getElem?_set]
    split
    ·rename_i hj; subst hj; rw [hm2]; split
     ·rfl
     ·rename_i hj; exact absurd (List.getElem?_eq_some_iff.1 hm2).1 hj
    ·rfl]
  | false =>
   rw [Qby rfl,(Qwu hx ha hO.pick).1,Qan,(Qwu hx ha hO.drop).1,Qan,if_neg (by simp),QAV]) (fun m hm he=>by
  show Qe2 x (QcQ x) x.orders m (x.orders.length:Int)=_
  unfold Qe2
  rw [Qby (by simp [lenI]),he]))]
 rfl
theorem QEr (hx:QkJ x) (hr:QbZ x=some []):QdQ x=some (QxJ x,0):=by
 have h10:=hx.orders
 unfold QdQ
 rw [hr,Qan,Qby (show gtI (lenI ([]:List Qaa)) 0=false by decide),Qcn (QcW (by omega)),Qfs (QCB (B:=fun s=>QcT x s.1 s.2) (l:=x.orders) (e:=x.orders.map (QxI x)) (by omega) (QxI x) (fun i a m h hm hm2=>by
  have ha:=List.mem_of_getElem? h
  have hO:=hx.ord a ha
  have ek:addK .i64 (i:Int) 1=(i:Int)+1:=addI (by omega) (by have:=(List.getElem?_eq_some_iff.1 h).1; omega)
  show QcT x m (i:Int)=_
  unfold QcT
  rw [Qbp (show ltI (i:Int) (lenI m)=true by rw [Qou]; show (i:Int)<(m.length:Int); have:=(List.getElem?_eq_some_iff.1 h).1; omega),QaZ hm2,Qan,ek]
  unfold QxI
  cases hoff:a.off with
  | true =>
   rw [Qbp rfl,if_pos rfl]
   rw [show m.set i a=m from List.ext_getElem? fun j=>by
    rw [List.getElem?_set]
    split
    ·rename_i hj; subst hj; rw [hm2]; split
     ·rfl
     ·rename_i hj; exact absurd (List.getElem?_eq_some_iff.1 hm2).1 hj
    ·rfl]
  | false =>
   rw [Qby rfl,QHB hx ha,Qan,QaZ h,Qan,(Qwu hx ha hO.pick).2.1,Qan,(Qwu hx ha hO.drop).2.1,Qan,if_neg (by simp),QAV]) (fun m hm he=>by
  show QcT x m (x.orders.length:Int)=_
  unfold QcT
  rw [Qby (by simp [lenI,hm]),he]))]
 rfl
theorem Qzr (hI:Qxq x) (hF:FewX x):(Qf4 x=some true∧QkJ x∧QgF x=some (QxJ x,0)∧QdQ x=some (QxJ x,0)∧QbZ x=some [])∨(QgF x=some (badX,2)∧QdQ x=some (badX,2)∧Qf4 x=some false∧∃ rr,QbZ x=some rr∧0<rr.length):=by
 obtain ⟨b,h1,⟨rr,h2,h3⟩,h4⟩:=QC1 hI hF
 cases b with
 | true =>
  have hx:=h4 rfl
  have hn:rr=[]:=List.eq_nil_of_length_eq_zero (of_decide_eq_true h3.symm)
  subst hn
  exact .inl ⟨h1,hx,QDf hx hF h1,QEr hx h2,h2⟩
 | false =>
  have hn:0<rr.length:=by
   have:=of_decide_eq_false h3.symm
   omega
  refine .inr ⟨?_,?_,h1,rr,h2,hn⟩
  ·unfold QgF; rw [h1,Qan]; rfl
  ·unfold QdQ; rw [h2,Qan,Qbp (by rw [Qxs]; unfold lenI; omega)]; rfl
end
end Go.Proofs.YtbilkblifgaflaaGreatDoor
namespace Go.Proofs.YtbilkblifgaflaaGreatDoor
set_option linter.unusedSimpArgs false
set_option linter.unusedVariables false
set_option linter.unusedSectionVars false
section
variable {x : Qab} {o : Qac} {s r : Qap} {a : Qai} {place : Int} {t : Qaf}
theorem QGz {n:Qag} {profile from_ t:Int} (hok:Qzv n) (h0:0≤from_) (h1:from_<n.places.length) (ht:0≤t) (ht':t≤1048576) {v:Nat} (hv:0≤at_ (earS n profile from_ t) v):inT (at_ (earS n profile from_ t) v):=by
 have:=(Qwq (profile:=profile) (t:=t) hok h0 h1 ht ht' n.places.length 0 (Nat.zero_le _)).1 v
 rw [QDJ h0 h1] at hv ⊢
 exact this hv
def QA3 (x:Qab) (a:Qai) (t:Qaf):Bool:=decide (t.profile=a.profile∧0≤at_ (ear0 x t) a.from_.toNat∧(goN x.net a.profile a.from_ a.to_ (at_ (ear0 x t) a.from_.toNat)).2.2=0∧(goN x.net a.profile a.from_ a.to_ (at_ (ear0 x t) a.from_.toNat)).1≤t.close)
def QFC (x:Qab) (a:Qai):Bool:=x.types.any (QA3 x a)
def QEz (x:Qab):Qab:=Qab.mk (Qag.mk x.net.places (x.net.arcs.filter (QFC x))) x.types x.orders x.apart x.before
theorem Qx4 (h:QA3 x a t=true):t.profile=a.profile∧0≤at_ (ear0 x t) a.from_.toNat∧(goN x.net a.profile a.from_ a.to_ (at_ (ear0 x t) a.from_.toNat)).2.2=0∧(goN x.net a.profile a.from_ a.to_ (at_ (ear0 x t) a.from_.toNat)).1≤t.close:=of_decide_eq_true h
theorem QB6 (hx:QkJ x) (ht:t∈x.types) {v:Nat} (hv:0≤at_ (ear0 x t) v):inT (at_ (ear0 x t) v):=by
 have hT:=hx.typ t ht
 have ho:=hT.opn
 have hc:=hT.close
 have hf:=hT.from_
 exact QGz hx.net hf.1 hf.2 ho.1 (by omega) hv
theorem QEu (hx:QkJ x) (ha:a∈x.net.arcs):QhC (QcQ x) a=some (QFC x a):=by
 have h6:=hx.types
 have hA:=hx.net.all a ha
 have f0:=hA.from0
 have f1:=hA.from1
 unfold QhC
 rw [Qfs (Qoc (B:=fun s=>QcH (QcQ x) a s) (l:=x.types) (by omega) (QA3 x a) (y:=(.inr true:Unit⊕Bool)) (N:=.inl ()) (fun i t h=>by
  have hm:=List.mem_of_getElem? h
  have e2:(QcQ x).first_[i]?=some (ear0 x t):=by show (x.types.map (ear0 x))[i]?=_; rw [List.getElem?_map,h]; rfl
  have hl:(ear0 x t).length=x.net.places.length:=Qy0
  show QcH (QcQ x) a (i:Int)=_
  unfold QcH
  rw [Qbp (show ltI (i:Int) (lenI (QcQ x).x.types)=true by rw [Qou]; show (i:Int)<(x.types.length:Int); have:=(List.getElem?_eq_some_iff.1 h).1; omega),show getI (QcQ x).x.types (i:Int)=some t from QaZ h,Qan,QaZ e2,Qan,Qpt f0 (by omega),Qan,incL h (by omega)]
  by_cases hq:t.profile=a.profile∧0≤at_ (ear0 x t) a.from_.toNat
  ·rw [Qby (by rw [orF,QES,Qtb]; exact hq),show (QcQ x).x.net=x.net from rfl,go_eq hx.net _ _ _ (QB6 hx hm hq.2),Qan]
   by_cases hg:(goN x.net a.profile a.from_ a.to_ (at_ (ear0 x t) a.from_.toNat)).2.2=0∧(goN x.net a.profile a.from_ a.to_ (at_ (ear0 x t) a.from_.toNat)).1≤t.close
   ·rw [Qbp (by rw [andT,QxR,QzK]; exact hg),if_pos (show QA3 x a t=true from decide_eq_true ⟨hq.1,hq.2,hg.1,hg.2⟩)]
   ·rw [Qby (by rw [andF,QBE,QD1]; omega),if_neg (show ¬ QA3 x a t=true from fun h=>hg (Qx4 h).2.2)]
  ·rw [Qbp (by rw [orT,QFL,Qou]; omega),if_neg (show ¬ QA3 x a t=true from fun h=>hq ⟨(Qx4 h).1,(Qx4 h).2.1⟩)]) (by
  show QcH (QcQ x) a (x.types.length:Int)=_
  unfold QcH
  rw [Qby (show ltI (x.types.length:Int) (lenI (QcQ x).x.types)=false by rw [Qtb]; show (x.types.length:Int)≤(x.types.length:Int); omega)]))]
 show _=some (x.types.any (QA3 x a))
 cases x.types.any (QA3 x a) <;> rfl
theorem QF3 (hx:QkJ x) (ha:a∈x.net.arcs):QhB x a=some (QFC x a):=by
 have h6:=hx.types
 have hA:=hx.net.all a ha
 have f0:=hA.from0
 have f1:=hA.from1
 unfold QhB
 rw [Qfs (Qoc (B:=fun s=>QcG x a s) (l:=x.types) (by omega) (QA3 x a) (y:=(.inr true:Unit⊕Bool)) (N:=.inl ()) (fun i t h=>by
  have hm:=List.mem_of_getElem? h
  show QcG x a (i:Int)=_
  unfold QcG
  rw [QhW h,QE4 hx hm f0 f1,Qan,incL h (by omega)]
  by_cases hq:t.profile=a.profile∧0≤at_ (ear0 x t) a.from_.toNat
  ·rw [Qby (by rw [orF,QES,Qtb]; exact hq),QBo hx.net _ _ _ (QB6 hx hm hq.2),Qan]
   by_cases hg:(goN x.net a.profile a.from_ a.to_ (at_ (ear0 x t) a.from_.toNat)).2.2=0∧(goN x.net a.profile a.from_ a.to_ (at_ (ear0 x t) a.from_.toNat)).1≤t.close
   ·rw [Qbp (by rw [andT,QxR,QzK]; exact hg),if_pos (show QA3 x a t=true from decide_eq_true ⟨hq.1,hq.2,hg.1,hg.2⟩)]
   ·rw [Qby (by rw [andF,QBE,QD1]; omega),if_neg (show ¬ QA3 x a t=true from fun h=>hg (Qx4 h).2.2)]
  ·rw [Qbp (by rw [orT,QFL,Qou]; omega),if_neg (show ¬ QA3 x a t=true from fun h=>hq ⟨(Qx4 h).1,(Qx4 h).2.1⟩)]) (by
  show QcG x a (x.types.length:Int)=_
  unfold QcG
  rw [QfS]))]
 show _=some (x.types.any (QA3 x a))
 cases x.types.any (QA3 x a) <;> rfl
theorem QDy (hx:QkJ x) (hr:Qf4 x=some true):QhM x=some (QEz x,0):=by
 have hn:=hx.net.arcs
 unfold QhM
 rw [hr,Qan,Qbp rfl,Qy1 hx,Qan,Qfs (Qvh (B:=fun s:List Qai×Int=>Qfx x (QcQ x) s.1 s.2) (l:=x.net.arcs) (by omega) (QFC x) id [] (fun s i a h hsl=>by
  have hi:=(List.getElem?_eq_some_iff.1 h).1
  simp only [List.length_nil] at hsl
  show Qfx x (QcQ x) s i=_
  unfold Qfx
  rw [QhW h,QEu hx (List.mem_of_getElem? h),Qan,incL h (by omega),Qcn (QcW (by simp; omega))]
  cases QFC x a <;> rfl) (fun s=>by
  show Qfx x (QcQ x) s x.net.arcs.length=_
  unfold Qfx
  rw [QfS]; rfl))]
 rfl
theorem QFc (hx:QkJ x) (hr:QbZ x=some []):Qea x=some (QEz x,0):=by
 have hn:=hx.net.arcs
 unfold Qea
 rw [hr,Qan,Qby (show gtI (lenI ([]:List Qaa)) 0=false by decide),Qfs (Qvh (B:=fun s:List Qai×Int=>Qdn x s.1 s.2) (l:=x.net.arcs) (by omega) (QFC x) id [] (fun s i a h hsl=>by
  have hi:=(List.getElem?_eq_some_iff.1 h).1
  simp only [List.length_nil] at hsl
  show Qdn x s i=_
  unfold Qdn
  rw [QhW h,QF3 hx (List.mem_of_getElem? h),Qan,incL h (by omega),Qcn (QcW (by simp; omega))]
  cases QFC x a <;> rfl) (fun s=>by
  show Qdn x s x.net.arcs.length=_
  unfold Qdn
  rw [QfS]; rfl))]
 rfl
theorem Qz9 (hI:Qxq x) (hF:FewX x):(Qf4 x=some true∧QkJ x∧QhM x=some (QEz x,0)∧Qea x=some (QEz x,0))∨(QhM x=some (badX,2)∧Qea x=some (badX,2)):=by
 obtain ⟨b,h1,⟨rr,h2,h3⟩,h4⟩:=QC1 hI hF
 cases b with
 | true =>
  have hx:=h4 rfl
  have hn:rr=[]:=List.eq_nil_of_length_eq_zero (of_decide_eq_true h3.symm)
  subst hn
  exact .inl ⟨h1,hx,QDy hx h1,QFc hx h2⟩
 | false =>
  have hn:0<rr.length:=by
   have:=of_decide_eq_false h3.symm
   omega
  refine .inr ⟨?_,?_⟩
  ·unfold QhM; rw [h1,Qan]; rfl
  ·unfold Qea; rw [h2,Qan,Qbp (by rw [Qxs]; unfold lenI; omega)]; rfl
end
end Go.Proofs.YtbilkblifgaflaaGreatDoor
namespace Go.Proofs.YtbilkblifgaflaaGreatDoor
set_option linter.unusedSimpArgs false
set_option linter.unusedVariables false
set_option linter.unusedSectionVars false
section
variable {x : Qab}
theorem Qo2 {α:Type} {l:List α} {B:Int→Option (Int⊕(Unit⊕Bool))} (hl:l.length≤1048576) (hB:∀ (i:Nat) (a:α),l[i]?=some a→B i=some (.inl ((i:Int)+1))) (hend:B l.length=some (.inr (.inl ()))):QaX B 0=some (.inl ()) :=
 QeO (B:=B) l.length (fun i=>(i:Int)) (by omega) (fun i hi=>(hB i l[i] (List.getElem?_eq_getElem hi)).trans (by congr 2)) hend
theorem QFl (s:ByteArray):eqS s s=true:=by simp [eqS]
theorem QAJ {l:List Qal} (hl:l.length≤1048576):Qgi l l=some true:=by
 unfold Qgi
 rw [Qby (by simp),Qfs (Qo2 (B:=fun s=>QcE l l s) (l:=l) hl (fun i a h=>by
  show QcE l l i=_
  unfold QcE
  rw [QhW h,QaZ h,Qan,Qbp (by simp),incL h hl]) (by
  show QcE l l l.length=_
  unfold QcE
  rw [QfS])),QrG]
theorem QGU {n:Qag} (hn:NetI n):QiY n n=some true:=by
 unfold QiY
 rw [Qby (by simp),Qfs (Qo2 (B:=fun s=>Qdm n n s) (l:=n.places) hn.places (fun i a h=>by
  show Qdm n n i=_
  unfold Qdm
  rw [QhW h,QaZ h,Qan,Qbp (QFl _),incL h hn.places]) (by
  show Qdm n n n.places.length=_
  unfold Qdm
  rw [QfS])),QrG,Qfs (Qo2 (B:=fun s=>QcN n n s) (l:=n.arcs) hn.arcs (fun i a h=>by
  have hA:=hn.arcI a (List.mem_of_getElem? h)
  show QcN n n i=_
  unfold QcN
  rw [QhW h,QaZ h,Qan,Qby (by simp),QAJ hA.travel,Qan,Qbp rfl,QAJ hA.slow,Qan,Qbp rfl,incL h hn.arcs]) (by
  show QcN n n n.arcs.length=_
  unfold QcN
  rw [QfS])),QrG]
theorem QHd {t:Qaf} (ht:TypI t):QiT t t=some true:=by
 unfold QiT
 rw [Qby (by simp),Qfs (Qo2 (B:=fun s=>Qdj t t s) (l:=t.cap) ht.cap (fun i a h=>by
  show Qdj t t i=_
  unfold Qdj
  rw [QhW h,QaZ h,Qan,Qby (by simp),incL h ht.cap]) (by
  show Qdj t t t.cap.length=_
  unfold Qdj
  rw [QfS])),QrG,QFl]
 simp
theorem QGQ {l:List Int} (hl:l.length≤1048576):QiV l l=some true:=by
 unfold QiV
 rw [Qby (by simp),Qfs (Qo2 (B:=fun s=>Qdk l l s) (l:=l) hl (fun i a h=>by
  show Qdk l l i=_
  unfold Qdk
  rw [QhW h,QaZ h,Qan,Qby (by simp),incL h hl]) (by
  show Qdk l l l.length=_
  unfold Qdk
  rw [QfS])),QrG]
theorem QFP {o:Qac} (ho:OrdI o):QiU o o=some true:=by
 unfold QiU
 rw [Qbp (QFl _),QGQ ho.load,Qan]
 simp [eqB]
theorem QCL {l:List Qav} (hl:l.length≤1048576):QdP l l=some true:=by
 unfold QdP
 rw [Qby (by simp),Qfs (Qo2 (B:=fun s=>QcS l l s) (l:=l) hl (fun i a h=>by
  show QcS l l i=_
  unfold QcS
  rw [QhW h,QaZ h,Qan,Qbp (by simp),incL h hl]) (by
  show QcS l l l.length=_
  unfold QcS
  rw [QfS])),QrG]
theorem QCi (hI:Qxq x):Qd9 x x=some true:=by
 unfold Qd9
 rw [QGU hI.net,Qan,Qby (by simp),Qfs (Qo2 (B:=fun s=>Qdl x x s) (l:=x.types) hI.types (fun i a h=>by
  show Qdl x x i=_
  unfold Qdl
  rw [QhW h,QaZ h,Qan,QHd (hI.typI a (List.mem_of_getElem? h)),Qan,Qbp rfl,incL h hI.types]) (by
  show Qdl x x x.types.length=_
  unfold Qdl
  rw [QfS])),QrG,Qfs (Qo2 (B:=fun s=>QcM x x s) (l:=x.orders) hI.orders (fun i a h=>by
  show QcM x x i=_
  unfold QcM
  rw [QhW h,QaZ h,Qan,QFP (hI.ordI a (List.mem_of_getElem? h)),Qan,Qbp rfl,incL h hI.orders]) (by
  show QcM x x x.orders.length=_
  unfold QcM
  rw [QfS])),QrG,QCL hI.apart,Qan,Qbp rfl,QCL hI.before,Qan]
theorem QDd (hI:Qxq x):Qxq (QxJ x):=⟨hI.net,hI.types,by show (x.orders.map (QxI x)).length≤_; rw [List.length_map]; exact hI.orders,hI.apart,hI.before,hI.typI,fun o ho=>by
 obtain ⟨a,ha,rfl⟩:=List.mem_map.1 ho
 have:=hI.ordI a ha
 unfold QxI
 split
 ·exact this
 ·exact ⟨this.name,this.load⟩⟩
theorem QHb (hF:FewX x):FewX (QxJ x):=⟨hF.places,hF.arcs,hF.travel,hF.types,by show (x.orders.map (QxI x)).length≤_; rw [List.length_map]; exact hF.orders⟩
theorem QGq (hI:Qxq x):Qxq (QEz x):=⟨⟨hI.net.places,Nat.le_trans (List.length_filter_le ..) hI.net.arcs,hI.net.names,fun a ha=>hI.net.arcI a (List.mem_filter.1 ha).1⟩,hI.types,hI.orders,hI.apart,hI.before,hI.typI,hI.ordI⟩
theorem QHh:Qxq badX:=⟨⟨Nat.zero_le _,Nat.zero_le _,fun _ h=>(nomatch h),fun _ h=>(nomatch h)⟩,Nat.zero_le _,Nat.zero_le _,Nat.zero_le _,Nat.zero_le _,fun _ h=>(nomatch h),fun _ h=>(nomatch h)⟩
theorem Qx1 (hI:Qxq x) (hF:FewX x):∃ y c,Qgw x=some (y,c)∧QeC x=some (y,c)∧Qxq y∧(c=0→QkJ x∧QbZ x=some []∧QkJ (QxJ x)∧y=QEz (QxJ x)):=by
 rcases Qzr hI hF with ⟨h1,h2,h3,h4,h5⟩|⟨h3,h4,_⟩
 ·rcases Qz9 (QDd hI) (QHb hF) with ⟨_,g2,g3,g4⟩|⟨g3,g4⟩
  ·refine ⟨QEz (QxJ x),0,?_,?_,QGq (QDd hI),fun _=>⟨h2,h5,g2,rfl⟩⟩
   ·unfold Qgw; rw [h3,Qan,Qby (show neI (0:Int) 0=false by decide),g3,Qan]
   ·unfold QeC; rw [h4,Qan,Qby (show neI (0:Int) 0=false by decide),g4,Qan]
  ·refine ⟨badX,2,?_,?_,QHh,fun h=>absurd h (by decide)⟩
   ·unfold Qgw; rw [h3,Qan,Qby (show neI (0:Int) 0=false by decide),g3,Qan]
   ·unfold QeC; rw [h4,Qan,Qby (show neI (0:Int) 0=false by decide),g4,Qan]
 ·refine ⟨badX,2,?_,?_,QHh,fun h=>absurd h (by decide)⟩
  ·unfold Qgw; rw [h3,Qan,Qbp (by decide)]; rfl
  ·unfold QeC; rw [h4,Qan,Qbp (by decide)]; rfl
end
end Go.Proofs.YtbilkblifgaflaaGreatDoor
namespace Go.Proofs.YtbilkblifgaflaaGreatDoor
set_option linter.unusedSimpArgs false
set_option linter.unusedVariables false
set_option linter.unusedSectionVars false
section
variable {x : Qab}
theorem QBQ:Qee=some true:=by kernel_rfl
theorem QDm:QkZ x.orders=Qe5 x:=rfl
theorem Qzu (hl:x.orders.length≤1048576):∃ w,Qe5 x=some w:=by
 unfold Qe5
 have:post (QaX (fun s=>Qer x s.1 s.2) (0,0)) fun _=>True:=by
  refine Qfw (fun s:Int×Int=>∃ i:Nat,s.2=(i:Int)∧i≤x.orders.length) (fun s=>(x.orders.length-s.2.toNat)) ⟨0,rfl,Nat.zero_le _⟩ (by simp; omega) ?_
  rintro ⟨n,_⟩ ⟨i,rfl,hi⟩
  show post (Qer x n (i:Int)) _
  unfold Qer
  refine Qa2 (fun hb=>?_) (fun _=>Qfm trivial)
  rw [Qou] at hb
  unfold lenI at hb
  have h:x.orders[i]?=some (x.orders[i]'(by omega)):=List.getElem?_eq_getElem (by omega)
  rw [QaZ h,Qan,incL h hl]
  refine Qic ⟨⟨i+1,rfl,by omega⟩,?_⟩
  show x.orders.length-((i:Int)+1).toNat<x.orders.length-((i:Int)).toNat
  omega
 obtain ⟨w,hw,_⟩:=this
 exact ⟨w,by rw [hw]; rfl⟩
theorem QC3 (hI:Qxq x) (hF:FewX x):∃ v,QkY x=some v∧Qia x=some v:=by
 obtain ⟨y,c,h1,h2,h3,_⟩:=Qx1 hI hF
 unfold QkY Qia
 rw [h1,Qan,h2,Qan]
 obtain ⟨w,hw⟩:=Qzu hI.orders
 obtain ⟨w',hw'⟩:=Qzu (x:=y) h3.orders
 by_cases hc:c=0
 ·rw [Qby (by rw [QES]; exact hc),Qby (by rw [QES]; exact hc),QDm,hw,Qan,Qan,show QkZ (y,c).1.orders=Qe5 y from QDm,hw',Qan]
  exact ⟨_,rfl,rfl⟩
 ·rw [Qbp (by rw [QFL]; exact hc),Qbp (by rw [QFL]; exact hc)]
  exact ⟨_,rfl,rfl⟩
theorem QvZ (hI:Qxq x):Qgp x=some true:=by
 unfold Qgp
 rw [QBQ]
 obtain ⟨b,h1,h2⟩:=QwM hI
 rw [h1,Qan]
 cases b with
 | false=>rfl
 | true =>
  have hF:=(h2 rfl).fewX
  have:∃ y c,QgF x=some (y,c)∧QdQ x=some (y,c)∧Qxq y:=by
   rcases Qzr hI hF with ⟨_,_,h3,h4,_⟩|⟨h3,h4,_⟩
   ·exact ⟨_,_,h3,h4,QDd hI⟩
   ·exact ⟨_,_,h3,h4,QHh⟩
  obtain ⟨y,c,h3,h4,h5⟩:=this
  rw [Qbp rfl,h3,Qan,h4,Qan,show Qd9 (y,c).1 (y,c).1=some true from QCi h5,Qan,Qbp (by simp)]
  rfl
theorem Qwv (hI:Qxq x):QgN x=some true:=by
 unfold QgN
 rw [QBQ]
 obtain ⟨b,h1,h2⟩:=QwM hI
 rw [h1,Qan]
 cases b with
 | false=>rfl
 | true =>
  have hF:=(h2 rfl).fewX
  have:∃ y c,QhM x=some (y,c)∧Qea x=some (y,c)∧Qxq y:=by
   rcases Qz9 hI hF with ⟨_,_,h3,h4⟩|⟨h3,h4⟩
   ·exact ⟨_,_,h3,h4,QGq hI⟩
   ·exact ⟨_,_,h3,h4,QHh⟩
  obtain ⟨y,c,h3,h4,h5⟩:=this
  rw [Qbp rfl,h3,Qan,h4,Qan,show Qd9 (y,c).1 (y,c).1=some true from QCi h5,Qan,Qbp (by simp)]
  rfl
theorem QvY (hI:Qxq x):Qgo x=some true:=by
 unfold Qgo
 rw [QBQ]
 obtain ⟨b,h1,h2⟩:=QwM hI
 rw [h1,Qan]
 cases b with
 | false=>rfl
 | true =>
  have hF:=(h2 rfl).fewX
  obtain ⟨v,s1,s2⟩:=QC3 hI hF
  obtain ⟨y,c,h3,h4,h5,_⟩:=Qx1 hI hF
  rw [Qbp rfl,s1,Qan,s2,Qan,h3,Qan,h4,Qan,Qbp (by simp),show Qd9 (y,c).1 (y,c).1=some true from QCi h5,Qan,Qbp (by simp)]
  rfl
end
end Go.Proofs.YtbilkblifgaflaaGreatDoor
namespace Go.Proofs.YtbilkblifgaflaaGreatDoor
set_option linter.unusedSimpArgs false
set_option linter.unusedVariables false
set_option linter.unusedSectionVars false
noncomputable def redX (x:Qab):Qab:=QEz (QxJ x)
def QDp (x:Qab) (t:Qaf) (s r:Qap):Prop:=r=s∨∃ o∈x.orders,t∈Qna x o∧QE8 x o s r
section
variable {x : Qab} {t : Qaf} {o : Qac} {s r : Qap} {pl : Int}
theorem Qy4:∀ (l:List Qaf) (out:Int),(0≤out→0≤l.foldl (Qxl x pl) out∧l.foldl (Qxl x pl) out≤out)∧∀ t∈l,0≤at_ (ear0 x t) pl.toNat→0≤l.foldl (Qxl x pl) out∧l.foldl (Qxl x pl) out≤at_ (ear0 x t) pl.toNat
 | [],out=>⟨fun h=>⟨h,Int.le_refl _⟩,fun _ h=>by cases h⟩
 | c :: l,out=>by
  rw [List.foldl_cons]
  obtain ⟨i1,i2⟩:=Qy4 l (Qxl x pl out c)
  have hs:0≤out→0≤Qxl x pl out c∧Qxl x pl out c≤out:=fun h=>by
   unfold Qxl; split <;> omega
  refine ⟨fun h=>?_,fun t ht h=>?_⟩
  ·have:=i1 (hs h).1; have:=hs h; omega
  ·rcases List.mem_cons.1 ht with e|e
   ·have hc:0≤Qxl x pl out c∧Qxl x pl out c≤at_ (ear0 x t) pl.toNat:=by
     rw [e] at h ⊢
     unfold Qxl; split <;> omega
    have:=i1 hc.1; omega
   ·exact i2 t e h
theorem QDL (ht:t∈Qna x o) (h:0≤at_ (ear0 x t) pl.toNat):0≤QjL x o pl∧QjL x o pl≤at_ (ear0 x t) pl.toNat:=(Qy4 (Qna x o) (-1)).2 t ht h
theorem QDp.place (h:QDp x t s r):r.place=s.place:=h.elim (fun e=>by rw [e]) fun ⟨_,_,_,k⟩=>k.place
theorem QDp.service (h:QDp x t s r):r.service=s.service:=h.elim (fun e=>by rw [e]) fun ⟨_,_,_,k⟩=>k.service
theorem QDp.open_ (h:QDp x t s r) {g:Int} (h0:0≤at_ (ear0 x t) s.place.toNat) (hg:at_ (ear0 x t) s.place.toNat≤g):max g r.open_=max g s.open_:=by
 rcases h with e|⟨o,_,ha,k⟩
 ·rw [e]
 ·have hf:=QDL ha h0
  rcases k.cases with ⟨e,_⟩|⟨_,_,e,_⟩
  ·rw [e]
  ·rw [e]; omega
theorem QDp.close (h:QDp x t s r) {g:Int} (hs:s.open_≤s.close) (hg:g≤s.close) (hr:retB x t s.place (max g s.open_+s.service)=true):g≤r.close:=by
 rcases h with e|⟨o,_,ha,k⟩
 ·rw [e]; exact hg
 ·rcases k.cases with ⟨e,_⟩|⟨_,_,_,_,_,_,e⟩
  ·rw [e]; exact hg
  ·refine Classical.byContradiction fun hn=>?_
   have:=e (max g s.open_) (by omega) (by omega)
   unfold Qkk at this
   exact absurd hr (List.any_eq_false.1 this t ha)
end
structure SimI (x:Qab) (t:Qaf) (stops stops':List Qap):Prop where
 ok:QkJ x
 typ:t∈x.types
 trip:Qx6 x.net t stops
 trip':Qx6 (redX x).net t stops'
 len:stops'.length=stops.length
 places:∀ s∈stops,0≤s.place∧s.place<x.net.places.length
 rel:∀ (k:Nat) s r,stops[k]?=some s→stops'[k]?=some r→QDp x t s r
section
variable {x : Qab} {t : Qaf} {stops stops' : List Qap} {k : Nat}
theorem SimI.stop (h:SimI x t stops stops') (k:Nat):QDp x t (stopK t stops k) (stopK t stops' k):=by
 have hl:=h.len
 by_cases hk:k<stops.length
 ·exact h.rel k _ _ (QDa hk) (QDa (by omega))
 ·rw [QA1 hk,QA1 (by omega)]; exact .inl rfl
end
end Go.Proofs.YtbilkblifgaflaaGreatDoor
namespace Go.Proofs.YtbilkblifgaflaaGreatDoor
set_option linter.unusedSimpArgs false
set_option linter.unusedVariables false
set_option linter.unusedSectionVars false
structure QH6 (o q:Qac):Prop where
 load:q.load=o.load
 skills:q.skills=o.skills
 off:q.off=o.off
 last:q.last_=o.last_
 now:q.now=o.now
 pick:q.pick.place=o.pick.place
 drop:q.drop.place=o.drop.place
structure QGj (x y:Qab):Prop where
 types:y.types=x.types
 apart:y.apart=x.apart
 before:y.before=x.before
 len:y.orders.length=x.orders.length
 ord:∀ (i:Nat) o,x.orders[i]?=some o→∃ q,y.orders[i]?=some q∧QH6 o q
section
variable {x y : Qab} {l : List Qad} {r : Qax} {v : Qad}
theorem QGj.at_ (h:QGj x y) (i:Nat):(x.orders[i]?=none∧y.orders[i]?=none)∨∃ o q,x.orders[i]?=some o∧y.orders[i]?=some q∧QH6 o q:=by
 cases hx:x.orders[i]? with
 | none =>
  refine .inl ⟨rfl,?_⟩
  have:=List.getElem?_eq_none_iff.1 hx
  exact List.getElem?_eq_none_iff.2 (by rw [h.len]; exact this)
 | some o =>
  obtain ⟨q,h1,h2⟩:=h.ord i o hx
  exact .inr ⟨o,q,rfl,h1,h2⟩
end
end Go.Proofs.YtbilkblifgaflaaGreatDoor
namespace Go.Proofs.YtbilkblifgaflaaGreatDoor
set_option linter.unusedSimpArgs false
set_option linter.unusedVariables false
set_option linter.unusedSectionVars false
structure QxL (o q:Qac):Prop where
 name:q.name=o.name
 load:q.load=o.load
 skills:q.skills=o.skills
 penalty:q.penalty=o.penalty
 split:q.split=o.split
 last:q.last_=o.last_
 now:q.now=o.now
 pick:q.pick.place=o.pick.place
 drop:q.drop.place=o.drop.place
 pickC:Qcc q.pick=Qcc o.pick
 dropC:Qcc q.drop=Qcc o.drop
section
variable {types np dims : Int} {o q : Qac} {l : List Qac} {f : Qac → Qac} {n : Qag} {x : Qab}
theorem QxL.j5 (h:QxL o q):Qcf types q=Qcf types o:=by
 funext l; unfold Qcf; rw [h.penalty,h.split,h.pick,h.drop,h.last,h.now]
theorem QxL.j7 (h:QxL o q):QdJ types q=QdJ types o:=by
 funext l; unfold QdJ; rw [h.penalty,h.split,h.pick,h.drop,h.last,h.now]
theorem QxL.j9 (h:QxL o q):Qeq types q=Qeq types o:=by
 funext l; unfold Qeq; rw [h.penalty,h.split,h.pick,h.drop,h.last,h.now]
theorem QxL.j11 (h:QxL o q):Qd1 types q=Qd1 types o:=by
 funext l; unfold Qd1; rw [h.penalty,h.split,h.pick,h.drop,h.last,h.now]
theorem QxL.j6 (h:QxL o q):Qbm types q=Qbm types o:=by
 funext l; unfold Qbm; rw [h.skills,h.j7]
theorem QxL.j10 (h:QxL o q):Qd0 types q=Qd0 types o:=by
 funext l; unfold Qd0; rw [h.skills,h.j11]
theorem QxL.j4 (h:QxL o q):QbY types q=QbY types o:=by
 funext l; unfold QbY; rw [h.pickC,h.dropC,h.skills,h.j5,h.j6]
theorem QxL.j8 (h:QxL o q):Qep types q=Qep types o:=by
 funext l; unfold Qep; rw [h.pickC,h.dropC,h.skills,h.j9,h.j10]
theorem QxL.j3 (h:QxL o q):Qbv types q=Qbv types o:=by
 funext l; unfold Qbv; rw [h.pick,h.drop,h.j4]
theorem QxL.j2 (h:QxL o q):Qa7 np types q=Qa7 np types o:=by
 funext l; unfold Qa7; rw [h.pick,h.drop,h.j3,h.j8]
end
end Go.Proofs.YtbilkblifgaflaaGreatDoor
