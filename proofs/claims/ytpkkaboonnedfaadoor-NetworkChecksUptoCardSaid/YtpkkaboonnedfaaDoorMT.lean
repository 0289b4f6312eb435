/- Part MT of the proof: texts Itd Nt Nd No. -/
import Derived.Test.YtpkkaboonnedfaaDoorMA
import Derived.Lib.ItoaMem
import Derived.Test.YtpkkaboonnedfaaDoorMC
namespace Go.Proofs.YtpkkaboonnedfaaDoor
def digN:Nat→Nat→List UInt8
 | 0,_=>[]
 | f+1,u=>if u<10 then [UInt8.ofNat (48+u)] else digN f (u / 10)++[UInt8.ofNat (48+u % 10)]
theorem Qj7:∀ (f u:Nat),u<10 ^ (f+1)→digN (f+1) u=Go.Lib.decDigits u
 | 0,u,h=>by
  have h10:u<10:=by simpa using h
  rw [Go.Lib.decDigits.eq_1 u,dif_pos h10]
  unfold digN
  rw [if_pos h10]
 | f+1,u,h=>by
  rw [Go.Lib.decDigits.eq_1 u]
  unfold digN
  by_cases h10:u<10
  ·rw [if_pos h10,dif_pos h10]
  ·rw [if_neg h10,dif_neg h10,Qj7 f (u / 10) (by rw [Nat.pow_succ] at h; omega)]
def itoaM (n:Int):Option ByteArray:=if 0≤n∧n≤9223372036854775807 then some ⟨(digN 19 n.toNat).toArray⟩ else none
theorem QiQ {n:Int} (h:0≤n∧n≤9223372036854775807):itoaM n=some ⟨(Go.Lib.itoa n).toArray⟩:=by
 obtain ⟨k,rfl⟩:∃ k:Nat,n=k:=⟨n.toNat,by omega⟩
 unfold itoaM
 rw [if_pos h,Int.toNat_natCast,Qj7 18 k (by have:=h.2; omega),Go.Lib.itoa_nonneg]
end Go.Proofs.YtpkkaboonnedfaaDoor
namespace Go.Proofs.YtpkkaboonnedfaaDoor
set_option linter.unusedVariables false
set_option linter.unusedSectionVars false
set_option linter.unusedSimpArgs false
def e_i64 (n:Int):List Lf:=[.int .i64 n]
def e_u8 (n:Int):List Lf:=[.int .u8 n]
def e_str (s:ByteArray):List Lf:=[.str s]
structure Qab where
  t:Int
  a:Int
instance:DecidableEq Qab:=fun a b=>decidable_of_iff (a.t=b.t∧a.a=b.a) (by cases a; cases b; simp)
structure Qad where
  from_:Int
  to_:Int
  profile:Int
  miles:Int
  travel:List Qab
  slow:List Qab
instance:DecidableEq Qad:=fun a b=>decidable_of_iff (a.from_=b.from_∧a.to_=b.to_∧a.profile=b.profile∧a.miles=b.miles∧a.travel=b.travel∧a.slow=b.slow) (by cases a; cases b; simp)
structure Qac where
  places:List ByteArray
  arcs:List Qad
instance:DecidableEq Qac:=fun a b=>decidable_of_iff (a.places=b.places∧a.arcs=b.arcs) (by cases a; cases b; simp)
structure Qae where
  from_:Int
  to_:Int
  profile:Int
instance:DecidableEq Qae:=fun a b=>decidable_of_iff (a.from_=b.from_∧a.to_=b.to_∧a.profile=b.profile) (by cases a; cases b; simp)
structure Qip where
  x0:Int
  x1:Int
  x2:Int
  x3:Int
  x4:Int
  x5:Int
  x6:Int
  x7:Int
  x8:Int
  x9:Int
  x10:Int
  x11:Int
  x12:Int
  x13:Int
  x14:Int
  x15:Int
  x16:Int
  x17:Int
  x18:Int
  x19:Int
  x20:Int
  x21:Int
  x22:Int
  x23:Int
instance:DecidableEq Qip:=fun a b=>decidable_of_iff (a.x0=b.x0∧a.x1=b.x1∧a.x2=b.x2∧a.x3=b.x3∧a.x4=b.x4∧a.x5=b.x5∧a.x6=b.x6∧a.x7=b.x7∧a.x8=b.x8∧a.x9=b.x9∧a.x10=b.x10∧a.x11=b.x11∧a.x12=b.x12∧a.x13=b.x13∧a.x14=b.x14∧a.x15=b.x15∧a.x16=b.x16∧a.x17=b.x17∧a.x18=b.x18∧a.x19=b.x19∧a.x20=b.x20∧a.x21=b.x21∧a.x22=b.x22∧a.x23=b.x23) (by cases a; cases b; simp)
structure Qaa where
  err:Int
  at_:ByteArray
instance:DecidableEq Qaa:=fun a b=>decidable_of_iff (a.err=b.err∧a.at_=b.at_) (by cases a; cases b; simp)
def Qab.enc (x:Qab):List Lf:=[lI x.t,lI x.a]
def Qad.enc (x:Qad):List Lf:=[lI x.from_,lI x.to_,lI x.profile,lI x.miles,lL 2 x.travel Qab.enc,lL 2 x.slow Qab.enc]
def Qac.enc (x:Qac):List Lf:=[lL 1 x.places e_str,lL 6 x.arcs Qad.enc]
def Qae.enc (x:Qae):List Lf:=[lI x.from_,lI x.to_,lI x.profile]
def Qip.enc (x:Qip):List Lf:=[.int .u8 x.x0,.int .u8 x.x1,.int .u8 x.x2,.int .u8 x.x3,.int .u8 x.x4,.int .u8 x.x5,.int .u8 x.x6,.int .u8 x.x7,.int .u8 x.x8,.int .u8 x.x9,.int .u8 x.x10,.int .u8 x.x11,.int .u8 x.x12,.int .u8 x.x13,.int .u8 x.x14,.int .u8 x.x15,.int .u8 x.x16,.int .u8 x.x17,.int .u8 x.x18,.int .u8 x.x19,.int .u8 x.x20,.int .u8 x.x21,.int .u8 x.x22,.int .u8 x.x23]
def Qaa.enc (x:Qaa):List Lf:=[lI x.err,.str x.at_]
def Qae.keq (a b:Qae):Bool:=eqI a.from_ b.from_&&(eqI a.to_ b.to_&&(eqI a.profile b.profile&&true))
theorem Qae.kq (a b:Qae):kEqs (Qae.enc a) (Qae.enc b)=some (Qae.keq a b):=rfl
def Qc6:ByteArray:=⟨#[48,49,50,51,52,53,54,55,56,57,97,98,99,100,101,102,103,104,105,106,107,108,109,110,111,112,113,114,115,116,117,118,119,120,121,122]⟩
def Qc5:ByteArray:=⟨#[48,48,48,49,48,50,48,51,48,52,48,53,48,54,48,55,48,56,48,57,49,48,49,49,49,50,49,51,49,52,49,53,49,54,49,55,49,56,49,57,50,48,50,49,50,50,50,51,50,52,50,53,50,54,50,55,50,56,50,57,51,48,51,49,51,50,51,51,51,52,51,53,51,54,51,55,51,56,51,57,52,48,52,49,52,50,52,51,52,52,52,53,52,54,52,55,52,56,52,57,53,48,53,49,53,50,53,51,53,52,53,53,53,54,53,55,53,56,53,57,54,48,54,49,54,50,54,51,54,52,54,53,54,54,54,55,54,56,54,57,55,48,55,49,55,50,55,51,55,52,55,53,55,54,55,55,55,56,55,57,56,48,56,49,56,50,56,51,56,52,56,53,56,54,56,55,56,56,56,57,57,48,57,49,57,50,57,51,57,52,57,53,57,54,57,55,57,56,57,57]⟩
def Qc7:ByteArray:=⟨#[0,1,2,2,3,3,3,3,4,4,4,4,4,4,4,4,5,5,5,5,5,5,5,5,5,5,5,5,5,5,5,5,6,6,6,6,6,6,6,6,6,6,6,6,6,6,6,6,6,6,6,6,6,6,6,6,6,6,6,6,6,6,6,6,7,7,7,7,7,7,7,7,7,7,7,7,7,7,7,7,7,7,7,7,7,7,7,7,7,7,7,7,7,7,7,7,7,7,7,7,7,7,7,7,7,7,7,7,7,7,7,7,7,7,7,7,7,7,7,7,7,7,7,7,7,7,7,7,8,8,8,8,8,8,8,8,8,8,8,8,8,8,8,8,8,8,8,8,8,8,8,8,8,8,8,8,8,8,8,8,8,8,8,8,8,8,8,8,8,8,8,8,8,8,8,8,8,8,8,8,8,8,8,8,8,8,8,8,8,8,8,8,8,8,8,8,8,8,8,8,8,8,8,8,8,8,8,8,8,8,8,8,8,8,8,8,8,8,8,8,8,8,8,8,8,8,8,8,8,8,8,8,8,8,8,8,8,8,8,8,8,8,8,8,8,8,8,8,8,8,8,8,8,8,8,8]⟩
def Qjn:ByteArray:=⟨#[65]⟩
def Qjo:ByteArray:=⟨#[66]⟩
def Qjp:ByteArray:=⟨#[67]⟩
def QaV:ByteArray:=⟨#[112,108,97,99,101,115]⟩
def QaA:ByteArray:=⟨#[112,108,97,99,101,32]⟩
def QbT:ByteArray:=⟨#[97,114,99,115]⟩
def Qaj:ByteArray:=⟨#[97,114,99,32]⟩
def Qjq:ByteArray:=⟨#[45]⟩
end Go.Proofs.YtpkkaboonnedfaaDoor
namespace Go.Proofs.YtpkkaboonnedfaaDoor
set_option linter.unusedVariables false
set_option linter.unusedSectionVars false
set_option linter.unusedSimpArgs false
noncomputable def QcO (n:Int):Option ByteArray:=itoaM n
noncomputable def QaU (n:Qac) (i:Int):Option Bool:=some ((geI i 0)&&(ltI i (lenI n.places)))
noncomputable def QbM (t:Int):Option Bool:=some ((geI t 0)&&(leI t 4096))
noncomputable def Qd2 (l:List Qab) (t:Int) (ticks:Int):Option (List Qab×Int):=chk (okN l.length 16) (br (geI (subK .i64 (lenI l) 1) 0) (bnd (getI l (subK .i64 (lenI l) 1)) fun x0=>br (ltI t x0.t) (some ([],2)) (br (eqI t x0.t) (br (gtI (addK .i64 x0.a ticks) 4096) (some ([],2)) (some ((setI l (subK .i64 (lenI l) 1) (Qab.mk x0.t (addK .i64 x0.a ticks))),0))) (br (geI (lenI l) 16) (some ([],4)) (chk (okN (l++[(Qab.mk t ticks)]).length 16) (some ((l++[(Qab.mk t ticks)]),0)))))) (br (geI (lenI l) 16) (some ([],4)) (chk (okN (l++[(Qab.mk t ticks)]).length 16) (some ((l++[(Qab.mk t ticks)]),0)))))
noncomputable def QcK (n:Qac) (from_:Int) (to_:Int) (t:Int) (ticks:Int) (l:List Qad) (found:Bool) (v:Int):Option ((List Qad×Bool×Int)⊕((List Qad×Bool)⊕(Qac×Int))):=br (ltI v (lenI n.arcs)) (bnd (getI l v) fun x0=>br ((neI x0.from_ from_)||(neI x0.to_ to_)) (some (.inl (l,found,(addK .i64 v 1)))) (bnd (Qd2 x0.slow t ticks) fun r4=>br (neI r4.2 0) (some (.inr (.inr ((Qac.mk [] []),r4.2)))) (some (.inl ((setI l v (Qad.mk x0.from_ x0.to_ x0.profile x0.miles x0.travel r4.1)),true,(addK .i64 v 1)))))) (some (.inr (.inl (l,found))))
noncomputable def QdA (n:Qac) (from_:Int) (to_:Int) (t:Int) (ticks:Int):Option (Qac×Int):=bnd (QaU n from_) fun r=>br r (bnd (QaU n to_) fun r1=>br r1 (bnd (QbM t) fun r2=>br r2 (bnd (QbM ticks) fun r3=>br r3 (chk (okN n.arcs.length 80) (bnd (loopF (fun s=>QcK n from_ to_ t ticks s.1 s.2.1 s.2.2) (n.arcs,false,0)) (fun e=>sel e (fun e0=>(fun l1 found1=>br found1 (some ((Qac.mk n.places l1),0)) (some ((Qac.mk [] []),12))) e0.1 e0.2) (fun r5=>some r5)))) (some ((Qac.mk [] []),2))) (some ((Qac.mk [] []),2))) (some ((Qac.mk [] []),11))) (some ((Qac.mk [] []),11))
noncomputable def Qbw (a:Qad):Option Qae:=some (Qae.mk a.from_ a.to_ a.profile)
noncomputable def Qda (n:Qac) (profile:Int) (from_:Int) (to_:Int) (v:Int):Option ((Int)⊕((Unit)⊕(Qad×Bool))):=br (ltI v (lenI n.arcs)) (bnd (getI n.arcs v) fun x0=>bnd (Qbw x0) fun r=>br (eqI r.from_ from_&&(eqI r.to_ to_&&(eqI r.profile profile&&true))) (some (.inr (.inr (x0,true)))) (some (.inl (addK .i64 v 1)))) (some (.inr (.inl ())))
noncomputable def QeF (n:Qac) (profile:Int) (from_:Int) (to_:Int):Option (Qad×Bool):=bnd (loopF (fun s=>Qda n profile from_ to_ s) 0) (fun e=>sel e (fun (_:Unit)=>some ((Qad.mk 0 0 0 0 [] []),false)) (fun r1=>some r1))
noncomputable def QcE (n:Int) (least:Int) (most:Int):Option Bool:=some ((geI n least)&&(leI n most))
noncomputable def Qg7 (i:Int):Option ByteArray:=br (ltI i 10) (bnd (slcS Qc6 i (addK .i64 i 1)) fun s0=>some (Qc6.extract (i:Int).toNat ((addK .i64 i 1):Int).toNat)) (bnd (slcS Qc5 (mulK .i64 i 2) (addK .i64 (mulK .i64 i 2) 2)) fun s1=>some (Qc5.extract ((mulK .i64 i 2):Int).toNat ((addK .i64 (mulK .i64 i 2) 2):Int).toNat))
noncomputable def QfF (x0:Int):Option Int:=some (shrK .i64 (mulK .i64 x0 78913) 18)
noncomputable def Qft (x2:Int) (n1:Int):Option Int:=br (geI x2 256) (bnd (getS Qc7 (cvK .u8 (shrK .u64 x2 8))) fun b=>some (addK .i64 (addK .i64 n1 8) (cvK .i64 (byteI b)))) (bnd (getS Qc7 (cvK .u8 x2)) fun b1=>some (addK .i64 n1 (cvK .i64 (byteI b1))))
noncomputable def Qfs (x1:Int) (n:Int):Option Int:=br (geI x1 65536) (Qft (shrK .u64 x1 16) (addK .i64 n 16)) (Qft x1 n)
noncomputable def Qit (x0:Int):Option Int:=br (geI x0 4294967296) (Qfs (shrK .u64 x0 32) 32) (Qfs x0 0)
noncomputable def QfG (d:Int):Option Int:=bnd (Qit d) fun r=>bnd (QfF r) fun r1=>none
noncomputable def QcX (i:Int) (u:Int):Option ByteArray:=bnd (QfG u) fun r1=>none
noncomputable def QfE (i:Int) (base:Int):Option ByteArray:=br (eqI base 10) (br ((leI 0 i)&&(ltI i 100)) (bnd (Qg7 i) fun r=>some r) (br (ltI i 0) (QcX i (subK .u64 0 (cvK .u64 i))) (QcX i (cvK .u64 i)))) (none)
noncomputable def strconv_Itoa (i:Int):Option ByteArray:=bnd (QfE i 10) fun r=>some r
noncomputable def QbE (l:List Qab) (v:Int) (x0:Qab) (r:ByteArray) (l3:List Qaa):Option ((List Qaa×Int)⊕(List Qaa)):=br (gtI v 0) (bnd (getI l (subK .i64 v 1)) fun x1=>br (leI x0.t x1.t) (chk (okN (l3++[(Qaa.mk 13 r)]).length 24) (some (.inl ((l3++[(Qaa.mk 13 r)]),(addK .i64 v 1))))) (br (ltI x0.a x1.a) (chk (okN (l3++[(Qaa.mk 13 r)]).length 24) (some (.inl ((l3++[(Qaa.mk 13 r)]),(addK .i64 v 1))))) (some (.inl (l3,(addK .i64 v 1)))))) (some (.inl (l3,(addK .i64 v 1))))
noncomputable def QbF (l:List Qab) (l2:List Qaa) (v:Int):Option ((List Qaa×Int)⊕(List Qaa)):=br (ltI v (lenI l)) (bnd (getI l v) fun x0=>bnd (QcO v) fun r=>bnd (QcE x0.t 0 4096) fun r1=>br (((!r1)||(ltI x0.a x0.t))||(gtI x0.a (addK .i64 x0.t 4096))) (chk (okN (l2++[(Qaa.mk 2 r)]).length 24) (QbE l v x0 r (l2++[(Qaa.mk 2 r)]))) (QbE l v x0 r l2)) (some (.inr l2))
noncomputable def QbD (l:List Qab) (l1:List Qaa):Option (List Qaa):=bnd (loopF (fun s=>QbF l s.1 s.2) (l1,0)) (fun l4=>some l4)
noncomputable def Qbh (l:List Qab):Option (List Qaa):=br ((eqI (lenI l) 0)||(gtI (lenI l) 16)) (chk (okN [(Qaa.mk 4 ByteArray.empty)].length 24) (QbD l [(Qaa.mk 4 ByteArray.empty)])) (QbD l [])
noncomputable def QeO (l:List Qab):Option Bool:=bnd (Qbh l) fun r=>some (eqI (lenI r) 0)
noncomputable def Qcu (p:Qab) (t:Int):Option Int:=some (subK .i64 p.t t)
noncomputable def Qar (x0:List Qab) (target:Int) (i:Int) (j:Int):Option ((Int×Int)⊕(Int)):=br (ltI i j) (bnd (getI x0 (cvK .i64 (shrK .u64 (cvK .u64 (addK .i64 i j)) 1))) fun x1=>bnd (Qcu x1 target) fun r=>br (ltI r 0) (some (.inl ((addK .i64 (cvK .i64 (shrK .u64 (cvK .u64 (addK .i64 i j)) 1)) 1),j))) (some (.inl (i,(cvK .i64 (shrK .u64 (cvK .u64 (addK .i64 i j)) 1)))))) (some (.inr i))
noncomputable def Qau (x0:List Qab) (target:Int):Option (Int×Bool):=bnd (loopF (fun s=>Qar x0 target s.1 s.2) (0,(lenI x0))) (fun i1=>br (ltI i1 (lenI x0)) (bnd (getI x0 i1) fun x2=>bnd (Qcu x2 target) fun r1=>some (i1,(eqI r1 0))) (some (i1,false)))
noncomputable def Qea (l:List Qab) (t:Int):Option Int:=bnd (Qau l t) fun r=>br r.2 (bnd (getI l r.1) fun x0=>some x0.a) (br (eqI r.1 0) (bnd (getI l 0) fun x1=>some (subK .i64 (addK .i64 t x1.a) x1.t)) (br (eqI r.1 (lenI l)) (bnd (getI l (subK .i64 r.1 1)) fun x2=>some (subK .i64 (addK .i64 t x2.a) x2.t)) (bnd (getI l (subK .i64 r.1 1)) fun x3=>bnd (getI l r.1) fun x4=>chk (((subK .i64 x4.t x3.t):Int)≠0) (some (addK .i64 x3.a (quoK .i64 (subK .i64 (addK .i64 (mulK .i64 (subK .i64 t x3.t) (subK .i64 x4.a x3.a)) (subK .i64 x4.t x3.t)) 1) (subK .i64 x4.t x3.t)))))))
noncomputable def Qd9 (l:List Qab) (t:Int):Option Int:=bnd (QcE t 0 1073741824) fun r=>br r (bnd (QeO l) fun r1=>br r1 (bnd (Qea l t) fun r2=>some r2) (some 0)) (some 0)
noncomputable def Qcn (a:Qad) (t:Int) (out:Int) (v:Int):Option ((Int×Int)⊕(Int)):=br (ltI v (lenI a.slow)) (bnd (getI a.slow v) fun x0=>br (leI x0.t t) (some (.inl ((addK .i64 out x0.a),(addK .i64 v 1)))) (some (.inl (out,(addK .i64 v 1))))) (some (.inr out))
noncomputable def Qcs (a:Qad) (t:Int):Option Int:=bnd (Qd9 a.travel t) fun r=>bnd (loopF (fun s=>Qcn a t s.1 s.2) (r,0)) (fun out1=>some out1)
noncomputable def Qd0 (n:Qac) (profile:Int) (from_:Int) (to_:Int) (t:Int):Option (Int×Int×Int):=bnd (QaU n from_) fun r=>br r (bnd (QaU n to_) fun r1=>br r1 (br (eqI from_ to_) (some (t,0,0)) (bnd (QeF n profile from_ to_) fun r2=>br r2.2 (bnd (Qcs r2.1 t) fun r3=>some (r3,r2.1.miles,0)) (some (0,0,12)))) (some (0,0,11))) (some (0,0,11))
noncomputable def QcI:Option Qac:=some (Qac.mk [Qjn,Qjo,Qjp] [(Qad.mk 0 1 0 0 [(Qab.mk 0 10)] []),(Qad.mk 1 2 0 0 [(Qab.mk 0 5)] []),(Qad.mk 0 2 0 9 [(Qab.mk 0 20)] [])])
noncomputable def Qch (a:List Int) (b:List Int) (v:Int):Option ((Int)⊕((Unit)⊕(Bool))):=br (ltI v (lenI a)) (bnd (getI a v) fun x0=>bnd (getI b v) fun x1=>br (neI x0 x1) (some (.inr (.inr false))) (some (.inl (addK .i64 v 1)))) (some (.inr (.inl ())))
noncomputable def QbB (a:List Int) (b:List Int):Option Bool:=br (neI (lenI a) (lenI b)) (some false) (bnd (loopF (fun s=>Qch a b s) 0) (fun e=>sel e (fun (_:Unit)=>some true) (fun r=>some r)))
noncomputable def Qb9 (n:Qac) (profile:Int) (from_:Int) (t:Int) (l:List Int) (l1:List Int) (v:Int):Option ((List Int×Int)⊕(List Int)):=br (ltI v (lenI l)) (bnd (getI l1 v) fun x0=>some (.inl ((setI l1 v (-1)),(addK .i64 v 1)))) (some (.inr l1))
noncomputable def Qcb (n:Qac) (profile:Int) (from_:Int) (l:List Int) (l4:List Int) (better1:Bool) (v1:Int):Option ((List Int×Bool×Int)⊕(List Int×Bool)):=br (ltI v1 (lenI n.arcs)) (bnd (getI n.arcs v1) fun x2=>br (neI x2.profile profile) (some (.inl (l4,better1,(addK .i64 v1 1)))) (bnd (QaU n x2.from_) fun r1=>br r1 (bnd (QaU n x2.to_) fun r2=>br r2 (bnd (getI l4 x2.from_) fun x3=>br (ltI x3 0) (some (.inl (l4,better1,(addK .i64 v1 1)))) (bnd (Qcs x2 x3) fun r3=>bnd (getI l4 x2.to_) fun x4=>br (ltI x4 0) (some (.inl ((setI l4 x2.to_ r3),true,(addK .i64 v1 1)))) (br (ltI r3 x4) (some (.inl ((setI l4 x2.to_ r3),true,(addK .i64 v1 1)))) (some (.inl (l4,better1,(addK .i64 v1 1))))))) (some (.inl (l4,better1,(addK .i64 v1 1))))) (some (.inl (l4,better1,(addK .i64 v1 1)))))) (some (.inr (l4,better1)))
noncomputable def Qca (n:Qac) (profile:Int) (from_:Int) (l:List Int) (l3:List Int) (better:Bool):Option ((List Int×Bool)⊕(List Int)):=br better (bnd (loopF (fun s=>Qcb n profile from_ l s.1 s.2.1 s.2.2) (l3,false,0)) (fun e0=>(fun l5 better2=>some (.inl (l5,better2))) e0.1 e0.2)) (some (.inr l3))
noncomputable def Qbt (n:Qac) (profile:Int) (from_:Int) (t:Int):Option (List Int):=bnd (mkI (lenI n.places) (lenI n.places) 8 0) fun l=>bnd (loopF (fun s=>Qb9 n profile from_ t l s.1 s.2) (l,0)) (fun l2=>bnd (QaU n from_) fun r=>br r (bnd (getI l2 from_) fun x1=>bnd (loopF (fun s=>Qca n profile from_ l s.1 s.2) ((setI l2 from_ t),true)) (fun l6=>some l6)) (some l2))
noncomputable def Qbk:Option Bool:=bnd (QcI) fun r=>bnd (Qd0 r 0 0 2 3) fun r1=>bnd (QdA r 1 2 13 4) fun r2=>bnd (Qd0 r 0 2 0 3) fun r3=>bnd (Qd0 r 0 0 3 3) fun r4=>br ((((((eqI r1.2.2 0)&&(eqI r1.1 23))&&(eqI r1.2.1 9))&&(eqI r2.2 0))&&(eqI r3.2.2 12))&&(eqI r4.2.2 11)) (bnd (Qbt r 0 0 3) fun r5=>bnd (QbB r5 [3,13,18]) fun r6=>br r6 (bnd (Qbt r2.1 0 0 3) fun r7=>bnd (QbB r7 [3,13,22]) fun r8=>br r8 (bnd (Qbt r2.1 0 0 2) fun r9=>bnd (QbB r9 [2,12,17]) fun r10=>br r10 (bnd (Qbt r2.1 0 0 90) fun r11=>bnd (QbB r11 [90,100,109]) fun r12=>some r12) (some false)) (some false)) (some false)) (some false)
noncomputable def Qcq (n:Int):Option ByteArray:=bnd (QcO n) fun r=>some r
noncomputable def Qe9 (c:Int):Option Bool:=some ((geI c 48)&&(leI c 57))
noncomputable def Qfp (c:Int):Option Bool:=some ((((geI c 97)&&(leI c 122))||((geI c 65)&&(leI c 90)))||(eqI c 95))
noncomputable def QeM (s0:ByteArray) (b:UInt8) (v:Int):Option ((Int)⊕((Unit)⊕(Bool))):=br (ltI v (sizeS s0)) (bnd (getS s0 v) fun b1=>bnd (Qfp (byteI b1)) fun r1=>br r1 (some (.inl (addK .i64 v 1))) (bnd (Qe9 (byteI b1)) fun r2=>br r2 (some (.inl (addK .i64 v 1))) (some (.inr (.inr false))))) (some (.inr (.inl ())))
noncomputable def Qe8 (s0:ByteArray):Option Bool:=br ((eqS s0 ByteArray.empty)||(gtI (sizeS s0) 16)) (some false) (bnd (getS s0 0) fun b=>bnd (Qe9 (byteI b)) fun r=>br r (some false) (bnd (loopF (fun s=>QeM s0 b s) 0) (fun e=>sel e (fun (_:Unit)=>some true) (fun r3=>some r3))))
noncomputable def Qa8 (l:List Qab) (l2:List Int) (v:Int):Option ((List Int×Int)⊕(List Int)):=br (ltI v (lenI l)) (bnd (getI l v) fun x0=>bnd (QbM x0.t) fun r=>br r (br (gtI v 0) (bnd (getI l (subK .i64 v 1)) fun x1=>br (leI x0.t x1.t) (chk (okN (l2++[2]).length 8) (some (.inl ((l2++[2]),(addK .i64 v 1))))) (bnd (QbM x0.a) fun r1=>br r1 (some (.inl (l2,(addK .i64 v 1)))) (chk (okN (l2++[2]).length 8) (some (.inl ((l2++[2]),(addK .i64 v 1))))))) (bnd (QbM x0.a) fun r2=>br r2 (some (.inl (l2,(addK .i64 v 1)))) (chk (okN (l2++[2]).length 8) (some (.inl ((l2++[2]),(addK .i64 v 1))))))) (chk (okN (l2++[2]).length 8) (some (.inl ((l2++[2]),(addK .i64 v 1)))))) (some (.inr l2))
noncomputable def QbC (l:List Qab) (l1:List Int):Option (List Int):=bnd (loopF (fun s=>Qa8 l s.1 s.2) (l1,0)) (fun l3=>some l3)
noncomputable def Qco (l:List Qab):Option (List Int):=br (gtI (lenI l) 16) (chk (okN [4].length 8) (QbC l [4])) (QbC l [])
noncomputable def Qbb (a:Qad) (known:List (Qae×Bool)) (l:List Int) (r3:List Qaa) (l3:List Int) (v:Int):Option ((List Int×Int)⊕(List Int)):=br (ltI v (lenI r3)) (bnd (getI r3 v) fun x0=>chk (okN (l3++[x0.err]).length 8) (some (.inl ((l3++[x0.err]),(addK .i64 v 1))))) (some (.inr l3))
noncomputable def QbR (a:Qad) (known:List (Qae×Bool)) (l:List Int) (l2:List Int):Option (List Int):=bnd (Qbh a.travel) fun r3=>bnd (loopF (fun s=>Qbb a known l r3 s.1 s.2) (l2,0)) (fun l4=>bnd (Qco a.slow) fun r4=>chk (okN (l4++r4).length 8) (some (l4++r4)))
noncomputable def Qbx (a:Qad) (known:List (Qae×Bool)) (l:List Int) (l1:List Int):Option (List Int):=bnd (Qbw a) fun r2=>br (mGet Qae.keq known r2 false) (chk (okN (l1++[6]).length 8) (QbR a known l (l1++[6]))) (QbR a known l l1)
noncomputable def QbQ (a:Qad) (known:List (Qae×Bool)) (l:List Int):Option (List Int):=br (((((ltI a.profile 0)||(gtI a.profile 7))||(ltI a.miles 0))||(gtI a.miles 10000))||(eqI a.from_ a.to_)) (chk (okN (l++[2]).length 8) (Qbx a known l (l++[2]))) (Qbx a known l l)
noncomputable def QdB (a:Qad) (known:List (Qae×Bool)) (r6:List Qaa) (l7:List Int) (v1:Int):Option ((List Int×Int)⊕(List Int)):=br (ltI v1 (lenI r6)) (bnd (getI r6 v1) fun x1=>chk (okN (l7++[x1.err]).length 8) (some (.inl ((l7++[x1.err]),(addK .i64 v1 1))))) (some (.inr l7))
noncomputable def QcN (a:Qad) (known:List (Qae×Bool)) (l6:List Int):Option (List Int):=bnd (Qbh a.travel) fun r6=>bnd (loopF (fun s=>QdB a known r6 s.1 s.2) (l6,0)) (fun l8=>bnd (Qco a.slow) fun r7=>chk (okN (l8++r7).length 8) (some (l8++r7)))
noncomputable def Qcc (a:Qad) (known:List (Qae×Bool)) (l5:List Int):Option (List Int):=bnd (Qbw a) fun r5=>br (mGet Qae.keq known r5 false) (chk (okN (l5++[6]).length 8) (QcN a known (l5++[6]))) (QcN a known l5)
noncomputable def Qdo (n:Qac) (a:Qad) (known:List (Qae×Bool)):Option (List Int):=bnd (QaU n a.from_) fun r=>br r (bnd (QaU n a.to_) fun r1=>br r1 (QbQ a known []) (chk (okN [11].length 8) (QbQ a known [11]))) (chk (okN [11].length 8) (br (((((ltI a.profile 0)||(gtI a.profile 7))||(ltI a.miles 0))||(gtI a.miles 10000))||(eqI a.from_ a.to_)) (chk (okN ([11]++[2]:List Int).length 8) (Qcc a known ([11]++[2]))) (Qcc a known [11])))
noncomputable def Qbr (n:Qac) (l:List Qaa) (l2:List (ByteArray×Bool)) (v:Int) (x0:ByteArray) (l3:List Qaa):Option ((List Qaa×List (ByteArray×Bool)×Int)⊕(List Qaa)):=some (.inl (l3,(mPut eqY l2 x0 true),(addK .i64 v 1)))
noncomputable def Qa1 (n:Qac) (l:List Qaa) (l1:List Qaa) (l2:List (ByteArray×Bool)) (v:Int):Option ((List Qaa×List (ByteArray×Bool)×Int)⊕(List Qaa)):=br (ltI v (lenI n.places)) (bnd (getI n.places v) fun x0=>bnd (Qcq v) fun r=>chk (QaA.size+r.size≤9223372036854775807) (bnd (Qe8 x0) fun r1=>br r1 (br (mGet eqY l2 x0 false) (chk (okN (l1++[(Qaa.mk 6 (catS QaA r))]).length 24) (Qbr n l l2 v x0 (l1++[(Qaa.mk 6 (catS QaA r))]))) (Qbr n l l2 v x0 l1)) (chk (okN (l1++[(Qaa.mk 5 (catS QaA r))]).length 24) (Qbr n l l2 v x0 (l1++[(Qaa.mk 5 (catS QaA r))]))))) (some (.inr l1))
noncomputable def Qa3 (n:Qac) (l:List Qaa) (l7:List (Qae×Bool)) (v1:Int) (x1:Qad) (r2:List Int) (l8:List Qaa) (v2:Int):Option ((List Qaa×Int)⊕(List Qaa)):=br (ltI v2 (lenI r2)) (bnd (getI r2 v2) fun x2=>bnd (Qcq v1) fun r3=>chk (Qaj.size+r3.size≤9223372036854775807) (chk (okN (l8++[(Qaa.mk x2 (catS Qaj r3))]).length 24) (some (.inl ((l8++[(Qaa.mk x2 (catS Qaj r3))]),(addK .i64 v2 1)))))) (some (.inr l8))
noncomputable def Qa2 (n:Qac) (l:List Qaa) (l6:List Qaa) (l7:List (Qae×Bool)) (v1:Int):Option ((List Qaa×List (Qae×Bool)×Int)⊕(List Qaa)):=br (ltI v1 (lenI n.arcs)) (bnd (getI n.arcs v1) fun x1=>bnd (Qdo n x1 l7) fun r2=>bnd (loopF (fun s=>Qa3 n l l7 v1 x1 r2 s.1 s.2) (l6,0)) (fun l9=>bnd (Qbw x1) fun r4=>some (.inl (l9,(mPut Qae.keq l7 r4 true),(addK .i64 v1 1))))) (some (.inr l6))
noncomputable def Qbs (n:Qac) (l:List Qaa) (l5:List Qaa):Option (List Qaa):=bnd (loopF (fun s=>Qa2 n l s.1 s.2.1 s.2.2) (l5,[],0)) (fun l10=>some l10)
noncomputable def Qbq (n:Qac) (l:List Qaa):Option (List Qaa):=bnd (loopF (fun s=>Qa1 n l s.1 s.2.1 s.2.2) (l,[],0)) (fun l4=>br (gtI (lenI n.arcs) 1024) (chk (okN (l4++[(Qaa.mk 4 QbT)]).length 24) (Qbs n l (l4++[(Qaa.mk 4 QbT)]))) (Qbs n l l4))
noncomputable def QcC (n:Qac):Option (List Qaa):=br (gtI (lenI n.places) 24) (chk (okN [(Qaa.mk 4 QaV)].length 24) (Qbq n [(Qaa.mk 4 QaV)])) (Qbq n [])
noncomputable def QaQ (n:Int) (s0:ByteArray) (left:Int) (d:Int):Option ((ByteArray×Int×Bool)⊕(ByteArray)):=chk ((Qge [(cvK .u8 (addK .i64 48 d))]).size+s0.size≤9223372036854775807) (some (.inl ((catS (Qge [(cvK .u8 (addK .i64 48 d))]) s0),(quoK .i64 left 10),(neI (quoK .i64 left 10) 0))))
noncomputable def Qa5 (n:Int) (s0:ByteArray) (left:Int) (again:Bool):Option ((ByteArray×Int×Bool)⊕(ByteArray)):=br again (br (ltI (remK left 10) 0) (QaQ n s0 left (subK .i64 0 (remK left 10))) (QaQ n s0 left (remK left 10))) (some (.inr s0))
noncomputable def Qav (n:Int):Option ByteArray:=bnd (loopF (fun s=>Qa5 n s.1 s.2.1 s.2.2) (ByteArray.empty,n,true)) (fun s1=>br (ltI n 0) (chk (Qjq.size+s1.size≤9223372036854775807) (some (catS Qjq s1))) (some s1))
noncomputable def Qb7 (c:Int):Option Bool:=some ((geI c 48)&&(leI c 57))
noncomputable def QcJ (c:Int):Option Bool:=some ((((geI c 97)&&(leI c 122))||((geI c 65)&&(leI c 90)))||(eqI c 95))
noncomputable def Qbo (s0:ByteArray) (b:UInt8) (i:Int):Option ((Int)⊕((Unit)⊕(Bool))):=br (ltI i (sizeS s0)) (bnd (getS s0 i) fun b1=>bnd (QcJ (byteI b1)) fun r1=>br r1 (some (.inl (addK .i64 i 1))) (bnd (Qb7 (byteI b1)) fun r2=>br r2 (some (.inl (addK .i64 i 1))) (some (.inr (.inr false))))) (some (.inr (.inl ())))
noncomputable def Qa6 (s0:ByteArray):Option Bool:=br ((ltI (sizeS s0) 1)||(gtI (sizeS s0) 16)) (some false) (bnd (getS s0 0) fun b=>bnd (Qb7 (byteI b)) fun r=>br r (some false) (bnd (loopF (fun s=>Qbo s0 b s) 0) (fun e=>sel e (fun (_:Unit)=>some true) (fun r3=>some r3))))
noncomputable def QaT (l:List Qab) (i:Int) (x0:Qab) (l3:List Qaa):Option ((List Qaa×Int)⊕(List Qaa)):=br (gtI i 0) (bnd (getI l (subK .i64 i 1)) fun x1=>br (leI x0.t x1.t) (bnd (Qav i) fun r1=>chk (okN (l3++[(Qaa.mk 13 r1)]).length 24) (some (.inl ((l3++[(Qaa.mk 13 r1)]),(addK .i64 i 1))))) (br (ltI x0.a x1.a) (bnd (Qav i) fun r2=>chk (okN (l3++[(Qaa.mk 13 r2)]).length 24) (some (.inl ((l3++[(Qaa.mk 13 r2)]),(addK .i64 i 1))))) (some (.inl (l3,(addK .i64 i 1)))))) (some (.inl (l3,(addK .i64 i 1))))
noncomputable def QaK (l:List Qab) (l2:List Qaa) (i:Int):Option ((List Qaa×Int)⊕(List Qaa)):=br (ltI i (lenI l)) (bnd (getI l i) fun x0=>br ((((ltI x0.t 0)||(gtI x0.t 4096))||(ltI x0.a x0.t))||(gtI x0.a (addK .i64 x0.t 4096))) (bnd (Qav i) fun r=>chk (okN (l2++[(Qaa.mk 2 r)]).length 24) (QaT l i x0 (l2++[(Qaa.mk 2 r)]))) (QaT l i x0 l2)) (some (.inr l2))
noncomputable def QaY (l:List Qab) (l1:List Qaa):Option (List Qaa):=bnd (loopF (fun s=>QaK l s.1 s.2) (l1,0)) (fun l4=>some l4)
noncomputable def QaM (l:List Qab):Option (List Qaa):=br ((ltI (lenI l) 1)||(gtI (lenI l) 16)) (chk (okN [(Qaa.mk 4 ByteArray.empty)].length 24) (QaY l [(Qaa.mk 4 ByteArray.empty)])) (QaY l [])
noncomputable def Qbm (t:Int):Option Bool:=some ((geI t 0)&&(leI t 4096))
noncomputable def Qan (n:Qac) (i:Int) (r:ByteArray) (x0:Qad) (l:List Qaa) (l1:List Qaa) (twice:Bool) (k:Int):Option ((Bool×Int)⊕(Bool)):=br (ltI k i) (bnd (getI n.arcs k) fun x1=>some (.inl ((twice||(((eqI x0.from_ x1.from_)&&(eqI x0.to_ x1.to_))&&(eqI x0.profile x1.profile))),(addK .i64 k 1)))) (some (.inr twice))
noncomputable def Qao (r:ByteArray) (x0:Qad) (l:List Qaa) (r1:List Qaa) (l3:List Qaa) (k1:Int):Option ((List Qaa×Int)⊕(List Qaa)):=br (ltI k1 (lenI r1)) (bnd (getI r1 k1) fun x2=>chk (okN (l3++[(Qaa.mk x2.err (catS Qaj r))]).length 24) (some (.inl ((l3++[(Qaa.mk x2.err (catS Qaj r))]),(addK .i64 k1 1))))) (some (.inr l3))
noncomputable def Qap (r:ByteArray) (x0:Qad) (l:List Qaa) (l6:List Qaa) (k2:Int):Option ((List Qaa×Int)⊕(List Qaa)):=br (ltI k2 (lenI x0.slow)) (bnd (getI x0.slow k2) fun x3=>bnd (Qbm x3.t) fun r2=>br r2 (bnd (Qbm x3.a) fun r3=>br r3 (br (gtI k2 0) (bnd (getI x0.slow (subK .i64 k2 1)) fun x4=>br (leI x3.t x4.t) (chk (okN (l6++[(Qaa.mk 2 (catS Qaj r))]).length 24) (some (.inl ((l6++[(Qaa.mk 2 (catS Qaj r))]),(addK .i64 k2 1))))) (some (.inl (l6,(addK .i64 k2 1))))) (some (.inl (l6,(addK .i64 k2 1))))) (chk (okN (l6++[(Qaa.mk 2 (catS Qaj r))]).length 24) (some (.inl ((l6++[(Qaa.mk 2 (catS Qaj r))]),(addK .i64 k2 1)))))) (chk (okN (l6++[(Qaa.mk 2 (catS Qaj r))]).length 24) (some (.inl ((l6++[(Qaa.mk 2 (catS Qaj r))]),(addK .i64 k2 1)))))) (some (.inr l6))
noncomputable def Qaz (r:ByteArray) (x0:Qad) (l:List Qaa) (l5:List Qaa):Option (List Qaa):=bnd (loopF (fun s=>Qap r x0 l s.1 s.2) (l5,0)) (fun l7=>some l7)
noncomputable def QaI (r:ByteArray) (x0:Qad) (l:List Qaa) (l2:List Qaa):Option (List Qaa):=bnd (QaM x0.travel) fun r1=>bnd (loopF (fun s=>Qao r x0 l r1 s.1 s.2) (l2,0)) (fun l4=>br (gtI (lenI x0.slow) 16) (chk (okN (l4++[(Qaa.mk 4 (catS Qaj r))]).length 24) (Qaz r x0 l (l4++[(Qaa.mk 4 (catS Qaj r))]))) (Qaz r x0 l l4))
noncomputable def QaH (n:Qac) (i:Int) (r:ByteArray) (x0:Qad) (l:List Qaa) (l1:List Qaa):Option (List Qaa):=bnd (loopF (fun s=>Qan n i r x0 l l1 s.1 s.2) (false,0)) (fun twice1=>br twice1 (chk (okN (l1++[(Qaa.mk 6 (catS Qaj r))]).length 24) (QaI r x0 l (l1++[(Qaa.mk 6 (catS Qaj r))]))) (QaI r x0 l l1))
noncomputable def QaG (n:Qac) (i:Int) (r:ByteArray) (x0:Qad) (l:List Qaa):Option (List Qaa):=br (((((ltI x0.profile 0)||(gtI x0.profile 7))||(ltI x0.miles 0))||(gtI x0.miles 10000))||(eqI x0.from_ x0.to_)) (chk (okN (l++[(Qaa.mk 2 (catS Qaj r))]).length 24) (QaH n i r x0 l (l++[(Qaa.mk 2 (catS Qaj r))]))) (QaH n i r x0 l l)
noncomputable def Qa0 (n:Qac) (i:Int):Option (List Qaa):=bnd (Qav i) fun r=>chk (Qaj.size+r.size≤9223372036854775807) (bnd (getI n.arcs i) fun x0=>br ((((ltI x0.from_ 0)||(geI x0.from_ (lenI n.places)))||(ltI x0.to_ 0))||(geI x0.to_ (lenI n.places))) (chk (okN [(Qaa.mk 11 (catS Qaj r))].length 24) (QaG n i r x0 [(Qaa.mk 11 (catS Qaj r))])) (QaG n i r x0 []))
noncomputable def Qai (n:Qac) (l:List Qaa) (l1:List Qaa) (i:Int) (r:ByteArray) (twice:Bool) (k:Int):Option ((Bool×Int)⊕(Bool)):=br (ltI k i) (br twice (some (.inl (true,(addK .i64 k 1)))) (bnd (getI n.places k) fun x1=>bnd (getI n.places i) fun x2=>some (.inl ((eqS x1 x2),(addK .i64 k 1))))) (some (.inr twice))
noncomputable def Qah (n:Qac) (l:List Qaa) (l1:List Qaa) (i:Int):Option ((List Qaa×Int)⊕(List Qaa)):=br (ltI i (lenI n.places)) (bnd (Qav i) fun r=>chk (QaA.size+r.size≤9223372036854775807) (bnd (getI n.places i) fun x0=>bnd (Qa6 x0) fun r1=>br r1 (bnd (loopF (fun s=>Qai n l l1 i r s.1 s.2) (false,0)) (fun twice1=>br twice1 (chk (okN (l1++[(Qaa.mk 6 (catS QaA r))]).length 24) (some (.inl ((l1++[(Qaa.mk 6 (catS QaA r))]),(addK .i64 i 1))))) (some (.inl (l1,(addK .i64 i 1)))))) (chk (okN (l1++[(Qaa.mk 5 (catS QaA r))]).length 24) (some (.inl ((l1++[(Qaa.mk 5 (catS QaA r))]),(addK .i64 i 1))))))) (some (.inr l1))
noncomputable def Qax (n:Qac) (l:List Qaa):Option (List Qaa):=bnd (loopF (fun s=>Qah n l s.1 s.2) (l,0)) (fun l2=>some l2)
noncomputable def QaB (n:Qac):Option (List Qaa):=br (gtI (lenI n.places) 24) (chk (okN [(Qaa.mk 4 QaV)].length 24) (Qax n [(Qaa.mk 4 QaV)])) (Qax n [])
noncomputable def Qaw (n:Qac) (l:List Qaa) (l1:List Qaa) (i:Int):Option ((List Qaa×Int)⊕(List Qaa)):=br (ltI i (lenI n.arcs)) (bnd (Qa0 n i) fun r1=>chk (okN (l1++r1).length 24) (some (.inl ((l1++r1),(addK .i64 i 1))))) (some (.inr l1))
noncomputable def QaZ (n:Qac) (l:List Qaa):Option (List Qaa):=bnd (loopF (fun s=>Qaw n l s.1 s.2) (l,0)) (fun l2=>some l2)
noncomputable def Qbf (n:Qac):Option (List Qaa):=bnd (QaB n) fun r=>br (gtI (lenI n.arcs) 1024) (chk (okN (r++[(Qaa.mk 4 QbT)]).length 24) (QaZ n (r++[(Qaa.mk 4 QbT)]))) (QaZ n r)
noncomputable def Qas (r1:List Qaa) (r2:List Qaa) (v:Int):Option ((Int)⊕((Unit)⊕(Bool))):=br (ltI v (lenI r1)) (bnd (getI r1 v) fun x0=>bnd (getI r2 v) fun x1=>br (eqI x0.err x1.err&&((x0.at_ == x1.at_)&&true)) (some (.inl (addK .i64 v 1))) (some (.inr (.inr false)))) (some (.inr (.inl ())))
noncomputable def Qba (n:Qac):Option Bool:=br ((gtI (lenI n.places) 30)||(gtI (lenI n.arcs) 1100)) (bnd (Qbk) fun r=>some r) (bnd (QcC n) fun r1=>bnd (Qbf n) fun r2=>br (neI (lenI r1) (lenI r2)) (some false) (bnd (loopF (fun s=>Qas r1 r2 s) 0) (fun e=>sel e (fun (_:Unit)=>bnd (Qbk) fun r3=>some r3) (fun r4=>some r4))))
end Go.Proofs.YtpkkaboonnedfaaDoor
namespace Go.Proofs.YtpkkaboonnedfaaDoor
set_option linter.unusedVariables false
set_option linter.unusedSectionVars false
set_option linter.unusedSimpArgs false
open Go.RowKit
variable {N : Nat}
theorem oq_9:Opens Tryd.prog N 9 (rdE 1 e_str (fun s:ByteArray=>s.size≤N) (fun _=>rfl)):=QlC Tryd.underlying9 (by kernel_rfl)
theorem oq_22:Opens Tryd.prog N 22 (rdE 1 (fun l:List ByteArray=>[.sl false 1 (l.map e_str)]) (fun l:List (ByteArray)=>l.length≤N∧∀ x∈l,(fun s:ByteArray=>s.size≤N) x) (fun _=>rfl)):=Qhl Tryd.underlying22 (by kernel_rfl) oq_9 (by decide)
theorem oq_3:Opens Tryd.prog N 3 (rdE 1 e_i64 isI (fun _=>rfl)):=QlB Tryd.underlying3 (by kernel_rfl)
def Qab.ok (N:Nat) (x:Qab):Prop:=isI x.t∧isI x.a∧True
theorem oq_66:Opens Tryd.prog N 66 (rdE 2 Qab.enc (Qab.ok N) (fun _=>rfl)):=QgB Tryd.underlying66 (by kernel_rfl) (.cons rfl oq_3 (.cons rfl oq_3 .nil)) rfl (HE.pair HE.rd (HE.pair HE.rd HE.unit)) (fun a=>⟨a.1,a.2.1⟩) (fun _=>rfl) (fun _ h=>h)
theorem oq_36:Opens Tryd.prog N 36 (rdE 1 (fun l:List Qab=>[.sl false 2 (l.map Qab.enc)]) (fun l:List (Qab)=>l.length≤N∧∀ x∈l,(Qab.ok N) x) (fun _=>rfl)):=Qhl Tryd.underlying36 (by kernel_rfl) oq_66 (by decide)
def Qad.ok (N:Nat) (x:Qad):Prop:=isI x.from_∧isI x.to_∧isI x.profile∧isI x.miles∧(fun l:List (Qab)=>l.length≤N∧∀ x∈l,(Qab.ok N) x) x.travel∧(fun l:List (Qab)=>l.length≤N∧∀ x∈l,(Qab.ok N) x) x.slow∧True
theorem oq_38:Opens Tryd.prog N 38 (rdE 6 Qad.enc (Qad.ok N) (fun _=>rfl)):=QgB Tryd.underlying38 (by kernel_rfl) (.cons rfl oq_3 (.cons rfl oq_3 (.cons rfl oq_3 (.cons rfl oq_3 (.cons rfl oq_36 (.cons rfl oq_36 .nil)))))) rfl (HE.pair HE.rd (HE.pair HE.rd (HE.pair HE.rd (HE.pair HE.rd (HE.pair HE.rd (HE.pair HE.rd HE.unit)))))) (fun a=>⟨a.1,a.2.1,a.2.2.1,a.2.2.2.1,a.2.2.2.2.1,a.2.2.2.2.2.1⟩) (fun _=>rfl) (fun _ h=>h)
theorem oq_23:Opens Tryd.prog N 23 (rdE 1 (fun l:List Qad=>[.sl false 6 (l.map Qad.enc)]) (fun l:List (Qad)=>l.length≤N∧∀ x∈l,(Qad.ok N) x) (fun _=>rfl)):=Qhl Tryd.underlying23 (by kernel_rfl) oq_38 (by decide)
def Qac.ok (N:Nat) (x:Qac):Prop:=(fun l:List (ByteArray)=>l.length≤N∧∀ x∈l,(fun s:ByteArray=>s.size≤N) x) x.places∧(fun l:List (Qad)=>l.length≤N∧∀ x∈l,(Qad.ok N) x) x.arcs∧True
theorem oq_25:Opens Tryd.prog N 25 (rdE 2 Qac.enc (Qac.ok N) (fun _=>rfl)):=QgB Tryd.underlying25 (by kernel_rfl) (.cons rfl oq_22 (.cons rfl oq_23 .nil)) rfl (HE.pair HE.rd (HE.pair HE.rd HE.unit)) (fun a=>⟨a.1,a.2.1⟩) (fun _=>rfl) (fun _ h=>h)
end Go.Proofs.YtpkkaboonnedfaaDoor
