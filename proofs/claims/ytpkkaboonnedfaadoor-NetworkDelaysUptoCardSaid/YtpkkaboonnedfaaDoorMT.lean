/- Part MT of the proof: texts Nt Nd No. -/
import Derived.Test.YtpkkaboonnedfaaDoorMA
import Derived.Test.YtpkkaboonnedfaaDoorMC
namespace Go.Proofs.YtpkkaboonnedfaaDoor
set_option linter.unusedVariables false
set_option linter.unusedSectionVars false
set_option linter.unusedSimpArgs false
def e_i64 (n:Int):List Lf:=[.int .i64 n]
def e_u8 (n:Int):List Lf:=[.int .u8 n]
def e_str (s:ByteArray):List Lf:=[.str s]
structure Qab where
  t:Int
  a:Int
instance:DecidableEq Qab:=fun a b=>decidable_of_iff (a.t=b.t∧a.a=b.a) (by cases a; cases b; simp)
structure Qad where
  from_:Int
  to_:Int
  profile:Int
  miles:Int
  travel:List Qab
  slow:List Qab
instance:DecidableEq Qad:=fun a b=>decidable_of_iff (a.from_=b.from_∧a.to_=b.to_∧a.profile=b.profile∧a.miles=b.miles∧a.travel=b.travel∧a.slow=b.slow) (by cases a; cases b; simp)
structure Qac where
  places:List ByteArray
  arcs:List Qad
instance:DecidableEq Qac:=fun a b=>decidable_of_iff (a.places=b.places∧a.arcs=b.arcs) (by cases a; cases b; simp)
structure Qae where
  from_:Int
  to_:Int
  profile:Int
instance:DecidableEq Qae:=fun a b=>decidable_of_iff (a.from_=b.from_∧a.to_=b.to_∧a.profile=b.profile) (by cases a; cases b; simp)
structure Qi7 where
  x0:Int
  x1:Int
  x2:Int
  x3:Int
  x4:Int
  x5:Int
  x6:Int
  x7:Int
  x8:Int
  x9:Int
  x10:Int
  x11:Int
  x12:Int
  x13:Int
  x14:Int
  x15:Int
  x16:Int
  x17:Int
  x18:Int
  x19:Int
  x20:Int
  x21:Int
  x22:Int
  x23:Int
instance:DecidableEq Qi7:=fun a b=>decidable_of_iff (a.x0=b.x0∧a.x1=b.x1∧a.x2=b.x2∧a.x3=b.x3∧a.x4=b.x4∧a.x5=b.x5∧a.x6=b.x6∧a.x7=b.x7∧a.x8=b.x8∧a.x9=b.x9∧a.x10=b.x10∧a.x11=b.x11∧a.x12=b.x12∧a.x13=b.x13∧a.x14=b.x14∧a.x15=b.x15∧a.x16=b.x16∧a.x17=b.x17∧a.x18=b.x18∧a.x19=b.x19∧a.x20=b.x20∧a.x21=b.x21∧a.x22=b.x22∧a.x23=b.x23) (by cases a; cases b; simp)
structure Qaa where
  err:Int
  at_:ByteArray
instance:DecidableEq Qaa:=fun a b=>decidable_of_iff (a.err=b.err∧a.at_=b.at_) (by cases a; cases b; simp)
def Qab.enc (x:Qab):List Lf:=[lI x.t,lI x.a]
def Qad.enc (x:Qad):List Lf:=[lI x.from_,lI x.to_,lI x.profile,lI x.miles,lL 2 x.travel Qab.enc,lL 2 x.slow Qab.enc]
def Qac.enc (x:Qac):List Lf:=[lL 1 x.places e_str,lL 6 x.arcs Qad.enc]
def Qae.enc (x:Qae):List Lf:=[lI x.from_,lI x.to_,lI x.profile]
def Qi7.enc (x:Qi7):List Lf:=[.int .u8 x.x0,.int .u8 x.x1,.int .u8 x.x2,.int .u8 x.x3,.int .u8 x.x4,.int .u8 x.x5,.int .u8 x.x6,.int .u8 x.x7,.int .u8 x.x8,.int .u8 x.x9,.int .u8 x.x10,.int .u8 x.x11,.int .u8 x.x12,.int .u8 x.x13,.int .u8 x.x14,.int .u8 x.x15,.int .u8 x.x16,.int .u8 x.x17,.int .u8 x.x18,.int .u8 x.x19,.int .u8 x.x20,.int .u8 x.x21,.int .u8 x.x22,.int .u8 x.x23]
def Qaa.enc (x:Qaa):List Lf:=[lI x.err,.str x.at_]
def Qae.keq (a b:Qae):Bool:=eqI a.from_ b.from_&&(eqI a.to_ b.to_&&(eqI a.profile b.profile&&true))
theorem Qae.kq (a b:Qae):kEqs (Qae.enc a) (Qae.enc b)=some (Qae.keq a b):=rfl
def QdZ:ByteArray:=⟨#[48,49,50,51,52,53,54,55,56,57,97,98,99,100,101,102,103,104,105,106,107,108,109,110,111,112,113,114,115,116,117,118,119,120,121,122]⟩
def QdY:ByteArray:=⟨#[48,48,48,49,48,50,48,51,48,52,48,53,48,54,48,55,48,56,48,57,49,48,49,49,49,50,49,51,49,52,49,53,49,54,49,55,49,56,49,57,50,48,50,49,50,50,50,51,50,52,50,53,50,54,50,55,50,56,50,57,51,48,51,49,51,50,51,51,51,52,51,53,51,54,51,55,51,56,51,57,52,48,52,49,52,50,52,51,52,52,52,53,52,54,52,55,52,56,52,57,53,48,53,49,53,50,53,51,53,52,53,53,53,54,53,55,53,56,53,57,54,48,54,49,54,50,54,51,54,52,54,53,54,54,54,55,54,56,54,57,55,48,55,49,55,50,55,51,55,52,55,53,55,54,55,55,55,56,55,57,56,48,56,49,56,50,56,51,56,52,56,53,56,54,56,55,56,56,56,57,57,48,57,49,57,50,57,51,57,52,57,53,57,54,57,55,57,56,57,57]⟩
def Qd0:ByteArray:=⟨#[0,1,2,2,3,3,3,3,4,4,4,4,4,4,4,4,5,5,5,5,5,5,5,5,5,5,5,5,5,5,5,5,6,6,6,6,6,6,6,6,6,6,6,6,6,6,6,6,6,6,6,6,6,6,6,6,6,6,6,6,6,6,6,6,7,7,7,7,7,7,7,7,7,7,7,7,7,7,7,7,7,7,7,7,7,7,7,7,7,7,7,7,7,7,7,7,7,7,7,7,7,7,7,7,7,7,7,7,7,7,7,7,7,7,7,7,7,7,7,7,7,7,7,7,7,7,7,7,8,8,8,8,8,8,8,8,8,8,8,8,8,8,8,8,8,8,8,8,8,8,8,8,8,8,8,8,8,8,8,8,8,8,8,8,8,8,8,8,8,8,8,8,8,8,8,8,8,8,8,8,8,8,8,8,8,8,8,8,8,8,8,8,8,8,8,8,8,8,8,8,8,8,8,8,8,8,8,8,8,8,8,8,8,8,8,8,8,8,8,8,8,8,8,8,8,8,8,8,8,8,8,8,8,8,8,8,8,8,8,8,8,8,8,8,8,8,8,8,8,8,8,8,8,8,8,8]⟩
def QjX:ByteArray:=⟨#[65]⟩
def QjY:ByteArray:=⟨#[66]⟩
def QjZ:ByteArray:=⟨#[67]⟩
def Qbm:ByteArray:=⟨#[112,108,97,99,101,115]⟩
def Qax:ByteArray:=⟨#[112,108,97,99,101,32]⟩
def QbZ:ByteArray:=⟨#[97,114,99,115]⟩
def Qal:ByteArray:=⟨#[97,114,99,32]⟩
def Qhk:ByteArray:=⟨#[45]⟩
end Go.Proofs.YtpkkaboonnedfaaDoor
namespace Go.Proofs.YtpkkaboonnedfaaDoor
set_option linter.unusedVariables false
set_option linter.unusedSectionVars false
set_option linter.unusedSimpArgs false
noncomputable def QaU (n:Qac) (i:Int):Option Bool:=some ((geI i 0)&&(ltI i (lenI n.places)))
noncomputable def Qa9 (t:Int):Option Bool:=some ((geI t 0)&&(leI t 4096))
noncomputable def Qda (l:List Qab) (t:Int) (ticks:Int):Option (List Qab×Int):=chk (okN l.length 16) (br (geI (subK .i64 (lenI l) 1) 0) (bnd (getI l (subK .i64 (lenI l) 1)) fun x0=>br (ltI t x0.t) (some ([],2)) (br (eqI t x0.t) (br (gtI (addK .i64 x0.a ticks) 4096) (some ([],2)) (some ((setI l (subK .i64 (lenI l) 1) (Qab.mk x0.t (addK .i64 x0.a ticks))),0))) (br (geI (lenI l) 16) (some ([],4)) (chk (okN (l++[(Qab.mk t ticks)]).length 16) (some ((l++[(Qab.mk t ticks)]),0)))))) (br (geI (lenI l) 16) (some ([],4)) (chk (okN (l++[(Qab.mk t ticks)]).length 16) (some ((l++[(Qab.mk t ticks)]),0)))))
noncomputable def Qbt (n:Qac) (from_:Int) (to_:Int) (t:Int) (ticks:Int) (l:List Qad) (found:Bool) (v:Int):Option ((List Qad×Bool×Int)⊕((List Qad×Bool)⊕(Qac×Int))):=br (ltI v (lenI n.arcs)) (bnd (getI l v) fun x0=>br ((neI x0.from_ from_)||(neI x0.to_ to_)) (some (.inl (l,found,(addK .i64 v 1)))) (bnd (Qda x0.slow t ticks) fun r4=>br (neI r4.2 0) (some (.inr (.inr ((Qac.mk [] []),r4.2)))) (some (.inl ((setI l v (Qad.mk x0.from_ x0.to_ x0.profile x0.miles x0.travel r4.1)),true,(addK .i64 v 1)))))) (some (.inr (.inl (l,found))))
noncomputable def Qch (n:Qac) (from_:Int) (to_:Int) (t:Int) (ticks:Int):Option (Qac×Int):=bnd (QaU n from_) fun r=>br r (bnd (QaU n to_) fun r1=>br r1 (bnd (Qa9 t) fun r2=>br r2 (bnd (Qa9 ticks) fun r3=>br r3 (chk (okN n.arcs.length 80) (bnd (loopF (fun s=>Qbt n from_ to_ t ticks s.1 s.2.1 s.2.2) (n.arcs,false,0)) (fun e=>sel e (fun e0=>(fun l1 found1=>br found1 (some ((Qac.mk n.places l1),0)) (some ((Qac.mk [] []),12))) e0.1 e0.2) (fun r5=>some r5)))) (some ((Qac.mk [] []),2))) (some ((Qac.mk [] []),2))) (some ((Qac.mk [] []),11))) (some ((Qac.mk [] []),11))
noncomputable def Qbl (a:Qad):Option Qae:=some (Qae.mk a.from_ a.to_ a.profile)
noncomputable def QbX (n:Qac) (profile:Int) (from_:Int) (to_:Int) (v:Int):Option ((Int)⊕((Unit)⊕(Qad×Bool))):=br (ltI v (lenI n.arcs)) (bnd (getI n.arcs v) fun x0=>bnd (Qbl x0) fun r=>br (eqI r.from_ from_&&(eqI r.to_ to_&&(eqI r.profile profile&&true))) (some (.inr (.inr (x0,true)))) (some (.inl (addK .i64 v 1)))) (some (.inr (.inl ())))
noncomputable def QdE (n:Qac) (profile:Int) (from_:Int) (to_:Int):Option (Qad×Bool):=bnd (loopF (fun s=>QbX n profile from_ to_ s) 0) (fun e=>sel e (fun (_:Unit)=>some ((Qad.mk 0 0 0 0 [] []),false)) (fun r1=>some r1))
noncomputable def QbN (n:Int) (least:Int) (most:Int):Option Bool:=some ((geI n least)&&(leI n most))
noncomputable def QeW (i:Int):Option ByteArray:=br (ltI i 10) (bnd (slcS QdZ i (addK .i64 i 1)) fun s0=>some (QdZ.extract (i:Int).toNat ((addK .i64 i 1):Int).toNat)) (bnd (slcS QdY (mulK .i64 i 2) (addK .i64 (mulK .i64 i 2) 2)) fun s1=>some (QdY.extract ((mulK .i64 i 2):Int).toNat ((addK .i64 (mulK .i64 i 2) 2):Int).toNat))
noncomputable def Qge (x0:Int):Option Int:=some (shrK .i64 (mulK .i64 x0 78913) 18)
noncomputable def Qf5 (x2:Int) (n1:Int):Option Int:=br (geI x2 256) (bnd (getS Qd0 (cvK .u8 (shrK .u64 x2 8))) fun b=>some (addK .i64 (addK .i64 n1 8) (cvK .i64 (byteI b)))) (bnd (getS Qd0 (cvK .u8 x2)) fun b1=>some (addK .i64 n1 (cvK .i64 (byteI b1))))
noncomputable def Qf4 (x1:Int) (n:Int):Option Int:=br (geI x1 65536) (Qf5 (shrK .u64 x1 16) (addK .i64 n 16)) (Qf5 x1 n)
noncomputable def Qjb (x0:Int):Option Int:=br (geI x0 4294967296) (Qf4 (shrK .u64 x0 32) 32) (Qf4 x0 0)
noncomputable def Qgf (d:Int):Option Int:=bnd (Qjb d) fun r=>bnd (Qge r) fun r1=>none
noncomputable def QbQ (i:Int) (u:Int):Option ByteArray:=bnd (Qgf u) fun r1=>none
noncomputable def Qdh (i:Int) (base:Int):Option ByteArray:=br (eqI base 10) (br ((leI 0 i)&&(ltI i 100)) (bnd (QeW i) fun r=>some r) (br (ltI i 0) (QbQ i (subK .u64 0 (cvK .u64 i))) (QbQ i (cvK .u64 i)))) (none)
noncomputable def Qfo (i:Int):Option ByteArray:=bnd (Qdh i 10) fun r=>some r
noncomputable def QbR (i:Int):Option ByteArray:=bnd (Qfo i) fun r=>some r
noncomputable def Qcq (l:List Qab) (v:Int) (x0:Qab) (r:ByteArray) (l3:List Qaa):Option ((List Qaa×Int)⊕(List Qaa)):=br (gtI v 0) (bnd (getI l (subK .i64 v 1)) fun x1=>br (leI x0.t x1.t) (chk (okN (l3++[(Qaa.mk 13 r)]).length 24) (some (.inl ((l3++[(Qaa.mk 13 r)]),(addK .i64 v 1))))) (br (ltI x0.a x1.a) (chk (okN (l3++[(Qaa.mk 13 r)]).length 24) (some (.inl ((l3++[(Qaa.mk 13 r)]),(addK .i64 v 1))))) (some (.inl (l3,(addK .i64 v 1)))))) (some (.inl (l3,(addK .i64 v 1))))
noncomputable def Qbd (l:List Qab) (l2:List Qaa) (v:Int):Option ((List Qaa×Int)⊕(List Qaa)):=br (ltI v (lenI l)) (bnd (getI l v) fun x0=>bnd (QbR v) fun r=>bnd (QbN x0.t 0 4096) fun r1=>br (((!r1)||(ltI x0.a x0.t))||(gtI x0.a (addK .i64 x0.t 4096))) (chk (okN (l2++[(Qaa.mk 2 r)]).length 24) (Qcq l v x0 r (l2++[(Qaa.mk 2 r)]))) (Qcq l v x0 r l2)) (some (.inr l2))
noncomputable def Qcp (l:List Qab) (l1:List Qaa):Option (List Qaa):=bnd (loopF (fun s=>Qbd l s.1 s.2) (l1,0)) (fun l4=>some l4)
noncomputable def Qct (l:List Qab):Option (List Qaa):=br ((eqI (lenI l) 0)||(gtI (lenI l) 16)) (chk (okN [(Qaa.mk 4 ByteArray.empty)].length 24) (Qcp l [(Qaa.mk 4 ByteArray.empty)])) (Qcp l [])
noncomputable def QdL (l:List Qab):Option Bool:=bnd (Qct l) fun r=>some (eqI (lenI r) 0)
noncomputable def QbB (p:Qab) (t:Int):Option Int:=some (subK .i64 p.t t)
noncomputable def Qai (x0:List Qab) (target:Int) (i:Int) (j:Int):Option ((Int×Int)⊕(Int)):=br (ltI i j) (bnd (getI x0 (cvK .i64 (shrK .u64 (cvK .u64 (addK .i64 i j)) 1))) fun x1=>bnd (QbB x1 target) fun r=>br (ltI r 0) (some (.inl ((addK .i64 (cvK .i64 (shrK .u64 (cvK .u64 (addK .i64 i j)) 1)) 1),j))) (some (.inl (i,(cvK .i64 (shrK .u64 (cvK .u64 (addK .i64 i j)) 1)))))) (some (.inr i))
noncomputable def Qap (x0:List Qab) (target:Int):Option (Int×Bool):=bnd (loopF (fun s=>Qai x0 target s.1 s.2) (0,(lenI x0))) (fun i1=>br (ltI i1 (lenI x0)) (bnd (getI x0 i1) fun x2=>bnd (QbB x2 target) fun r1=>some (i1,(eqI r1 0))) (some (i1,false)))
noncomputable def Qdd (l:List Qab) (t:Int):Option Int:=bnd (Qap l t) fun r=>br r.2 (bnd (getI l r.1) fun x0=>some x0.a) (br (eqI r.1 0) (bnd (getI l 0) fun x1=>some (subK .i64 (addK .i64 t x1.a) x1.t)) (br (eqI r.1 (lenI l)) (bnd (getI l (subK .i64 r.1 1)) fun x2=>some (subK .i64 (addK .i64 t x2.a) x2.t)) (bnd (getI l (subK .i64 r.1 1)) fun x3=>bnd (getI l r.1) fun x4=>chk (((subK .i64 x4.t x3.t):Int)≠0) (some (addK .i64 x3.a (quoK .i64 (subK .i64 (addK .i64 (mulK .i64 (subK .i64 t x3.t) (subK .i64 x4.a x3.a)) (subK .i64 x4.t x3.t)) 1) (subK .i64 x4.t x3.t)))))))
noncomputable def Qdc (l:List Qab) (t:Int):Option Int:=bnd (QbN t 0 1073741824) fun r=>br r (bnd (QdL l) fun r1=>br r1 (bnd (Qdd l t) fun r2=>some r2) (some 0)) (some 0)
noncomputable def Qci (a:Qad) (t:Int) (out:Int) (v:Int):Option ((Int×Int)⊕(Int)):=br (ltI v (lenI a.slow)) (bnd (getI a.slow v) fun x0=>br (leI x0.t t) (some (.inl ((addK .i64 out x0.a),(addK .i64 v 1)))) (some (.inl (out,(addK .i64 v 1))))) (some (.inr out))
noncomputable def QbY (a:Qad) (t:Int):Option Int:=bnd (Qdc a.travel t) fun r=>bnd (loopF (fun s=>Qci a t s.1 s.2) (r,0)) (fun out1=>some out1)
noncomputable def QbJ (n:Qac) (profile:Int) (from_:Int) (to_:Int) (t:Int):Option (Int×Int×Int):=bnd (QaU n from_) fun r=>br r (bnd (QaU n to_) fun r1=>br r1 (br (eqI from_ to_) (some (t,0,0)) (bnd (QdE n profile from_ to_) fun r2=>br r2.2 (bnd (QbY r2.1 t) fun r3=>some (r3,r2.1.miles,0)) (some (0,0,12)))) (some (0,0,11))) (some (0,0,11))
noncomputable def Qdf:Option Qac:=some (Qac.mk [QjX,QjY,QjZ] [(Qad.mk 0 1 0 0 [(Qab.mk 0 10)] []),(Qad.mk 1 2 0 0 [(Qab.mk 0 5)] []),(Qad.mk 0 2 0 9 [(Qab.mk 0 20)] [])])
noncomputable def Qcf (a:List Int) (b:List Int) (v:Int):Option ((Int)⊕((Unit)⊕(Bool))):=br (ltI v (lenI a)) (bnd (getI a v) fun x0=>bnd (getI b v) fun x1=>br (neI x0 x1) (some (.inr (.inr false))) (some (.inl (addK .i64 v 1)))) (some (.inr (.inl ())))
noncomputable def QbV (a:List Int) (b:List Int):Option Bool:=br (neI (lenI a) (lenI b)) (some false) (bnd (loopF (fun s=>Qcf a b s) 0) (fun e=>sel e (fun (_:Unit)=>some true) (fun r=>some r)))
noncomputable def Qb3 (n:Qac) (profile:Int) (from_:Int) (t:Int) (l:List Int) (l1:List Int) (v:Int):Option ((List Int×Int)⊕(List Int)):=br (ltI v (lenI l)) (bnd (getI l1 v) fun x0=>some (.inl ((setI l1 v (-1)),(addK .i64 v 1)))) (some (.inr l1))
noncomputable def Qb4 (n:Qac) (profile:Int) (from_:Int) (l:List Int) (l4:List Int) (better1:Bool) (v1:Int):Option ((List Int×Bool×Int)⊕(List Int×Bool)):=br (ltI v1 (lenI n.arcs)) (bnd (getI n.arcs v1) fun x2=>br (neI x2.profile profile) (some (.inl (l4,better1,(addK .i64 v1 1)))) (bnd (QaU n x2.from_) fun r1=>br r1 (bnd (QaU n x2.to_) fun r2=>br r2 (bnd (getI l4 x2.from_) fun x3=>br (ltI x3 0) (some (.inl (l4,better1,(addK .i64 v1 1)))) (bnd (QbY x2 x3) fun r3=>bnd (getI l4 x2.to_) fun x4=>br (ltI x4 0) (some (.inl ((setI l4 x2.to_ r3),true,(addK .i64 v1 1)))) (br (ltI r3 x4) (some (.inl ((setI l4 x2.to_ r3),true,(addK .i64 v1 1)))) (some (.inl (l4,better1,(addK .i64 v1 1))))))) (some (.inl (l4,better1,(addK .i64 v1 1))))) (some (.inl (l4,better1,(addK .i64 v1 1)))))) (some (.inr (l4,better1)))
noncomputable def Qbx (n:Qac) (profile:Int) (from_:Int) (l:List Int) (l3:List Int) (better:Bool):Option ((List Int×Bool)⊕(List Int)):=br better (bnd (loopF (fun s=>Qb4 n profile from_ l s.1 s.2.1 s.2.2) (l3,false,0)) (fun e0=>(fun l5 better2=>some (.inl (l5,better2))) e0.1 e0.2)) (some (.inr l3))
noncomputable def QbI (n:Qac) (profile:Int) (from_:Int) (t:Int):Option (List Int):=bnd (mkI (lenI n.places) (lenI n.places) 8 0) fun l=>bnd (loopF (fun s=>Qb3 n profile from_ t l s.1 s.2) (l,0)) (fun l2=>bnd (QaU n from_) fun r=>br r (bnd (getI l2 from_) fun x1=>bnd (loopF (fun s=>Qbx n profile from_ l s.1 s.2) ((setI l2 from_ t),true)) (fun l6=>some l6)) (some l2))
noncomputable def Qa1:Option Bool:=bnd (Qdf) fun r=>bnd (QbJ r 0 0 2 3) fun r1=>bnd (Qch r 1 2 13 4) fun r2=>bnd (QbJ r 0 2 0 3) fun r3=>bnd (QbJ r 0 0 3 3) fun r4=>br ((((((eqI r1.2.2 0)&&(eqI r1.1 23))&&(eqI r1.2.1 9))&&(eqI r2.2 0))&&(eqI r3.2.2 12))&&(eqI r4.2.2 11)) (bnd (QbI r 0 0 3) fun r5=>bnd (QbV r5 [3,13,18]) fun r6=>br r6 (bnd (QbI r2.1 0 0 3) fun r7=>bnd (QbV r7 [3,13,22]) fun r8=>br r8 (bnd (QbI r2.1 0 0 2) fun r9=>bnd (QbV r9 [2,12,17]) fun r10=>br r10 (bnd (QbI r2.1 0 0 90) fun r11=>bnd (QbV r11 [90,100,109]) fun r12=>some r12) (some false)) (some false)) (some false)) (some false)
noncomputable def QdK (n:Int):Option ByteArray:=bnd (QbR n) fun r=>some r
noncomputable def QfK (c:Int):Option Bool:=some ((geI c 48)&&(leI c 57))
noncomputable def Qf0 (c:Int):Option Bool:=some ((((geI c 97)&&(leI c 122))||((geI c 65)&&(leI c 90)))||(eqI c 95))
noncomputable def Qep (s0:ByteArray) (b:UInt8) (v:Int):Option ((Int)⊕((Unit)⊕(Bool))):=br (ltI v (sizeS s0)) (bnd (getS s0 v) fun b1=>bnd (Qf0 (byteI b1)) fun r1=>br r1 (some (.inl (addK .i64 v 1))) (bnd (QfK (byteI b1)) fun r2=>br r2 (some (.inl (addK .i64 v 1))) (some (.inr (.inr false))))) (some (.inr (.inl ())))
noncomputable def QfI (s0:ByteArray):Option Bool:=br ((eqS s0 ByteArray.empty)||(gtI (sizeS s0) 16)) (some false) (bnd (getS s0 0) fun b=>bnd (QfK (byteI b)) fun r=>br r (some false) (bnd (loopF (fun s=>Qep s0 b s) 0) (fun e=>sel e (fun (_:Unit)=>some true) (fun r3=>some r3))))
noncomputable def Qbc (l:List Qab) (l2:List Int) (v:Int):Option ((List Int×Int)⊕(List Int)):=br (ltI v (lenI l)) (bnd (getI l v) fun x0=>bnd (Qa9 x0.t) fun r=>br r (br (gtI v 0) (bnd (getI l (subK .i64 v 1)) fun x1=>br (leI x0.t x1.t) (chk (okN (l2++[2]).length 8) (some (.inl ((l2++[2]),(addK .i64 v 1))))) (bnd (Qa9 x0.a) fun r1=>br r1 (some (.inl (l2,(addK .i64 v 1)))) (chk (okN (l2++[2]).length 8) (some (.inl ((l2++[2]),(addK .i64 v 1))))))) (bnd (Qa9 x0.a) fun r2=>br r2 (some (.inl (l2,(addK .i64 v 1)))) (chk (okN (l2++[2]).length 8) (some (.inl ((l2++[2]),(addK .i64 v 1))))))) (chk (okN (l2++[2]).length 8) (some (.inl ((l2++[2]),(addK .i64 v 1)))))) (some (.inr l2))
noncomputable def Qcn (l:List Qab) (l1:List Int):Option (List Int):=bnd (loopF (fun s=>Qbc l s.1 s.2) (l1,0)) (fun l3=>some l3)
noncomputable def Qcc (l:List Qab):Option (List Int):=br (gtI (lenI l) 16) (chk (okN [4].length 8) (Qcn l [4])) (Qcn l [])
noncomputable def QcN (a:Qad) (known:List (Qae×Bool)) (l:List Int) (r3:List Qaa) (l3:List Int) (v:Int):Option ((List Int×Int)⊕(List Int)):=br (ltI v (lenI r3)) (bnd (getI r3 v) fun x0=>chk (okN (l3++[x0.err]).length 8) (some (.inl ((l3++[x0.err]),(addK .i64 v 1))))) (some (.inr l3))
noncomputable def QcM (a:Qad) (known:List (Qae×Bool)) (l:List Int) (l2:List Int):Option (List Int):=bnd (Qct a.travel) fun r3=>bnd (loopF (fun s=>QcN a known l r3 s.1 s.2) (l2,0)) (fun l4=>bnd (Qcc a.slow) fun r4=>chk (okN (l4++r4).length 8) (some (l4++r4)))
noncomputable def QcL (a:Qad) (known:List (Qae×Bool)) (l:List Int) (l1:List Int):Option (List Int):=bnd (Qbl a) fun r2=>br (mGet Qae.keq known r2 false) (chk (okN (l1++[6]).length 8) (QcM a known l (l1++[6]))) (QcM a known l l1)
noncomputable def QcK (a:Qad) (known:List (Qae×Bool)) (l:List Int):Option (List Int):=br (((((ltI a.profile 0)||(gtI a.profile 7))||(ltI a.miles 0))||(gtI a.miles 10000))||(eqI a.from_ a.to_)) (chk (okN (l++[2]).length 8) (QcL a known l (l++[2]))) (QcL a known l l)
noncomputable def Qdu (a:Qad) (known:List (Qae×Bool)) (r6:List Qaa) (l7:List Int) (v1:Int):Option ((List Int×Int)⊕(List Int)):=br (ltI v1 (lenI r6)) (bnd (getI r6 v1) fun x1=>chk (okN (l7++[x1.err]).length 8) (some (.inl ((l7++[x1.err]),(addK .i64 v1 1))))) (some (.inr l7))
noncomputable def Qdt (a:Qad) (known:List (Qae×Bool)) (l6:List Int):Option (List Int):=bnd (Qct a.travel) fun r6=>bnd (loopF (fun s=>Qdu a known r6 s.1 s.2) (l6,0)) (fun l8=>bnd (Qcc a.slow) fun r7=>chk (okN (l8++r7).length 8) (some (l8++r7)))
noncomputable def Qds (a:Qad) (known:List (Qae×Bool)) (l5:List Int):Option (List Int):=bnd (Qbl a) fun r5=>br (mGet Qae.keq known r5 false) (chk (okN (l5++[6]).length 8) (Qdt a known (l5++[6]))) (Qdt a known l5)
noncomputable def Qee (n:Qac) (a:Qad) (known:List (Qae×Bool)):Option (List Int):=bnd (QaU n a.from_) fun r=>br r (bnd (QaU n a.to_) fun r1=>br r1 (QcK a known []) (chk (okN [11].length 8) (QcK a known [11]))) (chk (okN [11].length 8) (br (((((ltI a.profile 0)||(gtI a.profile 7))||(ltI a.miles 0))||(gtI a.miles 10000))||(eqI a.from_ a.to_)) (chk (okN ([11]++[2]:List Int).length 8) (Qds a known ([11]++[2]))) (Qds a known [11])))
noncomputable def QbH (n:Qac) (l:List Qaa) (l2:List (ByteArray×Bool)) (v:Int) (x0:ByteArray) (l3:List Qaa):Option ((List Qaa×List (ByteArray×Bool)×Int)⊕(List Qaa)):=some (.inl (l3,(mPut eqY l2 x0 true),(addK .i64 v 1)))
noncomputable def Qa3 (n:Qac) (l:List Qaa) (l1:List Qaa) (l2:List (ByteArray×Bool)) (v:Int):Option ((List Qaa×List (ByteArray×Bool)×Int)⊕(List Qaa)):=br (ltI v (lenI n.places)) (bnd (getI n.places v) fun x0=>bnd (QdK v) fun r=>chk (Qax.size+r.size≤9223372036854775807) (bnd (QfI x0) fun r1=>br r1 (br (mGet eqY l2 x0 false) (chk (okN (l1++[(Qaa.mk 6 (catS Qax r))]).length 24) (QbH n l l2 v x0 (l1++[(Qaa.mk 6 (catS Qax r))]))) (QbH n l l2 v x0 l1)) (chk (okN (l1++[(Qaa.mk 5 (catS Qax r))]).length 24) (QbH n l l2 v x0 (l1++[(Qaa.mk 5 (catS Qax r))]))))) (some (.inr l1))
noncomputable def Qcb (n:Qac) (l:List Qaa) (l7:List (Qae×Bool)) (v1:Int) (x1:Qad) (r2:List Int) (l8:List Qaa) (v2:Int):Option ((List Qaa×Int)⊕(List Qaa)):=br (ltI v2 (lenI r2)) (bnd (getI r2 v2) fun x2=>bnd (QdK v1) fun r3=>chk (Qal.size+r3.size≤9223372036854775807) (chk (okN (l8++[(Qaa.mk x2 (catS Qal r3))]).length 24) (some (.inl ((l8++[(Qaa.mk x2 (catS Qal r3))]),(addK .i64 v2 1)))))) (some (.inr l8))
noncomputable def Qa4 (n:Qac) (l:List Qaa) (l6:List Qaa) (l7:List (Qae×Bool)) (v1:Int):Option ((List Qaa×List (Qae×Bool)×Int)⊕(List Qaa)):=br (ltI v1 (lenI n.arcs)) (bnd (getI n.arcs v1) fun x1=>bnd (Qee n x1 l7) fun r2=>bnd (loopF (fun s=>Qcb n l l7 v1 x1 r2 s.1 s.2) (l6,0)) (fun l9=>bnd (Qbl x1) fun r4=>some (.inl (l9,(mPut Qae.keq l7 r4 true),(addK .i64 v1 1))))) (some (.inr l6))
noncomputable def Qbq (n:Qac) (l:List Qaa) (l5:List Qaa):Option (List Qaa):=bnd (loopF (fun s=>Qa4 n l s.1 s.2.1 s.2.2) (l5,[],0)) (fun l10=>some l10)
noncomputable def Qca (n:Qac) (l:List Qaa):Option (List Qaa):=bnd (loopF (fun s=>Qa3 n l s.1 s.2.1 s.2.2) (l,[],0)) (fun l4=>br (gtI (lenI n.arcs) 1024) (chk (okN (l4++[(Qaa.mk 4 QbZ)]).length 24) (Qbq n l (l4++[(Qaa.mk 4 QbZ)]))) (Qbq n l l4))
noncomputable def QcC (n:Qac):Option (List Qaa):=br (gtI (lenI n.places) 24) (chk (okN [(Qaa.mk 4 Qbm)].length 24) (Qca n [(Qaa.mk 4 Qbm)])) (Qca n [])
noncomputable def Qa6 (n:Int) (s0:ByteArray) (left:Int) (d:Int):Option ((ByteArray×Int×Bool)⊕(ByteArray)):=chk ((Qg7 [(cvK .u8 (addK .i64 48 d))]).size+s0.size≤9223372036854775807) (some (.inl ((catS (Qg7 [(cvK .u8 (addK .i64 48 d))]) s0),(quoK .i64 left 10),(neI (quoK .i64 left 10) 0))))
noncomputable def QbC (n:Int) (s0:ByteArray) (left:Int) (again:Bool):Option ((ByteArray×Int×Bool)⊕(ByteArray)):=br again (br (ltI (remK left 10) 0) (Qa6 n s0 left (subK .i64 0 (remK left 10))) (Qa6 n s0 left (remK left 10))) (some (.inr s0))
noncomputable def QaW (n:Int):Option ByteArray:=bnd (loopF (fun s=>QbC n s.1 s.2.1 s.2.2) (ByteArray.empty,n,true)) (fun s1=>br (ltI n 0) (chk (Qhk.size+s1.size≤9223372036854775807) (some (catS Qhk s1))) (some s1))
noncomputable def QcE (c:Int):Option Bool:=some ((geI c 48)&&(leI c 57))
noncomputable def Qdg (c:Int):Option Bool:=some ((((geI c 97)&&(leI c 122))||((geI c 65)&&(leI c 90)))||(eqI c 95))
noncomputable def Qbn (s0:ByteArray) (b:UInt8) (i:Int):Option ((Int)⊕((Unit)⊕(Bool))):=br (ltI i (sizeS s0)) (bnd (getS s0 i) fun b1=>bnd (Qdg (byteI b1)) fun r1=>br r1 (some (.inl (addK .i64 i 1))) (bnd (QcE (byteI b1)) fun r2=>br r2 (some (.inl (addK .i64 i 1))) (some (.inr (.inr false))))) (some (.inr (.inl ())))
noncomputable def Qba (s0:ByteArray):Option Bool:=br ((ltI (sizeS s0) 1)||(gtI (sizeS s0) 16)) (some false) (bnd (getS s0 0) fun b=>bnd (QcE (byteI b)) fun r=>br r (some false) (bnd (loopF (fun s=>Qbn s0 b s) 0) (fun e=>sel e (fun (_:Unit)=>some true) (fun r3=>some r3))))
noncomputable def Qbf (l:List Qab) (i:Int) (x0:Qab) (l3:List Qaa):Option ((List Qaa×Int)⊕(List Qaa)):=br (gtI i 0) (bnd (getI l (subK .i64 i 1)) fun x1=>br (leI x0.t x1.t) (bnd (QaW i) fun r1=>chk (okN (l3++[(Qaa.mk 13 r1)]).length 24) (some (.inl ((l3++[(Qaa.mk 13 r1)]),(addK .i64 i 1))))) (br (ltI x0.a x1.a) (bnd (QaW i) fun r2=>chk (okN (l3++[(Qaa.mk 13 r2)]).length 24) (some (.inl ((l3++[(Qaa.mk 13 r2)]),(addK .i64 i 1))))) (some (.inl (l3,(addK .i64 i 1)))))) (some (.inl (l3,(addK .i64 i 1))))
noncomputable def Qa2 (l:List Qab) (l2:List Qaa) (i:Int):Option ((List Qaa×Int)⊕(List Qaa)):=br (ltI i (lenI l)) (bnd (getI l i) fun x0=>br ((((ltI x0.t 0)||(gtI x0.t 4096))||(ltI x0.a x0.t))||(gtI x0.a (addK .i64 x0.t 4096))) (bnd (QaW i) fun r=>chk (okN (l2++[(Qaa.mk 2 r)]).length 24) (Qbf l i x0 (l2++[(Qaa.mk 2 r)]))) (Qbf l i x0 l2)) (some (.inr l2))
noncomputable def Qbv (l:List Qab) (l1:List Qaa):Option (List Qaa):=bnd (loopF (fun s=>Qa2 l s.1 s.2) (l1,0)) (fun l4=>some l4)
noncomputable def Qb8 (l:List Qab):Option (List Qaa):=br ((ltI (lenI l) 1)||(gtI (lenI l) 16)) (chk (okN [(Qaa.mk 4 ByteArray.empty)].length 24) (Qbv l [(Qaa.mk 4 ByteArray.empty)])) (Qbv l [])
noncomputable def QbW (t:Int):Option Bool:=some ((geI t 0)&&(leI t 4096))
noncomputable def QaI (n:Qac) (i:Int) (r:ByteArray) (x0:Qad) (l:List Qaa) (l1:List Qaa) (twice:Bool) (k:Int):Option ((Bool×Int)⊕(Bool)):=br (ltI k i) (bnd (getI n.arcs k) fun x1=>some (.inl ((twice||(((eqI x0.from_ x1.from_)&&(eqI x0.to_ x1.to_))&&(eqI x0.profile x1.profile))),(addK .i64 k 1)))) (some (.inr twice))
noncomputable def QaJ (r:ByteArray) (x0:Qad) (l:List Qaa) (r1:List Qaa) (l3:List Qaa) (k1:Int):Option ((List Qaa×Int)⊕(List Qaa)):=br (ltI k1 (lenI r1)) (bnd (getI r1 k1) fun x2=>chk (okN (l3++[(Qaa.mk x2.err (catS Qal r))]).length 24) (some (.inl ((l3++[(Qaa.mk x2.err (catS Qal r))]),(addK .i64 k1 1))))) (some (.inr l3))
noncomputable def QaK (r:ByteArray) (x0:Qad) (l:List Qaa) (l6:List Qaa) (k2:Int):Option ((List Qaa×Int)⊕(List Qaa)):=br (ltI k2 (lenI x0.slow)) (bnd (getI x0.slow k2) fun x3=>bnd (QbW x3.t) fun r2=>br r2 (bnd (QbW x3.a) fun r3=>br r3 (br (gtI k2 0) (bnd (getI x0.slow (subK .i64 k2 1)) fun x4=>br (leI x3.t x4.t) (chk (okN (l6++[(Qaa.mk 2 (catS Qal r))]).length 24) (some (.inl ((l6++[(Qaa.mk 2 (catS Qal r))]),(addK .i64 k2 1))))) (some (.inl (l6,(addK .i64 k2 1))))) (some (.inl (l6,(addK .i64 k2 1))))) (chk (okN (l6++[(Qaa.mk 2 (catS Qal r))]).length 24) (some (.inl ((l6++[(Qaa.mk 2 (catS Qal r))]),(addK .i64 k2 1)))))) (chk (okN (l6++[(Qaa.mk 2 (catS Qal r))]).length 24) (some (.inl ((l6++[(Qaa.mk 2 (catS Qal r))]),(addK .i64 k2 1)))))) (some (.inr l6))
noncomputable def QaA (r:ByteArray) (x0:Qad) (l:List Qaa) (l5:List Qaa):Option (List Qaa):=bnd (loopF (fun s=>QaK r x0 l s.1 s.2) (l5,0)) (fun l7=>some l7)
noncomputable def QaH (r:ByteArray) (x0:Qad) (l:List Qaa) (l2:List Qaa):Option (List Qaa):=bnd (Qb8 x0.travel) fun r1=>bnd (loopF (fun s=>QaJ r x0 l r1 s.1 s.2) (l2,0)) (fun l4=>br (gtI (lenI x0.slow) 16) (chk (okN (l4++[(Qaa.mk 4 (catS Qal r))]).length 24) (QaA r x0 l (l4++[(Qaa.mk 4 (catS Qal r))]))) (QaA r x0 l l4))
noncomputable def QaY (n:Qac) (i:Int) (r:ByteArray) (x0:Qad) (l:List Qaa) (l1:List Qaa):Option (List Qaa):=bnd (loopF (fun s=>QaI n i r x0 l l1 s.1 s.2) (false,0)) (fun twice1=>br twice1 (chk (okN (l1++[(Qaa.mk 6 (catS Qal r))]).length 24) (QaH r x0 l (l1++[(Qaa.mk 6 (catS Qal r))]))) (QaH r x0 l l1))
noncomputable def QaX (n:Qac) (i:Int) (r:ByteArray) (x0:Qad) (l:List Qaa):Option (List Qaa):=br (((((ltI x0.profile 0)||(gtI x0.profile 7))||(ltI x0.miles 0))||(gtI x0.miles 10000))||(eqI x0.from_ x0.to_)) (chk (okN (l++[(Qaa.mk 2 (catS Qal r))]).length 24) (QaY n i r x0 l (l++[(Qaa.mk 2 (catS Qal r))]))) (QaY n i r x0 l l)
noncomputable def Qbw (n:Qac) (i:Int):Option (List Qaa):=bnd (QaW i) fun r=>chk (Qal.size+r.size≤9223372036854775807) (bnd (getI n.arcs i) fun x0=>br ((((ltI x0.from_ 0)||(geI x0.from_ (lenI n.places)))||(ltI x0.to_ 0))||(geI x0.to_ (lenI n.places))) (chk (okN [(Qaa.mk 11 (catS Qal r))].length 24) (QaX n i r x0 [(Qaa.mk 11 (catS Qal r))])) (QaX n i r x0 []))
noncomputable def Qan (n:Qac) (l:List Qaa) (l1:List Qaa) (i:Int) (r:ByteArray) (twice:Bool) (k:Int):Option ((Bool×Int)⊕(Bool)):=br (ltI k i) (br twice (some (.inl (true,(addK .i64 k 1)))) (bnd (getI n.places k) fun x1=>bnd (getI n.places i) fun x2=>some (.inl ((eqS x1 x2),(addK .i64 k 1))))) (some (.inr twice))
noncomputable def Qam (n:Qac) (l:List Qaa) (l1:List Qaa) (i:Int):Option ((List Qaa×Int)⊕(List Qaa)):=br (ltI i (lenI n.places)) (bnd (QaW i) fun r=>chk (Qax.size+r.size≤9223372036854775807) (bnd (getI n.places i) fun x0=>bnd (Qba x0) fun r1=>br r1 (bnd (loopF (fun s=>Qan n l l1 i r s.1 s.2) (false,0)) (fun twice1=>br twice1 (chk (okN (l1++[(Qaa.mk 6 (catS Qax r))]).length 24) (some (.inl ((l1++[(Qaa.mk 6 (catS Qax r))]),(addK .i64 i 1))))) (some (.inl (l1,(addK .i64 i 1)))))) (chk (okN (l1++[(Qaa.mk 5 (catS Qax r))]).length 24) (some (.inl ((l1++[(Qaa.mk 5 (catS Qax r))]),(addK .i64 i 1))))))) (some (.inr l1))
noncomputable def QaE (n:Qac) (l:List Qaa):Option (List Qaa):=bnd (loopF (fun s=>Qam n l s.1 s.2) (l,0)) (fun l2=>some l2)
noncomputable def QaC (n:Qac):Option (List Qaa):=br (gtI (lenI n.places) 24) (chk (okN [(Qaa.mk 4 Qbm)].length 24) (QaE n [(Qaa.mk 4 Qbm)])) (QaE n [])
noncomputable def Qav (n:Qac) (l:List Qaa) (l1:List Qaa) (i:Int):Option ((List Qaa×Int)⊕(List Qaa)):=br (ltI i (lenI n.arcs)) (bnd (Qbw n i) fun r1=>chk (okN (l1++r1).length 24) (some (.inl ((l1++r1),(addK .i64 i 1))))) (some (.inr l1))
noncomputable def Qbg (n:Qac) (l:List Qaa):Option (List Qaa):=bnd (loopF (fun s=>Qav n l s.1 s.2) (l,0)) (fun l2=>some l2)
noncomputable def Qbe (n:Qac):Option (List Qaa):=bnd (QaC n) fun r=>br (gtI (lenI n.arcs) 1024) (chk (okN (r++[(Qaa.mk 4 QbZ)]).length 24) (Qbg n (r++[(Qaa.mk 4 QbZ)]))) (Qbg n r)
noncomputable def Qb7 (n:Qac):Option Bool:=br (leI (lenI n.arcs) 60) (bnd (Qbe n) fun r=>some (eqI (lenI r) 0)) (some false)
noncomputable def Qau (a:List Qab) (b:List Qab) (i:Int):Option ((Int)⊕((Unit)⊕(Bool))):=br (ltI i (lenI a)) (bnd (getI a i) fun x0=>bnd (getI b i) fun x1=>br (eqI x0.t x1.t&&(eqI x0.a x1.a&&true)) (some (.inl (addK .i64 i 1))) (some (.inr (.inr false)))) (some (.inr (.inl ())))
noncomputable def Qa7 (a:List Qab) (b:List Qab):Option Bool:=br (neI (lenI a) (lenI b)) (some false) (bnd (loopF (fun s=>Qau a b s) 0) (fun e=>sel e (fun (_:Unit)=>some true) (fun r=>some r)))
noncomputable def QbD (a:Qad) (b:Qad):Option Bool:=br ((((eqI a.from_ b.from_)&&(eqI a.to_ b.to_))&&(eqI a.profile b.profile))&&(eqI a.miles b.miles)) (bnd (Qa7 a.travel b.travel) fun r=>br r (bnd (Qa7 a.slow b.slow) fun r1=>some r1) (some false)) (some false)
noncomputable def QaQ (n:Qac) (from_:Int) (to_:Int) (t:Int) (ticks:Int) (other:Int) (r2:Qac×Int) (v:Int) (r7:Int×Int×Int) (r8:Int×Int×Int) (y:Int):Option ((Int)⊕((Unit)⊕(Bool))):=br (((neI r7.2.2 0)||(neI r8.2.2 0))||(neI r7.1 y)) (some (.inr (.inr false))) (some (.inl (addK .i64 v 1)))
noncomputable def Qaq (n:Qac) (from_:Int) (to_:Int) (t:Int) (ticks:Int) (other:Int) (r2:Qac×Int) (v:Int):Option ((Int)⊕((Unit)⊕(Bool))):=br (ltI v (lenI n.arcs)) (bnd (getI n.arcs v) fun x0=>br ((neI x0.from_ from_)||(neI x0.to_ to_)) (bnd (getI r2.1.arcs v) fun x1=>bnd (QbD x0 x1) fun r4=>br r4 (some (.inl (addK .i64 v 1))) (some (.inr (.inr false)))) (bnd (QbJ n x0.profile from_ to_ t) fun r5=>bnd (QbJ r2.1 x0.profile from_ to_ t) fun r6=>br (((neI r5.2.2 0)||(neI r6.2.2 0))||(neI (subK .i64 r6.1 ticks) r5.1)) (some (.inr (.inr false))) (bnd (QbJ n x0.profile from_ to_ (cvK .i64 other)) fun r7=>bnd (QbJ r2.1 x0.profile from_ to_ (cvK .i64 other)) fun r8=>br (geI (cvK .i64 other) t) (QaQ n from_ to_ t ticks other r2 v r7 r8 (subK .i64 r8.1 ticks)) (QaQ n from_ to_ t ticks other r2 v r7 r8 r8.1)))) (some (.inr (.inl ())))
noncomputable def Qbi (n:Qac) (from_:Int) (to_:Int) (t:Int) (ticks:Int) (other:Int):Option Bool:=bnd (Qb7 n) fun r=>br (((((!r)||(ltI from_ 0))||(geI from_ (lenI n.places)))||(ltI to_ 0))||(geI to_ (lenI n.places))) (bnd (Qa1) fun r1=>some r1) (bnd (Qch n from_ to_ t ticks) fun r2=>br (neI r2.2 0) (br (((((eqI r2.2 12)||(eqI r2.2 2))||(eqI r2.2 4))&&(eqI (lenI r2.1.places) 0))&&(eqI (lenI r2.1.arcs) 0)) (bnd (Qa1) fun r3=>some r3) (some false)) (br ((neI (lenI r2.1.arcs) (lenI n.arcs))||(neI (lenI r2.1.places) (lenI n.places))) (some false) (bnd (loopF (fun s=>Qaq n from_ to_ t ticks other r2 s) 0) (fun e=>sel e (fun (_:Unit)=>bnd (QcC r2.1) fun r9=>br (eqI (lenI r9) 0) (bnd (Qa1) fun r10=>some r10) (some false)) (fun r11=>some r11)))))
end Go.Proofs.YtpkkaboonnedfaaDoor
namespace Go.Proofs.YtpkkaboonnedfaaDoor
set_option linter.unusedVariables false
set_option linter.unusedSectionVars false
set_option linter.unusedSimpArgs false
open Go.RowKit
variable {N : Nat}
theorem oq_9:Opens Tryd.prog N 9 (rdE 1 e_str (fun s:ByteArray=>s.size≤N) (fun _=>rfl)):=QlX Tryd.underlying9 (by kernel_rfl)
theorem oq_22:Opens Tryd.prog N 22 (rdE 1 (fun l:List ByteArray=>[.sl false 1 (l.map e_str)]) (fun l:List (ByteArray)=>l.length≤N∧∀ x∈l,(fun s:ByteArray=>s.size≤N) x) (fun _=>rfl)):=QhZ Tryd.underlying22 (by kernel_rfl) oq_9 (by decide)
theorem oq_3:Opens Tryd.prog N 3 (rdE 1 e_i64 isI (fun _=>rfl)):=QlW Tryd.underlying3 (by kernel_rfl)
def Qab.ok (N:Nat) (x:Qab):Prop:=isI x.t∧isI x.a∧True
theorem oq_66:Opens Tryd.prog N 66 (rdE 2 Qab.enc (Qab.ok N) (fun _=>rfl)):=Qhf Tryd.underlying66 (by kernel_rfl) (.cons rfl oq_3 (.cons rfl oq_3 .nil)) rfl (HE.pair HE.rd (HE.pair HE.rd HE.unit)) (fun a=>⟨a.1,a.2.1⟩) (fun _=>rfl) (fun _ h=>h)
theorem oq_36:Opens Tryd.prog N 36 (rdE 1 (fun l:List Qab=>[.sl false 2 (l.map Qab.enc)]) (fun l:List (Qab)=>l.length≤N∧∀ x∈l,(Qab.ok N) x) (fun _=>rfl)):=QhZ Tryd.underlying36 (by kernel_rfl) oq_66 (by decide)
def Qad.ok (N:Nat) (x:Qad):Prop:=isI x.from_∧isI x.to_∧isI x.profile∧isI x.miles∧(fun l:List (Qab)=>l.length≤N∧∀ x∈l,(Qab.ok N) x) x.travel∧(fun l:List (Qab)=>l.length≤N∧∀ x∈l,(Qab.ok N) x) x.slow∧True
theorem oq_38:Opens Tryd.prog N 38 (rdE 6 Qad.enc (Qad.ok N) (fun _=>rfl)):=Qhf Tryd.underlying38 (by kernel_rfl) (.cons rfl oq_3 (.cons rfl oq_3 (.cons rfl oq_3 (.cons rfl oq_3 (.cons rfl oq_36 (.cons rfl oq_36 .nil)))))) rfl (HE.pair HE.rd (HE.pair HE.rd (HE.pair HE.rd (HE.pair HE.rd (HE.pair HE.rd (HE.pair HE.rd HE.unit)))))) (fun a=>⟨a.1,a.2.1,a.2.2.1,a.2.2.2.1,a.2.2.2.2.1,a.2.2.2.2.2.1⟩) (fun _=>rfl) (fun _ h=>h)
theorem oq_23:Opens Tryd.prog N 23 (rdE 1 (fun l:List Qad=>[.sl false 6 (l.map Qad.enc)]) (fun l:List (Qad)=>l.length≤N∧∀ x∈l,(Qad.ok N) x) (fun _=>rfl)):=QhZ Tryd.underlying23 (by kernel_rfl) oq_38 (by decide)
def Qac.ok (N:Nat) (x:Qac):Prop:=(fun l:List (ByteArray)=>l.length≤N∧∀ x∈l,(fun s:ByteArray=>s.size≤N) x) x.places∧(fun l:List (Qad)=>l.length≤N∧∀ x∈l,(Qad.ok N) x) x.arcs∧True
theorem oq_25:Opens Tryd.prog N 25 (rdE 2 Qac.enc (Qac.ok N) (fun _=>rfl)):=Qhf Tryd.underlying25 (by kernel_rfl) (.cons rfl oq_22 (.cons rfl oq_23 .nil)) rfl (HE.pair HE.rd (HE.pair HE.rd HE.unit)) (fun a=>⟨a.1,a.2.1⟩) (fun _=>rfl) (fun _ h=>h)
end Go.Proofs.YtpkkaboonnedfaaDoor
