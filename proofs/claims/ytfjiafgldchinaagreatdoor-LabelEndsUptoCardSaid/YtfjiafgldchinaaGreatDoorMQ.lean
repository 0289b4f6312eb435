/- Part MQ of the proof: texts Lqm Lqn Lqo LqoT Lqv Lqw Lqx Lqy Lqy2 Lqy3 Lqyl. -/
import Derived.Test.YtfjiafgldchinaaGreatDoorMP
namespace Go.Proofs.YtfjiafgldchinaaGreatDoor
set_option linter.unusedSimpArgs false
set_option linter.unusedVariables false
set_option linter.unusedSectionVars false
section
variable (n : Qal) (t : Qai) (stops : List Qas)
noncomputable def runK:List Bool→Nat→Qa3→Qa3×Int
 | [],_,l=>(l,0)
 | b :: r,k,l=>if (nxt n t stops l k b).2≠0 then (zLab,(nxt n t stops l k b).2) else runK r (k+1) (nxt n t stops l k b).1
def begS (start:Int):Qa3:=Qa3.mk (max t.open_ start) 0 Qzg
noncomputable def runS (start:Int) (rests:List Bool):Qa0×Int :=
 if (runK n t stops rests 0 (begS t start)).2≠0 then (Qzg,(runK n t stops rests 0 (begS t start)).2) else ((runK n t stops rests 0 (begS t start)).1.sheet,0)
end
section
variable {n : Qal} {t : Qai} {stops : List Qas} {l : Qa3} {k : Nat} {b : Bool}
theorem QA2 (h:QuD n t stops) {start:Int} (hs:0≤start∧start≤4096):LabI 0 (begS t start):=by
 have h1:=h.opn; have h2:=h.close
 refine ⟨?_,?_,Int.le_refl _,by show (0:Int)≤4096; omega,Int.le_refl _,Int.le_refl _,rfl⟩
 ·show 0≤max t.open_ start; omega
 ·show max t.open_ start≤8192; omega
end
end Go.Proofs.YtfjiafgldchinaaGreatDoor
namespace Go.Proofs.YtfjiafgldchinaaGreatDoor
set_option linter.unusedSimpArgs false
set_option linter.unusedVariables false
set_option linter.unusedSectionVars false
section
variable (n : Qal) (t : Qai) (stops : List Qas) (start : Int) (rests : List Bool)
noncomputable def labK:Nat→Qa3
 | 0=>begS t start
 | k+1=>(nxt n t stops (labK k) k (rests.getD k false)).1
noncomputable def depK (k:Nat):Int:=depS t (labK n t stops start rests k) (rests.getD k false)
noncomputable def goK (k:Nat):Int×Int×Int:=goN n t.profile (fromP t stops k) (stopK t stops k).place (depK n t stops start rests k)
end
section
variable {n : Qal} {t : Qai} {stops : List Qas} {start : Int} {rests : List Bool}
structure Okay (n:Qal) (t:Qai) (stops:List Qas) (start:Int) (rests:List Bool):Prop where
 trip:QuD n t stops
 st:0≤start∧start≤4096
 len:rests.length=stops.length+1
 all:∀ j,j<rests.length→(nxt n t stops (labK n t stops start rests j) j (rests.getD j false)).2=0
section
variable (h : Okay n t stops start rests)
include h
theorem Okay.lab:∀ k,k≤stops.length→LabI k (labK n t stops start rests k)
 | 0,_=>QA2 h.trip h.st
 | k+1,hk=>QBl h.trip (Okay.lab k (by omega)) (by omega) (h.all k (by rw [h.len]; omega))
theorem Okay.step {k:Nat} (hk:k≤stops.length) :
  (goK n t stops start rests k).2.2=0∧(goK n t stops start rests k).1≤(stopK t stops k).close ∧
  labK n t stops start rests (k+1)=Qa3.mk (max (goK n t stops start rests k).1 (stopK t stops k).open_+(stopK t stops k).service) (sinS (labK n t stops start rests k) (rests.getD k false)+(goK n t stops start rests k).1-depK n t stops start rests k)
   (shS t stops (labK n t stops start rests k) k (rests.getD k false) (depK n t stops start rests k) (goK n t stops start rests k)):=by
 obtain ⟨g0,g1,g2,g3⟩:=QBm h.trip (Okay.lab h k hk) (h.all k (by rw [h.len]; omega))
 exact ⟨g0,g1,g3⟩
theorem Okay.dep {k:Nat} (hk:k≤stops.length):inT (depK n t stops start rests k):=QA6 h.trip (Okay.lab h k hk)
theorem Okay.go {k:Nat} (hk:k≤stops.length):depK n t stops start rests k≤(goK n t stops start rests k).1:=(QuQ h.trip.net (Okay.dep h hk) (Okay.step h hk).1).1
theorem Okay.ready {k:Nat} (hk:k≤stops.length):(labK n t stops start rests (k+1)).ready=max (goK n t stops start rests k).1 (stopK t stops k).open_+(stopK t stops k).service:=by rw [(Okay.step h hk).2.2]
theorem Okay.since {k:Nat} (hk:k≤stops.length):(labK n t stops start rests (k+1)).since=sinS (labK n t stops start rests k) (rests.getD k false)+(goK n t stops start rests k).1-depK n t stops start rests k:=by rw [(Okay.step h hk).2.2]
theorem Okay.miles {k:Nat} (hk:k≤stops.length):(labK n t stops start rests (k+1)).sheet.miles=(labK n t stops start rests k).sheet.miles+(goK n t stops start rests k).2.1:=by rw [(Okay.step h hk).2.2]; rfl
end
end
end Go.Proofs.YtfjiafgldchinaaGreatDoor
namespace Go.Proofs.YtfjiafgldchinaaGreatDoor
set_option linter.unusedSimpArgs false
set_option linter.unusedVariables false
set_option linter.unusedSectionVars false
noncomputable def runR (x:Qac) (r:QaF) (rests:List Bool):Qa0×Int:=if possS x r=true∧rests.length=r.visits.length+1 then runS x.net (typS x r) (QBy x r) r.start rests else (Qzg,2)
end Go.Proofs.YtfjiafgldchinaaGreatDoor
namespace Go.Proofs.YtfjiafgldchinaaGreatDoor
set_option linter.unusedSimpArgs false
set_option linter.unusedVariables false
set_option linter.unusedSectionVars false
def Qv0 (s:Qa0):List Bool:=s.rest_ :: s.times.map (·.rest_)
noncomputable def QBT (x:Qac) (r:QaF) (s:Qa0):Int :=
 if possS x r=true∧r.rests.length≤r.visits.length+1∧s.times.length=r.visits.length then
  if (Qv0 s).take r.rests.length=r.rests then
   if (runR x r (Qv0 s)).2≠0 then (runR x r (Qv0 s)).2 else if s=(runR x r (Qv0 s)).1 then 0 else 9
  else 9
 else 2
section
variable {x : Qac} {r : QaF} {s : Qa0}
theorem v2 (h:¬ (possS x r=true∧r.rests.length≤r.visits.length+1∧s.times.length=r.visits.length)):QBT x r s=2:=if_neg h
end
end Go.Proofs.YtfjiafgldchinaaGreatDoor
namespace Go.Proofs.YtfjiafgldchinaaGreatDoor
set_option linter.unusedSimpArgs false
set_option linter.unusedVariables false
set_option linter.unusedSectionVars false
def valB (b:List Bool):Nat:=b.foldl (fun v c=>2*v+(if c=true then 1 else 0)) 0
theorem QBB (b:List Bool):valB b<2 ^ b.length:=by
 have:∀ (b:List Bool) (v:Nat),b.foldl (fun v c=>2*v+(if c=true then 1 else 0)) v<(v+1)*2 ^ b.length:=by
  intro b
  induction b with
  | nil=>intro v; simp
  | cons c b ih =>
   intro v
   have:=ih (2*v+(if c=true then 1 else 0))
   rw [List.foldl_cons,List.length_cons,Nat.pow_succ]
   refine Nat.lt_of_lt_of_le this ?_
   rw [show (v+1)*(2 ^ b.length*2)=(2*v+2)*2 ^ b.length by rw [Nat.mul_comm (2 ^ b.length) 2,← Nat.mul_assoc]; congr 1; omega]
   exact Nat.mul_le_mul_right _ (by split <;> omega)
 simpa [valB] using this b 0
section
variable (n : Qal) (t : Qai) (stops : List Qas) (start : Int)
noncomputable def preB (b:List Bool):Qa3×Int:=runK n t stops b 0 (begS t start)
def okB (b:List Bool):Prop:=(preB n t stops start b).2=0
noncomputable def lbB (b:List Bool):Qa3:=(preB n t stops start b).1
def beatB (d b:List Bool):Prop:=(lbB n t stops start d).ready=(lbB n t stops start b).ready∧(lbB n t stops start d).since≤(lbB n t stops start b).since
open Classical in
end
section
variable {n : Qal} {t : Qai} {stops : List Qas} {start : Int}
theorem Qyl {a:List Bool}:beatB n t stops start a a:=⟨rfl,Int.le_refl _⟩
end
section
variable (rests : List Bool)
def chB (k:Nat):List Bool:=match rests[k]? with
 | some b=>[b]
 | none=>[false,true]
def folB (b:List Bool):Prop:=∀ i x,b[i]?=some x→x∈chB rests i
end
section
variable {n : Qal} {t : Qai} {stops : List Qas} {start : Int} {rests : List Bool}
structure StB (n:Qal) (t:Qai) (stops:List Qas) (start:Int) (rests:List Bool) (k:Nat) (P:List (List Bool)):Prop where
 ok:∀ b∈P,okB n t stops start b∧b.length=k∧folB rests b
 inc:P.Pairwise (fun a b=>valB a<valB b)
 cov:∀ b,b.length=k→folB rests b→okB n t stops start b→∃ a∈P,valB a≤valB b∧beatB n t stops start a b
theorem StB.zero:StB n t stops start rests 0 [[]] :=
 ⟨fun b hb=>by rw [List.mem_singleton.1 hb]; exact ⟨rfl,rfl,fun i x hx=>by simp at hx⟩,List.pairwise_singleton _ _,fun b hb _ _=>⟨[],by simp,by rw [List.length_eq_zero_iff.1 hb]; exact Nat.le_refl _,by rw [List.length_eq_zero_iff.1 hb]; exact Qyl⟩⟩
end
end Go.Proofs.YtfjiafgldchinaaGreatDoor
namespace Go.Proofs.YtfjiafgldchinaaGreatDoor
set_option linter.unusedSimpArgs false
set_option linter.unusedVariables false
set_option linter.unusedSectionVars false
theorem Qzs:∀ {P:List (List Bool)} {lo hi:Nat},P.Pairwise (fun a b=>valB a<valB b)→(∀ b∈P,lo≤valB b∧valB b<hi)→P.length+lo≤hi∨P=[]
 | [],_,_,_,_=>.inr rfl
 | a :: P,lo,hi,h,hb=>by
  rw [List.pairwise_cons] at h
  have ha:=hb a (by simp)
  rcases Qzs (P:=P) (lo:=lo+1) (hi:=hi) h.2 (fun b hb'=>⟨by have:=h.1 b hb'; omega,(hb b (by simp [hb'])).2⟩) with h1|h1
  ·left; simp only [List.length_cons]; omega
  ·left; rw [h1]; simp only [List.length_singleton]; omega
section
variable {n : Qal} {t : Qai} {stops : List Qas} {start : Int} {rests : List Bool}
theorem StB.len {k:Nat} {P:List (List Bool)} (h:StB n t stops start rests k P):P.length≤2 ^ k:=by
 rcases Qzs (lo:=0) (hi:=2 ^ k) h.inc (fun b hb=>⟨Nat.zero_le _,by have:=QBB b; rwa [(h.ok b hb).2.1] at this⟩) with h1|h1
 ·omega
 ·rw [h1]; exact Nat.zero_le _
end
end Go.Proofs.YtfjiafgldchinaaGreatDoor
