/- Part MQ of the proof: texts Kqm Kqn Kqo KqoT Kqp Kqt Kqv Kqw Kqx Kqy Kqy2 Kqy3 Kqyl. -/
import Derived.Test.YtbilkblifgaflaaGreatDoorMP
namespace Go.Proofs.YtbilkblifgaflaaGreatDoor
set_option linter.unusedSimpArgs false
set_option linter.unusedVariables false
set_option linter.unusedSectionVars false
section
variable (n : Qag) (t : Qaf) (stops : List Qap)
noncomputable def runK:List Bool→Nat→Qaj→Qaj×Int
 | [],_,l=>(l,0)
 | b :: r,k,l=>if (nxt n t stops l k b).2≠0 then (zLab,(nxt n t stops l k b).2) else runK r (k+1) (nxt n t stops l k b).1
def begS (start:Int):Qaj:=Qaj.mk (max t.open_ start) 0 QEw
noncomputable def runS (start:Int) (rests:List Bool):QaN×Int :=
 if (runK n t stops rests 0 (begS t start)).2≠0 then (QEw,(runK n t stops rests 0 (begS t start)).2) else ((runK n t stops rests 0 (begS t start)).1.sheet,0)
end
section
variable {n : Qag} {t : Qaf} {stops : List Qap} {l : Qaj} {k : Nat} {b : Bool}
theorem QGs (h:Qx6 n t stops) {start:Int} (hs:0≤start∧start≤4096):LabI 0 (begS t start):=by
 have h1:=h.opn; have h2:=h.close
 refine ⟨?_,?_,Int.le_refl _,by show (0:Int)≤4096; omega,Int.le_refl _,Int.le_refl _,rfl⟩
 ·show 0≤max t.open_ start; omega
 ·show max t.open_ start≤8192; omega
end
end Go.Proofs.YtbilkblifgaflaaGreatDoor
namespace Go.Proofs.YtbilkblifgaflaaGreatDoor
set_option linter.unusedSimpArgs false
set_option linter.unusedVariables false
set_option linter.unusedSectionVars false
section
variable (n : Qag) (t : Qaf) (stops : List Qap) (start : Int) (rests : List Bool)
noncomputable def labK:Nat→Qaj
 | 0=>begS t start
 | k+1=>(nxt n t stops (labK k) k (rests.getD k false)).1
noncomputable def depK (k:Nat):Int:=depS t (labK n t stops start rests k) (rests.getD k false)
noncomputable def goK (k:Nat):Int×Int×Int:=goN n t.profile (QBi t stops k) (stopK t stops k).place (depK n t stops start rests k)
end
section
variable {n : Qag} {t : Qaf} {stops : List Qap} {start : Int} {rests : List Bool}
structure Okay (n:Qag) (t:Qaf) (stops:List Qap) (start:Int) (rests:List Bool):Prop where
 trip:Qx6 n t stops
 st:0≤start∧start≤4096
 len:rests.length=stops.length+1
 all:∀ j,j<rests.length→(nxt n t stops (labK n t stops start rests j) j (rests.getD j false)).2=0
section
variable (h : Okay n t stops start rests)
include h
theorem Okay.lab:∀ k,k≤stops.length→LabI k (labK n t stops start rests k)
 | 0,_=>QGs h.trip h.st
 | k+1,hk=>QGV h.trip (Okay.lab k (by omega)) (by omega) (h.all k (by rw [h.len]; omega))
theorem Okay.step {k:Nat} (hk:k≤stops.length) :
  (goK n t stops start rests k).2.2=0∧(goK n t stops start rests k).1≤(stopK t stops k).close ∧
  labK n t stops start rests (k+1)=Qaj.mk (max (goK n t stops start rests k).1 (stopK t stops k).open_+(stopK t stops k).service) (sinS (labK n t stops start rests k) (rests.getD k false)+(goK n t stops start rests k).1-depK n t stops start rests k)
   (shS t stops (labK n t stops start rests k) k (rests.getD k false) (depK n t stops start rests k) (goK n t stops start rests k)):=by
 obtain ⟨g0,g1,g2,g3⟩:=QGW h.trip (Okay.lab h k hk) (h.all k (by rw [h.len]; omega))
 exact ⟨g0,g1,g3⟩
theorem Okay.dep {k:Nat} (hk:k≤stops.length):inT (depK n t stops start rests k):=QGx h.trip (Okay.lab h k hk)
theorem Okay.go {k:Nat} (hk:k≤stops.length):depK n t stops start rests k≤(goK n t stops start rests k).1:=(QGJ h.trip.net (Okay.dep h hk) (Okay.step h hk).1).1
theorem Okay.ready {k:Nat} (hk:k≤stops.length):(labK n t stops start rests (k+1)).ready=max (goK n t stops start rests k).1 (stopK t stops k).open_+(stopK t stops k).service:=by rw [(Okay.step h hk).2.2]
theorem Okay.since {k:Nat} (hk:k≤stops.length):(labK n t stops start rests (k+1)).since=sinS (labK n t stops start rests k) (rests.getD k false)+(goK n t stops start rests k).1-depK n t stops start rests k:=by rw [(Okay.step h hk).2.2]
theorem Okay.miles {k:Nat} (hk:k≤stops.length):(labK n t stops start rests (k+1)).sheet.miles=(labK n t stops start rests k).sheet.miles+(goK n t stops start rests k).2.1:=by rw [(Okay.step h hk).2.2]; rfl
end
end
end Go.Proofs.YtbilkblifgaflaaGreatDoor
namespace Go.Proofs.YtbilkblifgaflaaGreatDoor
set_option linter.unusedSimpArgs false
set_option linter.unusedVariables false
set_option linter.unusedSectionVars false
noncomputable def runR (x:Qab) (r:Qax) (rests:List Bool):QaN×Int:=if QHY x r=true∧rests.length=r.visits.length+1 then runS x.net (typS x r) (QG9 x r) r.start rests else (QEw,2)
end Go.Proofs.YtbilkblifgaflaaGreatDoor
namespace Go.Proofs.YtbilkblifgaflaaGreatDoor
set_option linter.unusedSimpArgs false
set_option linter.unusedVariables false
set_option linter.unusedSectionVars false

theorem Qys:∀ (n:Nat) (l:List Nat),l.Nodup→(∀ x∈l,x<n)→l.length≤n
 | 0,l,_,h=>by
  cases l with
  | nil=>exact Nat.le_refl _
  | cons x r=>exact absurd (h x (by simp)) (by omega)
 | n+1,l,hd,h=>by
  have h1:=Qys n (l.erase n) (hd.erase n) (fun x hx=>by
   have hx':=(List.Nodup.mem_erase_iff hd).1 hx
   have:=h x hx'.2
   have:=hx'.1
   omega)
  have h2:l.length≤(l.erase n).length+1:=by rw [List.length_erase]; split <;> omega
  omega

section
variable (prof : Int) (np : Nat)

def at_ (s:List Int) (v:Nat):Int:=s.getD v (-1)
def QAO (s:List Int) (a:Qai):List Int :=
 if a.profile=prof∧0≤at_ s a.from_.toNat∧(at_ s a.to_.toNat<0∨arrA a (at_ s a.from_.toNat)<at_ s a.to_.toNat) then s.set a.to_.toNat (arrA a (at_ s a.from_.toNat)) else s
def QrW (arcs:List Qai) (s:List Int) (k:Nat):List Int:=(arcs.take k).foldl (QAO prof) s
def pass (arcs:List Qai) (s:List Int):List Int:=QrW prof arcs s arcs.length
def iter (arcs:List Qai) (s:List Int):Nat→List Int
 | 0=>s
 | j+1=>pass prof arcs (iter arcs s j)

structure QGl (B C:Int) (a:Qai):Prop where
 from0:0≤a.from_
 from1:a.from_<np
 to0:0≤a.to_
 to1:a.to_<np
 ge:∀ t,0≤t→t≤B→t≤arrA a t
 le:∀ t,0≤t→t≤B→arrA a t≤t+C
end

theorem QDA {s:List Int} {d v:Nat} {x:Int} (h:d<s.length):at_ (s.set d x) v=if v=d then x else at_ s v:=by
 unfold at_
 rw [List.getD_eq_getElem?_getD,List.getD_eq_getElem?_getD,List.getElem?_set]
 by_cases hv:d=v
 ·subst hv; rw [if_pos rfl,if_pos h,if_pos rfl]; rfl
 ·rw [if_neg hv,if_neg (fun e=>hv e.symm)]

theorem Qqb {prof:Int} {arcs:List Qai} {s:List Int} {k:Nat} {a:Qai} (h:arcs[k]?=some a):QrW prof arcs s (k+1)=QAO prof (QrW prof arcs s k) a:=by
 unfold QrW; rw [List.take_add_one,h,List.foldl_append]; rfl

section
variable {prof : Int} {np : Nat} {B C t0 : Int} {arcs : List Qai}

def QF7 (prof:Int) (s:List Int) (a:Qai):Prop:=a.profile=prof→0≤at_ s a.from_.toNat→0≤at_ s a.to_.toNat∧at_ s a.to_.toNat≤arrA a (at_ s a.from_.toNat)

structure Inv (prof:Int) (np:Nat) (C t0:Int) (arcs:List Qai) (p k:Nat) (s:List Int) (level:Nat→Nat) (path:Nat→List Nat):Prop where
 len:s.length=np
 nodup:∀ v,0≤at_ s v→(path v).Nodup
 head:∀ v,0≤at_ s v→v∈path v
 elems:∀ v,0≤at_ s v→∀ u∈path v,u<np∧0≤at_ s u∧at_ s u≤at_ s v
 long:∀ v,0≤at_ s v→level v+1≤(path v).length
 val:∀ v,0≤at_ s v→at_ s v+C≤t0+C*(path v).length
 r1:∀ a∈arcs,level a.from_.toNat+2≤p→QF7 prof s a
 r2:∀ (i:Nat) (a:Qai),i<k→arcs[i]?=some a→level a.from_.toNat+1≤p→QF7 prof s a

theorem Inv.lt {p k:Nat} {s:List Int} {level:Nat→Nat} {path:Nat→List Nat} (h:Inv prof np C t0 arcs p k s level path) {v:Nat} (hv:0≤at_ s v):v<np:=(h.elems v hv v (h.head v hv)).1
theorem Inv.plen {p k:Nat} {s:List Int} {level:Nat→Nat} {path:Nat→List Nat} (h:Inv prof np C t0 arcs p k s level path) {v:Nat} (hv:0≤at_ s v):(path v).length≤np:=Qys np _ (h.nodup v hv) (fun x hx=>(h.elems v hv x hx).1)

theorem Inv.step {p k:Nat} {s:List Int} {level:Nat→Nat} {path:Nat→List Nat} (h:Inv prof np C t0 arcs p k s level path) (hC:0≤C) (hB:t0+C*np≤B) {a:Qai} (ha:arcs[k]?=some a) (hg:QGl np B C a) :
  ∃ level' path',Inv prof np C t0 arcs p (k+1) (QAO prof s a) level' path'∧(np≤p→QAO prof s a=s):=by
 unfold QAO
 by_cases hc:a.profile=prof∧0≤at_ s a.from_.toNat∧(at_ s a.to_.toNat<0∨arrA a (at_ s a.from_.toNat)<at_ s a.to_.toNat)
 ·rw [if_pos hc]
  obtain ⟨h1,h2,h3⟩:=hc
  have hd:a.to_.toNat<s.length:=by rw [h.len]; have:=hg.to1; have:=hg.to0; omega
  obtain ⟨u,hu⟩:∃ u,u=a.from_.toNat:=⟨_,rfl⟩
  obtain ⟨v,hv⟩:∃ v,v=a.to_.toNat:=⟨_,rfl⟩
  rw [← hu] at h2 h3 ⊢
  rw [← hv] at h3 hd ⊢
  have hpl:=h.plen h2
  have hval:=h.val u h2
  have hCl:C*(path u).length≤C*np:=Int.mul_le_mul_of_nonneg_left (by omega) hC
  have hge:=hg.ge (at_ s u) h2 (by omega)
  have hle:=hg.le (at_ s u) h2 (by omega)
  obtain ⟨x,hx⟩:∃ x,x=arrA a (at_ s u):=⟨_,rfl⟩
  rw [← hx] at h3 hge hle ⊢
  have hlev:p≤level u+1:=by
   rcases Nat.lt_or_ge (level u+1) p with hlt|hge'
   ·have:=h.r1 a (List.mem_of_getElem? ha) (by rw [← hu]; omega) h1 (by rw [← hu]; exact h2)
    rw [← hu,← hv,← hx] at this
    omega
   ·exact hge'
  have hvn:v ∉ path u:=fun hm=>by
   have:=h.elems u h2 v hm
   omega
  have hlong:=h.long u h2
  have huv:u≠v:=fun e=>hvn (e ▸ h.head u h2)
  have hvlt:v<np:=by rw [← h.len]; exact hd
  have hnd:(v :: path u).Nodup:=List.nodup_cons.2 ⟨hvn,h.nodup u h2⟩
  have hlen2:(v :: path u).length≤np:=Qys np _ hnd (fun y hy=>by
   rcases List.mem_cons.1 hy with rfl|hy
   ·exact hvlt
   ·exact (h.elems u h2 y hy).1)
  rw [List.length_cons] at hlen2
  have hA:∀ w,at_ (s.set v x) w=if w=v then x else at_ s w:=fun w=>QDA hd
  have hAv:at_ (s.set v x) v=x:=by rw [hA,if_pos rfl]
  have hAo:∀ w,w≠v→at_ (s.set v x) w=at_ s w:=fun w hw=>by rw [hA,if_neg hw]
  -- what a place on a path holds now
  have hold:∀ w,0≤at_ s w→0≤at_ (s.set v x) w∧at_ (s.set v x) w≤at_ s w:=fun w hw=>by
   by_cases hwv:w=v
   ·subst hwv; rw [hAv]; omega
   ·rw [hAo w hwv]; omega
  have hdone:∀ a':Qai,a'.from_.toNat≠v→QF7 prof s a'→QF7 prof (s.set v x) a':=fun a' hne hD hp hs=>by
   rw [hAo _ hne] at hs ⊢
   have:=hD hp hs
   have:=hold _ this.1
   omega
  refine ⟨fun w=>if w=v then p else level w,fun w=>if w=v then v :: path u else path w,?_,fun hnp=>absurd hlen2 (by omega)⟩
  refine ⟨by rw [List.length_set]; exact h.len,fun w hw=>?_,fun w hw=>?_,fun w hw y hy=>?_,fun w hw=>?_,fun w hw=>?_,fun a' ha' hl=>?_,fun i a' hi ha' hl=>?_⟩
  ·by_cases hwv:w=v
   ·simp only [hwv,if_true]; exact hnd
   ·simp only [hwv,if_false]; rw [hAo w hwv] at hw; exact h.nodup w hw
  ·by_cases hwv:w=v
   ·simp only [hwv,if_true]; exact List.mem_cons_self
   ·simp only [hwv,if_false]; rw [hAo w hwv] at hw; exact h.head w hw
  ·by_cases hwv:w=v
   ·subst hwv
    simp only [if_true] at hy
    rw [hAv]
    rcases List.mem_cons.1 hy with rfl|hy
    ·rw [hAv]; exact ⟨hvlt,by omega,by omega⟩
    ·have he:=h.elems u h2 y hy
     have hyv:y≠w:=fun e=>hvn (e ▸ hy)
     rw [hAo y hyv]
     exact ⟨he.1,he.2.1,by omega⟩
   ·simp only [hwv,if_false] at hy
    rw [hAo w hwv] at hw ⊢
    have he:=h.elems w hw y hy
    have ho:=hold y he.2.1
    exact ⟨he.1,ho.1,by omega⟩
  ·by_cases hwv:w=v
   ·simp only [hwv,if_true,List.length_cons]; omega
   ·simp only [hwv,if_false]; rw [hAo w hwv] at hw; exact h.long w hw
  ·by_cases hwv:w=v
   ·subst hwv
    simp only [if_true,List.length_cons]
    rw [hAv]
    have:C*((path u).length+1:Nat)=C*(path u).length+C:=by
     rw [Int.natCast_add,Int.mul_add]; simp
    rw [this]; omega
   ·simp only [hwv,if_false]; rw [hAo w hwv] at hw ⊢; exact h.val w hw
  ·by_cases hwv:a'.from_.toNat=v
   ·simp only [hwv,if_true] at hl; omega
   ·simp only [hwv,if_false] at hl; exact hdone a' hwv (h.r1 a' ha' hl)
  ·by_cases hwv:a'.from_.toNat=v
   ·simp only [hwv,if_true] at hl; omega
   ·simp only [hwv,if_false] at hl
    rcases Nat.lt_or_ge i k with hik|hik
    ·exact hdone a' hwv (h.r2 i a' hik ha' hl)
    ·have hik':i=k:=by omega
     subst hik'
     have:a'=a:=Option.some.inj (ha'.symm.trans ha)
     subst this
     intro _ _
     rw [← hu,← hv,hAv,hAo u huv,← hx]
     omega
 ·rw [if_neg hc]
  refine ⟨level,path,⟨h.len,h.nodup,h.head,h.elems,h.long,h.val,h.r1,fun i a' hi ha' hl=>?_⟩,fun _=>rfl⟩
  rcases Nat.lt_or_ge i k with hik|hik
  ·exact h.r2 i a' hik ha' hl
  ·have hik':i=k:=by omega
   subst hik'
   have:a'=a:=Option.some.inj (ha'.symm.trans ha)
   subst this
   intro hp hs
   have:¬ (at_ s a'.to_.toNat<0∨arrA a' (at_ s a'.from_.toNat)<at_ s a'.to_.toNat):=fun hh=>hc ⟨hp,hs,hh⟩
   omega

theorem Inv.steps {p:Nat} {s:List Int} (hC:0≤C) (hB:t0+C*np≤B) (hg:∀ a∈arcs,QGl np B C a) (h0:∃ level path,Inv prof np C t0 arcs p 0 s level path) :
  ∀ k,k≤arcs.length→(∃ level path,Inv prof np C t0 arcs p k (QrW prof arcs s k) level path)∧(np≤p→QrW prof arcs s k=s)
 | 0,_=>⟨h0,fun _=>rfl⟩
 | k+1,hk=>by
  obtain ⟨⟨level,path,h⟩,hs⟩:=Inv.steps hC hB hg h0 k (by omega)
  have ha:arcs[k]?=some (arcs[k]'(by omega)):=List.getElem?_eq_getElem (by omega)
  obtain ⟨l',p',h',hfix⟩:=h.step hC hB ha (hg _ (List.mem_of_getElem? ha))
  rw [Qqb ha]
  exact ⟨⟨l',p',h'⟩,fun hnp=>by rw [hfix hnp,hs hnp]⟩

theorem Inv.passes {s:List Int} (hC:0≤C) (hB:t0+C*np≤B) (hg:∀ a∈arcs,QGl np B C a) (h0:∃ level path,Inv prof np C t0 arcs 1 0 s level path) :
  ∀ j,(∃ level path,Inv prof np C t0 arcs (j+1) 0 (iter prof arcs s j) level path)∧(np≤j+1→iter prof arcs s (j+1)=iter prof arcs s j)
 | 0=>⟨h0,fun hnp=>(Inv.steps hC hB hg h0 arcs.length (Nat.le_refl _)).2 hnp⟩
 | j+1=>by
  obtain ⟨⟨level,path,h⟩,_⟩:=Inv.passes hC hB hg h0 j
  obtain ⟨⟨l',p',h'⟩,_⟩:=Inv.steps hC hB hg ⟨level,path,h⟩ arcs.length (Nat.le_refl _)
  have hnext:∃ level path,Inv prof np C t0 arcs (j+1+1) 0 (iter prof arcs s (j+1)) level path:=by
   refine ⟨l',p',h'.len,h'.nodup,h'.head,h'.elems,h'.long,h'.val,fun a ha hl=>?_,fun i a hi=>absurd hi (by omega)⟩
   obtain ⟨i,hi⟩:=List.getElem?_of_mem ha
   exact h'.r2 i a (List.getElem?_eq_some_iff.1 hi).1 hi (by omega)
  exact ⟨hnext,fun hnp=>(Inv.steps hC hB hg hnext arcs.length (Nat.le_refl _)).2 hnp⟩
end
end Go.Proofs.YtbilkblifgaflaaGreatDoor
namespace Go.Proofs.YtbilkblifgaflaaGreatDoor
set_option linter.unusedSimpArgs false
set_option linter.unusedVariables false
set_option linter.unusedSectionVars false

theorem QIo {np:Nat} {B:Int} {a:Qai} (h:QBC np a):QGl np B 73728 a :=
 ⟨h.from0,h.from1,h.to0,h.to1,fun t _ _=>QAa h t,fun t h0 _=>QEA h h0⟩
def use (prof:Int) (s:List Int) (a:Qai):Prop:=a.profile=prof∧0≤at_ s a.from_.toNat∧(at_ s a.to_.toNat<0∨arrA a (at_ s a.from_.toNat)<at_ s a.to_.toNat)
instance (prof:Int) (s:List Int) (a:Qai):Decidable (use prof s a):=inferInstanceAs (Decidable (_∧_∧_))
theorem Qte {prof:Int} {s:List Int} {a:Qai} (h:use prof s a):QAO prof s a=s.set a.to_.toNat (arrA a (at_ s a.from_.toNat)):=if_pos h
theorem Qnn {prof:Int} {s:List Int} {a:Qai} (h:¬ use prof s a):QAO prof s a=s:=if_neg h
theorem Qyz {prof:Int} {s:List Int} {a:Qai}:(QAO prof s a).length=s.length:=by unfold QAO; split <;> simp
theorem Qyv {prof:Int} {arcs:List Qai} {s:List Int} {k:Nat}:(QrW prof arcs s k).length=s.length:=by
 unfold QrW
 generalize arcs.take k=l
 induction l generalizing s with
 | nil=>rfl
 | cons a l ih=>rw [List.foldl_cons,ih,Qyz]
theorem QHe {prof:Int} {s:List Int} {a:Qai} {np:Nat} (hl:s.length=np) (ha:QBC np a) (h:use prof s a):QAO prof s a≠s:=fun e=>by
 rw [Qte h] at e
 have h1:=QDA (s:=s) (d:=a.to_.toNat) (v:=a.to_.toNat) (x:=arrA a (at_ s a.from_.toNat)) (by have:=ha.to0; have:=ha.to1; omega)
 rw [if_pos rfl,e] at h1
 have h2:=QAa ha (at_ s a.from_.toNat)
 obtain ⟨_,h3,h4⟩:=h
 omega
theorem Qpt {s:List Int} {i:Int} (h0:0≤i) (h1:i<s.length):getI s i=some (at_ s i.toNat):=by
 rw [QGF h0 h1]
 unfold at_
 rw [List.getD_eq_getElem?_getD,List.getElem?_eq_getElem]; rfl
def QDt (prof:Int) (arcs:List Qai) (s:List Int):Nat→Bool
 | 0=>false
 | k+1=>QDt prof arcs s k||(match arcs[k]? with
  | some a=>decide (use prof (QrW prof arcs s k) a)
  | none=>false)
theorem Qx5 {prof:Int} {arcs:List Qai} {s:List Int}:∀ k,QDt prof arcs s k=false→QrW prof arcs s k=s
 | 0,_=>rfl
 | k+1,h=>by
  simp only [QDt,orF] at h
  have ih:=Qx5 k h.1
  cases ha:arcs[k]? with
  | none =>
   unfold QrW at ih ⊢
   rw [List.take_of_length_le (by have:=List.getElem?_eq_none_iff.1 ha; omega)] at ih ⊢
   exact ih
  | some a =>
   have h2:=h.2
   rw [ha] at h2
   rw [Qqb ha,Qnn (of_decide_eq_false h2),ih]
theorem QA4 {prof:Int} {arcs:List Qai} {s:List Int} {np:Nat} (hl:s.length=np) (hok:∀ a∈arcs,QBC np a):∀ k,(∀ j,j≤k→QrW prof arcs s j=s)→QDt prof arcs s k=false
 | 0,_=>rfl
 | k+1,h=>by
  simp only [QDt,orF]
  refine ⟨QA4 hl hok k fun j hj=>h j (by omega),?_⟩
  cases ha:arcs[k]? with
  | none=>rfl
  | some a =>
   refine decide_eq_false fun hu=>?_
   have h1:=h (k+1) (by omega)
   have h2:=h k (by omega)
   rw [Qqb ha,h2] at h1
   rw [h2] at hu
   exact QHe hl (hok a (List.mem_of_getElem? ha)) hu h1

section
variable {n : Qag} {profile from_ t : Int}
def start (np:Nat) (from_ t:Int):List Int:=(List.replicate np (-1)).set from_.toNat t
theorem Qz2 {np:Nat} {v:Nat} (h0:0≤from_) (h1:from_<np):at_ (start np from_ t) v=if v=from_.toNat then t else -1:=by
 unfold start
 rw [QDA (by simp; omega)]
 congr 1
 unfold at_
 rw [List.getD_eq_getElem?_getD,List.getElem?_replicate]
 split <;> rfl
theorem QEp {arcs:List Qai} {np:Nat} (h0:0≤from_) (h1:from_<np) (ht:0≤t):∃ level path,Inv profile np 73728 t arcs 1 0 (start np from_ t) level path:=by
 have key:∀ v,0≤at_ (start np from_ t) v→v=from_.toNat∧at_ (start np from_ t) v=t:=fun v hv=>by
  rw [Qz2 h0 h1] at hv ⊢
  split at hv
  ·rename_i h; exact ⟨h,by rw [if_pos h]⟩
  ·omega
 refine ⟨fun _=>0,fun v=>[v],by simp [start],fun v _=>by simp,fun v _=>by simp,fun v hv u hu=>?_,fun v _=>by simp,fun v hv=>?_,fun a _ h=>by omega,fun i a h=>by omega⟩
 ·simp only [List.mem_singleton] at hu
  subst hu
  have:=(key u hv).1
  exact ⟨by omega,hv,Int.le_refl _⟩
 ·rw [(key v hv).2]; simp
theorem Qwq (hok:Qzv n) (h0:0≤from_) (h1:from_<n.places.length) (ht:0≤t) (ht':t≤1048576) (j k:Nat) (hk:k≤n.arcs.length) :
  (∀ v,0≤at_ (QrW profile n.arcs (iter profile n.arcs (start n.places.length from_ t) j) k) v→inT (at_ (QrW profile n.arcs (iter profile n.arcs (start n.places.length from_ t) j) k) v)) ∧
  (n.places.length≤j+1→QrW profile n.arcs (iter profile n.arcs (start n.places.length from_ t) j) k=iter profile n.arcs (start n.places.length from_ t) j):=by
 have hg:∀ a∈n.arcs,QGl n.places.length 1073741824 73728 a:=fun a ha=>QIo (hok.all a ha)
 have hp:=hok.places
 have hB:t+73728*(n.places.length:Int)≤1073741824:=by omega
 obtain ⟨hI,_⟩:=Inv.passes (prof:=profile) (by omega) hB hg (QEp (profile:=profile) (arcs:=n.arcs) h0 h1 ht) j
 obtain ⟨⟨level,path,h⟩,hfix⟩:=Inv.steps (by omega) hB hg hI k hk
 refine ⟨fun v hv=>⟨hv,?_⟩,hfix⟩
 have h2:=h.val v hv
 have h3:=h.plen hv
 have:73728*((path v).length:Int)≤73728*(n.places.length:Int):=by omega
 omega
theorem QwS {arcs:List Qai} {s:List Int}:∀ j,(iter profile arcs s j).length=s.length
 | 0=>rfl
 | j+1=>by show (QrW _ _ _ _).length=_; rw [Qyv,QwS j]
theorem QCk {arcs:List Qai} {s:List Int} {j:Nat} (h:pass profile arcs (iter profile arcs s j)=iter profile arcs s j):∀ d,iter profile arcs s (j+d)=iter profile arcs s j
 | 0=>rfl
 | d+1=>by show pass profile arcs (iter profile arcs s (j+d))=_; rw [QCk h d,h]

theorem QFS {s:List Int} (hok:Qzv n) (hl:s.length=n.places.length) (hT:∀ k,k≤n.arcs.length→∀ v,0≤at_ (QrW profile n.arcs s k) v→inT (at_ (QrW profile n.arcs s k) v)) (r:Int) :
  QaX (fun x=>QbS n profile from_ r x.1 x.2) (s,0)=some (pass profile n.arcs s):=by
 have hal:=hok.arcs
 refine QeO (B:=fun x:List Int×Int=>QbS n profile from_ r x.1 x.2) n.arcs.length (fun i=>(QrW profile n.arcs s i,(i:Int))) (by omega) (fun i hi=>?_) ?_
 ·have e1:n.arcs[i]?=some n.arcs[i]:=List.getElem?_eq_getElem hi
  have ha:=hok.all _ (List.getElem_mem hi)
  show QbS n profile from_ r (QrW profile n.arcs s i) (i:Int)=some (.inl (QrW profile n.arcs s (i+1),((i+1:Nat):Int)))
  rw [Qqb e1]
  unfold QbS
  rw [Qbp (by simp [lenI]; exact hi),QaZ e1,Qan,inc (n:=n.arcs.length) hi (by omega)]
  have hv:=hT i (by omega)
  generalize n.arcs[i]=a at *
  have hlen:(QrW profile n.arcs s i).length=n.places.length:=by rw [Qyv,hl]
  generalize QrW profile n.arcs s i=u at *
  have g1:=Qpt (s:=u) ha.from0 (by rw [hlen]; exact ha.from1)
  have g2:=Qpt (s:=u) ha.to0 (by rw [hlen]; exact ha.to1)
  have hcast:((i+1:Nat):Int)=(i:Int)+1:=by omega
  rw [hcast]
  by_cases c1:a.profile=profile
  ·rw [Qbp (by simpa using c1),g1,Qan]
   by_cases c2:0≤at_ u a.from_.toNat
   ·rw [Qbp (by simpa using c2),QtL ha (hv _ c2),Qan,g2,Qan]
    by_cases c3:at_ u a.to_.toNat<0
    ·rw [Qbp (by simpa using c3),Qte ⟨c1,c2,.inl c3⟩]; rfl
    ·rw [Qby (by simpa using c3)]
     by_cases c4:arrA a (at_ u a.from_.toNat)<at_ u a.to_.toNat
     ·rw [Qbp (by simpa using c4),Qte ⟨c1,c2,.inr c4⟩]; rfl
     ·rw [Qby (by simpa using c4),Qnn (fun h=>by rcases h.2.2 with h|h; exact c3 h; exact c4 h)]
   ·rw [Qby (by simpa using c2),Qnn (fun h=>c2 h.2.1)]
  ·rw [Qby (by simpa using c1),Qnn (fun h=>c1 h.1)]
 ·show QbS n profile from_ r _ (n.arcs.length:Int)=_
  unfold QbS
  rw [Qby (by simp [lenI])]
  rfl
theorem QEf {s:List Int} {l0:List Int} (hok:Qzv n) (hl:s.length=n.places.length) (hT:∀ k,k≤n.arcs.length→∀ v,0≤at_ (QrW profile n.arcs s k) v→inT (at_ (QrW profile n.arcs s k) v)) :
  QaX (fun x=>Qcz n profile from_ l0 x.1 x.2.1 x.2.2) (s,false,0)=some (pass profile n.arcs s,QDt profile n.arcs s n.arcs.length):=by
 have hal:=hok.arcs
 refine QeO (B:=fun x:List Int×Bool×Int=>Qcz n profile from_ l0 x.1 x.2.1 x.2.2) n.arcs.length (fun i=>(QrW profile n.arcs s i,QDt profile n.arcs s i,(i:Int))) (by omega) (fun i hi=>?_) ?_
 ·have e1:n.arcs[i]?=some n.arcs[i]:=List.getElem?_eq_getElem hi
  have ha:=hok.all _ (List.getElem_mem hi)
  show Qcz n profile from_ l0 (QrW profile n.arcs s i) (QDt profile n.arcs s i) (i:Int)=some (.inl (QrW profile n.arcs s (i+1),QDt profile n.arcs s i||(match n.arcs[i]? with
   | some a=>decide (use profile (QrW profile n.arcs s i) a)
   | none=>false),((i+1:Nat):Int)))
  rw [Qqb e1]
  unfold Qcz
  rw [Qbp (by simp [lenI]; exact hi),QaZ e1,Qan,inc (n:=n.arcs.length) hi (by omega),e1]
  simp only
  have hv:=hT i (by omega)
  generalize n.arcs[i]=a at *
  have hlen:(QrW profile n.arcs s i).length=n.places.length:=by rw [Qyv,hl]
  generalize QrW profile n.arcs s i=u at *
  generalize QDt profile n.arcs s i=b
  have g1:=Qpt (s:=u) ha.from0 (by rw [hlen]; exact ha.from1)
  have g2:=Qpt (s:=u) ha.to0 (by rw [hlen]; exact ha.to1)
  have hcast:((i+1:Nat):Int)=(i:Int)+1:=by omega
  rw [hcast,Qt2,Qan,Qt2,Qan,Qbp (show QfT n a.from_=true from decide_eq_true ⟨ha.from0,ha.from1⟩),Qbp (show QfT n a.to_=true from decide_eq_true ⟨ha.to0,ha.to1⟩)]
  have yes:use profile u a→(decide (use profile u a))=true:=decide_eq_true
  have no:¬ use profile u a→(decide (use profile u a))=false:=decide_eq_false
  by_cases c1:a.profile=profile
  ·rw [Qby (by simpa using c1),g1,Qan]
   by_cases c2:0≤at_ u a.from_.toNat
   ·rw [Qby (by simpa using c2),QyS ha (hv _ c2),Qan,g2,Qan]
    by_cases c3:at_ u a.to_.toNat<0
    ·rw [Qbp (by simpa using c3),Qte ⟨c1,c2,.inl c3⟩,yes ⟨c1,c2,.inl c3⟩,Bool.or_true]; rfl
    ·rw [Qby (by simpa using c3)]
     by_cases c4:arrA a (at_ u a.from_.toNat)<at_ u a.to_.toNat
     ·rw [Qbp (by simpa using c4),Qte ⟨c1,c2,.inr c4⟩,yes ⟨c1,c2,.inr c4⟩,Bool.or_true]; rfl
     ·have hn:¬ use profile u a:=fun h=>by rcases h.2.2 with h|h; exact c3 h; exact c4 h
      rw [Qby (by simpa using c4),Qnn hn,no hn,Bool.or_false]
   ·have hn:¬ use profile u a:=fun h=>c2 h.2.1
    rw [Qbp (by simpa using c2),Qnn hn,no hn,Bool.or_false]
  ·have hn:¬ use profile u a:=fun h=>c1 h.1
   rw [Qbp (by simpa using c1),Qnn hn,no hn,Bool.or_false]
 ·show Qcz n profile from_ l0 _ _ (n.arcs.length:Int)=_
  unfold Qcz
  rw [Qby (by simp [lenI])]
  rfl

theorem QGN {S E:Type} {B:S→Option (S⊕E)} (C:Nat→S→Prop) (Q:E→Prop)
  (h:∀ m s,C m s→post (B s) fun x=>(∀ s',x=.inl s'→∃ m',m'<m∧C m' s')∧∀ e,x=.inr e→Q e):∀ (n m:Nat) (s:S),C m s→m<n→post (QyP B n s) Q:=by
 intro n
 induction n with
 | zero=>intro m s _ hm; omega
 | succ n ih =>
  intro m s hs hm
  obtain ⟨x,hx,h1,h2⟩:=h m s hs
  simp only [QyP,hx]
  cases x with
  | inl s' =>
   obtain ⟨m',h3,h4⟩:=h1 s' rfl
   exact ih m' s' h4 (by omega)
  | inr e=>exact ⟨e,rfl,h2 e rfl⟩
theorem QBm {S E:Type} {B:S→Option (S⊕E)} (C:Nat→S→Prop) {Q:E→Prop} {s:S} (m:Nat) (hs:C m s) (hm:m<18446744073709551616)
  (h:∀ m s,C m s→post (B s) fun x=>(∀ s',x=.inl s'→∃ m',m'<m∧C m' s')∧∀ e,x=.inr e→Q e):post (QaX B s) Q:=QGN C Q h _ m s hs hm
def earS (n:Qag) (profile from_ t:Int):List Int :=
 if QfT n from_=true then iter profile n.arcs (start n.places.length from_ t) n.places.length else List.replicate n.places.length (-1)
theorem QBJ {arcs:List Qai} (np k:Nat):QrW profile arcs (List.replicate np (-1)) k=List.replicate np (-1):=by
 unfold QrW
 generalize arcs.take k=l
 induction l with
 | nil=>rfl
 | cons a l ih =>
  rw [List.foldl_cons,Qnn,ih]
  intro h
  have h1:=h.2.1
  unfold at_ at h1
  rw [List.getD_eq_getElem?_getD,List.getElem?_replicate] at h1
  split at h1 <;> simp at h1
theorem QBb (np v:Nat):at_ (List.replicate np (-1)) v=-1:=by
 unfold at_
 rw [List.getD_eq_getElem?_getD,List.getElem?_replicate]
 split <;> rfl
theorem QxP (hok:Qzv n) (ht:0≤t) (ht':t≤1048576):Qg5 n profile from_ t=some (earS n profile from_ t):=by
 have hp:=hok.places
 unfold Qg5
 rw [show mkI (lenI n.places) (lenI n.places) 8 (0:Int)=some (List.replicate n.places.length 0) by unfold mkI lenI; rw [if_pos (by omega)]; simp,Qan]
 have l1:QaX (fun s=>Qcy n profile from_ t (List.replicate n.places.length 0) s.1 s.2) (List.replicate n.places.length 0,0)=some (List.replicate n.places.length (-1)):=by
  have:=QeO (B:=fun s:List Int×Int=>Qcy n profile from_ t (List.replicate n.places.length 0) s.1 s.2) (e:=List.replicate n.places.length (-1)) n.places.length (fun i=>(List.replicate i (-1)++List.replicate (n.places.length-i) 0,(i:Int))) (by omega) (fun i hi=>?_) ?_
  ·simpa using this
  ·show Qcy n profile from_ t _ (List.replicate i (-1)++List.replicate (n.places.length-i) 0) (i:Int)=some (.inl (List.replicate (i+1) (-1)++List.replicate (n.places.length-(i+1)) 0,((i+1:Nat):Int)))
   unfold Qcy
   have hd:List.replicate (n.places.length-i) (0:Int)=0 :: List.replicate (n.places.length-(i+1)) 0:=by
    rw [show n.places.length-i=(n.places.length-(i+1))+1 by omega]; rfl
   have hl:(List.replicate i (-1:Int)).length=i:=by simp
   have e1:(List.replicate i (-1:Int)++List.replicate (n.places.length-i) 0)[i]?=some 0:=by rw [List.getElem?_append_right (by omega),hl,Nat.sub_self,hd]; rfl
   rw [Qbp (by simp [lenI]; exact hi),QaZ e1,Qan,inc (n:=n.places.length) hi (by omega)]
   unfold setI
   rw [Int.toNat_natCast,List.set_append_right _ _ (by omega),hl,Nat.sub_self,hd,List.set_cons_zero,List.replicate_succ' (n:=i)]
   simp
  ·show Qcy n profile from_ t _ _ (n.places.length:Int)=_
   unfold Qcy
   rw [Qby (by simp [lenI])]
   simp
 rw [l1,Qan,Qt2,Qan]
 unfold earS
 by_cases hf:QfT n from_=true
 ·rw [if_pos hf,Qbp hf]
  obtain ⟨h0,h1⟩:=of_decide_eq_true hf
  rw [Qpt h0 (by simpa using h1),Qan]
  apply post.eq
  refine QqM ?_
  have hst:setI (List.replicate n.places.length (-1)) from_ t=start n.places.length from_ t:=rfl
  rw [hst]
  have hlen:∀ j,(iter profile n.arcs (start n.places.length from_ t) j).length=n.places.length:=fun j=>by rw [QwS]; simp [start]
  refine QBm (fun m s=>∃ j:Nat,j≤n.places.length∧s.1=iter profile n.arcs (start n.places.length from_ t) j∧(s.2=true→j<n.places.length)∧(s.2=false→pass profile n.arcs s.1=s.1)∧m=(n.places.length-j)+(if s.2=true then 1 else 0)) (n.places.length+1)
   ⟨0,Nat.zero_le _,rfl,fun _=>by omega,fun h=>by (cases h),by simp⟩ (by omega) ?_
  rintro m ⟨l,b⟩ ⟨j,hj,hl,hb,hb',hm⟩
  simp only at hl hb hb' hm
  subst hl
  show post (Qes n profile from_ _ _ b) _
  unfold Qes
  have hpk:=Qwq (profile:=profile) (t:=t) hok h0 h1 ht ht' j
  cases b with
  | true =>
   have hj':=hb rfl
   rw [QdY,QEf hok (hlen j) (fun k hk=>(hpk k hk).1),Qan]
   refine ⟨_,rfl,fun s' hs=>?_,fun _ h=>by cases h⟩
   cases hs
   refine ⟨_,?_,j+1,by omega,rfl,fun hu=>?_,fun hu=>?_,rfl⟩
   ·rw [hm]; simp only [if_true]; split <;> omega
   ·rcases Nat.lt_or_ge (j+1) n.places.length with h|h
    ·exact h
    ·exfalso
     have h2:=QA4 (prof:=profile) (hlen j) hok.all n.arcs.length (fun i hi=>(hpk i hi).2 h)
     simp only at hu
     rw [h2] at hu; cases hu
   ·have h2:=Qx5 _ hu
    have h3:pass profile n.arcs (iter profile n.arcs (start n.places.length from_ t) j)=iter profile n.arcs (start n.places.length from_ t) j:=h2
    simp only
    rw [h3,h3]
  | false =>
   refine Qfm ?_
   have h2:=QCk (hb' rfl) (n.places.length-j)
   rw [show j+(n.places.length-j)=n.places.length by omega] at h2
   show post (some (iter profile n.arcs (start n.places.length from_ t) j)) _
   rw [h2]
   exact QaY.2 rfl
 ·rw [if_neg hf,Qby (by simpa using hf)]
theorem Qpw (hok:Qzv n) (ht:0≤t) (ht':t≤1048576):Qfh n profile from_ t=some (earS n profile from_ t):=by
 have hp:=hok.places
 unfold Qfh
 have l1:QaX (fun s=>QbR n profile from_ t s.1 s.2) ([],0)=some (if QfT n from_=true then start n.places.length from_ t else List.replicate n.places.length (-1)):=by
  let f:Nat→Int:=fun v=>if (v:Int)=from_ then t else -1
  have:=QeO (B:=fun s:List Int×Int=>QbR n profile from_ t s.1 s.2) (e:=(List.range n.places.length).map f) n.places.length (fun i=>((List.range i).map f,(i:Int))) (by omega) (fun i hi=>?_) ?_
  ·rw [show ([]:List Int)=(List.range 0).map f from rfl,show (0:Int)=((0:Nat):Int) from rfl,this]
   congr 1
   apply List.ext_getElem?
   intro v
   by_cases hv:v<n.places.length
   ·rw [List.getElem?_map,List.getElem?_range hv]
    show some (f v)=_
    by_cases hf:QfT n from_=true
    ·obtain ⟨h0,h1⟩:=of_decide_eq_true hf
     rw [if_pos hf]
     unfold start
     rw [List.getElem?_set]
     by_cases hc:(v:Int)=from_
     ·rw [if_pos (by omega),if_pos (by simp; omega)]; simp [f,hc]
     ·rw [if_neg (by omega),List.getElem?_replicate,if_pos hv]; simp [f,hc]
    ·rw [if_neg hf,List.getElem?_replicate,if_pos hv]
     have hc:(v:Int)≠from_:=fun h=>hf (decide_eq_true ⟨by omega,by omega⟩)
     simp [f,hc]
   ·rw [List.getElem?_eq_none (by simp; omega),List.getElem?_eq_none]
    split
    ·simp [start]; omega
    ·simp; omega
  ·show QbR n profile from_ t ((List.range i).map f) (i:Int)=some (.inl ((List.range (i+1)).map f,((i+1:Nat):Int)))
   unfold QbR
   rw [Qbp (by simp [lenI]; exact hi),inc (n:=n.places.length) hi (by omega),List.range_succ,List.map_append]
   by_cases hc:(i:Int)=from_
   ·rw [Qbp (by simpa using hc),Qcn (QcW (by simp; omega))]
    simp [f,hc]
   ·rw [Qby (by simpa using hc),Qcn (QcW (by simp; omega))]
    simp [f,hc]
  ·show QbR n profile from_ t _ (n.places.length:Int)=_
   unfold QbR
   rw [Qby (by simp [lenI])]
 rw [l1,Qan]
 have key:∀ s0:List Int,s0.length=n.places.length→(∀ j k,k≤n.arcs.length→∀ v,0≤at_ (QrW profile n.arcs (iter profile n.arcs s0 j) k) v→inT (at_ (QrW profile n.arcs (iter profile n.arcs s0 j) k) v)) →
   QaX (fun s=>QbG n profile from_ s.1 s.2) (s0,0)=some (iter profile n.arcs s0 n.places.length):=by
  intro s0 hl hT
  refine QeO (B:=fun s:List Int×Int=>QbG n profile from_ s.1 s.2) n.places.length (fun i=>(iter profile n.arcs s0 i,(i:Int))) (by omega) (fun i hi=>?_) ?_
  ·show QbG n profile from_ (iter profile n.arcs s0 i) (i:Int)=some (.inl (iter profile n.arcs s0 (i+1),((i+1:Nat):Int)))
   unfold QbG
   rw [Qbp (by simp [lenI]; exact hi),QFS hok (by rw [QwS]; exact hl) (fun k hk=>hT i k hk),Qan,inc (n:=n.places.length) hi (by omega)]
   rfl
  ·show QbG n profile from_ _ (n.places.length:Int)=_
   unfold QbG
   rw [Qby (by simp [lenI])]
 unfold earS
 by_cases hf:QfT n from_=true
 ·obtain ⟨h0,h1⟩:=of_decide_eq_true hf
  rw [if_pos hf,if_pos hf,key _ (by simp [start]) (fun j k hk=>(Qwq hok h0 h1 ht ht' j k hk).1),Qan]
 ·have hit:∀ j,iter profile n.arcs (List.replicate n.places.length (-1)) j=List.replicate n.places.length (-1):=fun j=>by
   induction j with
   | zero=>rfl
   | succ j ih=>show QrW _ _ (iter _ _ _ j) _=_; rw [ih,QBJ]
  rw [if_neg hf,if_neg hf,key _ (by simp) (fun j k hk v hv=>by rw [hit,QBJ,QBb] at hv; omega),hit,Qan]
end
end Go.Proofs.YtbilkblifgaflaaGreatDoor
namespace Go.Proofs.YtbilkblifgaflaaGreatDoor
set_option linter.unusedSimpArgs false
set_option linter.unusedVariables false
set_option linter.unusedSectionVars false
def QAR (s:QaN):List Bool:=s.rest_ :: s.times.map (·.rest_)
noncomputable def QH3 (x:Qab) (r:Qax) (s:QaN):Int :=
 if QHY x r=true∧r.rests.length≤r.visits.length+1∧s.times.length=r.visits.length then
  if (QAR s).take r.rests.length=r.rests then
   if (runR x r (QAR s)).2≠0 then (runR x r (QAR s)).2 else if s=(runR x r (QAR s)).1 then 0 else 9
  else 9
 else 2
section
variable {x : Qab} {r : Qax} {s : QaN}
theorem v2 (h:¬ (QHY x r=true∧r.rests.length≤r.visits.length+1∧s.times.length=r.visits.length)):QH3 x r s=2:=if_neg h
end
end Go.Proofs.YtbilkblifgaflaaGreatDoor
namespace Go.Proofs.YtbilkblifgaflaaGreatDoor
set_option linter.unusedSimpArgs false
set_option linter.unusedVariables false
set_option linter.unusedSectionVars false
def valB (b:List Bool):Nat:=b.foldl (fun v c=>2*v+(if c=true then 1 else 0)) 0
theorem QHf (b:List Bool):valB b<2 ^ b.length:=by
 have:∀ (b:List Bool) (v:Nat),b.foldl (fun v c=>2*v+(if c=true then 1 else 0)) v<(v+1)*2 ^ b.length:=by
  intro b
  induction b with
  | nil=>intro v; simp
  | cons c b ih =>
   intro v
   have:=ih (2*v+(if c=true then 1 else 0))
   rw [List.foldl_cons,List.length_cons,Nat.pow_succ]
   refine Nat.lt_of_lt_of_le this ?_
   rw [show (v+1)*(2 ^ b.length*2)=(2*v+2)*2 ^ b.length by rw [Nat.mul_comm (2 ^ b.length) 2,← Nat.mul_assoc]; congr 1; omega]
   exact Nat.mul_le_mul_right _ (by split <;> omega)
 simpa [valB] using this b 0
section
variable (n : Qag) (t : Qaf) (stops : List Qap) (start : Int)
noncomputable def preB (b:List Bool):Qaj×Int:=runK n t stops b 0 (begS t start)
def okB (b:List Bool):Prop:=(preB n t stops start b).2=0
noncomputable def lbB (b:List Bool):Qaj:=(preB n t stops start b).1
def QH7 (d b:List Bool):Prop:=(lbB n t stops start d).ready=(lbB n t stops start b).ready∧(lbB n t stops start d).since≤(lbB n t stops start b).since
open Classical in
end
section
variable {n : Qag} {t : Qaf} {stops : List Qap} {start : Int}
theorem QDB {a:List Bool}:QH7 n t stops start a a:=⟨rfl,Int.le_refl _⟩
end
section
variable (rests : List Bool)
def chB (k:Nat):List Bool:=match rests[k]? with
 | some b=>[b]
 | none=>[false,true]
def folB (b:List Bool):Prop:=∀ i x,b[i]?=some x→x∈chB rests i
end
section
variable {n : Qag} {t : Qaf} {stops : List Qap} {start : Int} {rests : List Bool}
structure StB (n:Qag) (t:Qaf) (stops:List Qap) (start:Int) (rests:List Bool) (k:Nat) (P:List (List Bool)):Prop where
 ok:∀ b∈P,okB n t stops start b∧b.length=k∧folB rests b
 inc:P.Pairwise (fun a b=>valB a<valB b)
 cov:∀ b,b.length=k→folB rests b→okB n t stops start b→∃ a∈P,valB a≤valB b∧QH7 n t stops start a b
theorem StB.zero:StB n t stops start rests 0 [[]] :=
 ⟨fun b hb=>by rw [List.mem_singleton.1 hb]; exact ⟨rfl,rfl,fun i x hx=>by simp at hx⟩,List.pairwise_singleton _ _,fun b hb _ _=>⟨[],by simp,by rw [List.length_eq_zero_iff.1 hb]; exact Nat.le_refl _,by rw [List.length_eq_zero_iff.1 hb]; exact QDB⟩⟩
end
end Go.Proofs.YtbilkblifgaflaaGreatDoor
namespace Go.Proofs.YtbilkblifgaflaaGreatDoor
set_option linter.unusedSimpArgs false
set_option linter.unusedVariables false
set_option linter.unusedSectionVars false
theorem QEJ:∀ {P:List (List Bool)} {lo hi:Nat},P.Pairwise (fun a b=>valB a<valB b)→(∀ b∈P,lo≤valB b∧valB b<hi)→P.length+lo≤hi∨P=[]
 | [],_,_,_,_=>.inr rfl
 | a :: P,lo,hi,h,hb=>by
  rw [List.pairwise_cons] at h
  have ha:=hb a (by simp)
  rcases QEJ (P:=P) (lo:=lo+1) (hi:=hi) h.2 (fun b hb'=>⟨by have:=h.1 b hb'; omega,(hb b (by simp [hb'])).2⟩) with h1|h1
  ·left; simp only [List.length_cons]; omega
  ·left; rw [h1]; simp only [List.length_singleton]; omega
section
variable {n : Qag} {t : Qaf} {stops : List Qap} {start : Int} {rests : List Bool}
theorem StB.len {k:Nat} {P:List (List Bool)} (h:StB n t stops start rests k P):P.length≤2 ^ k:=by
 rcases QEJ (lo:=0) (hi:=2 ^ k) h.inc (fun b hb=>⟨Nat.zero_le _,by have:=QHf b; rwa [(h.ok b hb).2.1] at this⟩) with h1|h1
 ·omega
 ·rw [h1]; exact Nat.zero_le _
end
end Go.Proofs.YtbilkblifgaflaaGreatDoor
