/- Part MQ of the proof: texts Lqm Lqn Lqo LqoT Lqv Lqw Lqx Lqy Lqy2 Lqy3 Lqyl. -/
import Derived.Test.YtfjiafgldchinaaGreatDoorMP
namespace Go.Proofs.YtfjiafgldchinaaGreatDoor
set_option linter.unusedSimpArgs false
set_option linter.unusedVariables false
set_option linter.unusedSectionVars false
section
variable (n : Qak) (t : Qag) (stops : List Qar)
noncomputable def runK:List Bool→Nat→QaJ→QaJ×Int
 | [],_,l=>(l,0)
 | b :: r,k,l=>if (nxt n t stops l k b).2≠0 then (zLab,(nxt n t stops l k b).2) else runK r (k+1) (nxt n t stops l k b).1
noncomputable def runD:List Bool→Nat→QaJ→List Int
 | [],_,_=>[]
 | b :: r,k,l=>(nxt n t stops l k b).1.since :: runD r (k+1) (nxt n t stops l k b).1
def begS (start:Int):QaJ:=QaJ.mk (max t.open_ start) 0 QtP
noncomputable def runS (start:Int) (rests:List Bool):Qap×Int :=
 if (runK n t stops rests 0 (begS t start)).2≠0 then (QtP,(runK n t stops rests 0 (begS t start)).2) else ((runK n t stops rests 0 (begS t start)).1.sheet,0)
end
section
variable {n : Qak} {t : Qag} {stops : List Qar} {l : QaJ} {k : Nat} {b : Bool}
theorem Qw1 (h:Qqi n t stops) {start:Int} (hs:0≤start∧start≤4096):LabI 0 (begS t start):=by
 have h1:=h.opn; have h2:=h.close
 refine ⟨?_,?_,Int.le_refl _,by show (0:Int)≤4096; omega,Int.le_refl _,Int.le_refl _,rfl⟩
 ·show 0≤max t.open_ start; omega
 ·show max t.open_ start≤8192; omega
theorem QFB {x:Qab} {s:Qav} (hn:QCo x.net) (ht:inT s.time) (hd:0≤s.driven∧s.driven≤4096) (hm:0≤s.miles∧s.miles≤1000000) (to_ close late:Int) :
  QcV x t s to_ close late=some (if (goN x.net t.profile s.place to_ s.time).2.2≠0 then (s,12) else if close<(goN x.net t.profile s.place to_ s.time).1 then (s,late)
   else if t.drive<s.driven+(goN x.net t.profile s.place to_ s.time).1-s.time then (s,16)
   else (Qav.mk to_ (goN x.net t.profile s.place to_ s.time).1 (s.driven+(goN x.net t.profile s.place to_ s.time).1-s.time) (s.miles+(goN x.net t.profile s.place to_ s.time).2.1),0)):=by
 unfold QcV QkL
 show bnd (bnd (Qey x.net t.profile s.place to_ s.time) _) _=_
 rw [Quj hn _ _ _ ht,Qaj,Qaj]
 by_cases h0:(goN x.net t.profile s.place to_ s.time).2.2=0
 ·have hb:=QtT hn ht h0
  unfold inT at ht
  rw [Qbj (by simpa using h0),if_neg (by simpa using h0)]
  simp (disch:=omega) only [addI,subI,QCu,Qwg]
  split
  ·rfl
  ·split <;> rfl
 ·rw [QaW (by simpa using h0),if_pos h0]
def stS (t:Qag) (stops:List Qar) (l:QaJ) (k:Nat) (b:Bool):Qav:=Qav.mk (Qrd t stops k) (depS t l b) (sinS l b) l.sheet.miles
theorem QAg {ts:List QaF} {a m d:Int} {e:Bool} {dep:Int}:QD9 (ts++[QaF.mk a m d e]) ts.length dep b=ts++[QaF.mk a m dep b]:=by
 unfold QD9
 rw [List.getElem?_append_right (Nat.le_refl _),Nat.sub_self]
 show (ts++[QaF.mk a m d e]).set ts.length (QaF.mk a m dep b)=_
 rw [List.set_append_right _ _ (Nat.le_refl _),Nat.sub_self]
 rfl
theorem QFC {x:Qab} {r:Qam} (hp:QtX x r=true) (hk:k<r.visits.length):∃ v,r.visits[k]?=some v∧Qdr x v=some (stopK t (QaI x r) k,true):=by
 obtain ⟨v,h1,h2⟩:=QwP hp (QEm (t:=t) (by rw [QiR]; exact hk))
 exact ⟨v,h1,by rw [Quk,h2]⟩
theorem QAL {x:Qab} {to_ close late:Int} (hx:QaV x) (hT:Qqi x.net t stops) (hL:LabI k l) (hk:k≤20) (h1:(stopK t stops k).place=to_) (h2:(stopK t stops k).close=close) (h3:(if k<stops.length then 14 else 15)=late) :
  ∃ X,QcV x t (stS t stops l k b) to_ close late=some X∧X.2=(nxt x.net t stops l k b).2 ∧
   ((nxt x.net t stops l k b).2=0→X=(Qav.mk to_ (goN x.net t.profile (Qrd t stops k) (stopK t stops k).place (depS t l b)).1 (sinS l b+(goN x.net t.profile (Qrd t stops k) (stopK t stops k).place (depS t l b)).1-depS t l b) (l.sheet.miles+(goN x.net t.profile (Qrd t stops k) (stopK t stops k).place (depS t l b)).2.1),0)):=by
 have hin:=Qyl (rest:=b) hT hL
 have hsn:0≤sinS l b∧sinS l b≤4096:=by have:=hL.since0; have:=hL.since1; unfold sinS; split <;> omega
 have hm0:=hL.miles0; have hm1:=hL.miles1
 have hstep:=QFB (t:=t) (s:=stS t stops l k b) hx.net hin hsn ⟨hm0,by show l.sheet.miles≤1000000; omega⟩ to_ close late
 subst h1 h2 h3
 refine ⟨_,hstep,?_,fun h0=>?_⟩
 ·unfold nxt nxtD
  show (if (goN x.net t.profile (Qrd t stops k) (stopK t stops k).place (depS t l b)).2.2≠0 then _ else if (stopK t stops k).close<(goN x.net t.profile (Qrd t stops k) (stopK t stops k).place (depS t l b)).1 then _ else if t.drive<sinS l b+(goN x.net t.profile (Qrd t stops k) (stopK t stops k).place (depS t l b)).1-depS t l b then _ else _:Qav×Int).2=_
  split
  ·rfl
  ·split
   ·rfl
   ·split <;> rfl
 ·obtain ⟨g0,g1,g2,g3⟩:=Qwr hT hL h0
  show (if (goN x.net t.profile (Qrd t stops k) (stopK t stops k).place (depS t l b)).2.2≠0 then _ else if (stopK t stops k).close<(goN x.net t.profile (Qrd t stops k) (stopK t stops k).place (depS t l b)).1 then _ else if t.drive<sinS l b+(goN x.net t.profile (Qrd t stops k) (stopK t stops k).place (depS t l b)).1-depS t l b then _ else _:Qav×Int)=_
  rw [if_neg (by simpa using g0),if_neg (by omega),if_neg (by omega)]
  rfl
theorem QAr {x : Qab} {r : Qam} {rests : List Bool} (hx : QaV x) (hv : r.visits.length ≤ 1048576) : QgH x r rests = some (if QtX x r = true ∧ rests.length = r.visits.length + 1 then
      ((runS x.net (typS x r) (QaI x r) r.start rests).1, if (runS x.net (typS x r) (QaI x r) r.start rests).2 = 0 then runD x.net (typS x r) (QaI x r) rests 0 (begS (typS x r) r.start) else [], (runS x.net (typS x r) (QaI x r) r.start rests).2) else (QtP, [], 2)) := by
  unfold QgH
  show bnd (QcB x r) _ = _
  rw [QCZ, Qaj]
  have hadd : addK .i64 (lenI r.visits) 1 = (r.visits.length : Int) + 1 := by unfold lenI; exact addI (by omega) (by omega)
  rw [hadd]
  by_cases hc : QtX x r = true ∧ rests.length = r.visits.length + 1
  · obtain ⟨hp, hr⟩ := hc
    have h5 := of_decide_eq_true (Qp9 hp)
    have hT := QEq hx hp
    rw [if_pos ⟨hp, hr⟩, hp, QaW (by simp only [Bool.not_true, Bool.false_or, QvF, lenI]; omega), (QC6 (Qp9 hp)).1, Qaj]
    have e0 : rests[0]? = some (rests[0]'(by omega)) := List.getElem?_eq_getElem _
    rw [show getI rests 0 = some (rests[0]'(by omega)) from QaR (k := 0) e0, Qaj]
    have hL0 := Qw1 hT ⟨h5.2.2.1, h5.2.2.2.1⟩
    have hrest : ∀ (s : Qav) (b : Bool), 0 ≤ s.time ∧ s.time ≤ 20000 → QfV (typS x r) s b = some (Qav.mk s.place (s.time + (if b = true then (typS x r).rest_ else 0)) (if b = true then 0 else s.driven) s.miles) := by
      intro s b hs
      have := hT.rest
      unfold QfV
      cases b with
      | true => rw [QcK, addI (by omega) (by omega)]; rfl
      | false => rw [Qca]; simp
    have hmx : maxI (typS x r).open_ r.start = (begS (typS x r) r.start).ready := by rw [Qxz]; rfl
    rw [hmx, hrest _ _ ⟨hL0.ready0, by have := hL0.ready1; show (begS (typS x r) r.start).ready ≤ 20000; omega⟩, Qaj]
    generalize hb0 : rests[0]'(by omega) = b0 at e0
    have hst0 : Qav.mk (typS x r).from_ ((begS (typS x r) r.start).ready + (if b0 = true then (typS x r).rest_ else 0)) (if b0 = true then 0 else 0) 0 = stS (typS x r) (QaI x r) (begS (typS x r) r.start) 0 b0 := rfl
    show bnd (QaK _ ([], [], Qav.mk (typS x r).from_ ((begS (typS x r) r.start).ready + (if b0 = true then (typS x r).rest_ else 0)) (if b0 = true then 0 else 0) 0, depS (typS x r) (begS (typS x r) r.start) b0, 0)) _ = _
    rw [hst0]
    apply post.eq
    have hsl := QiR (x := x) (r := r)
    -- what the loop over the visits comes to
    refine QaP (R := fun e : (List Int × List QaF × Qav × Int) ⊕ (Qap × List Int × Int) =>
      (∃ err, err ≠ 0 ∧ e = .inr (QtP, [], err) ∧ (runK x.net (typS x r) (QaI x r) rests 0 (begS (typS x r) r.start)).2 = err) ∨
      (∃ (l : QaJ) (b : Bool) (dr : List Int) (dep : Int), LabI r.visits.length l ∧ e = .inl (dr, Qo9 l r.visits.length (depS (typS x r) l b) b, stS (typS x r) (QaI x r) l r.visits.length b, dep) ∧ dr.length = r.visits.length ∧
        (if r.visits.length = 0 then b else l.sheet.rest_) = b0 ∧ (if r.visits.length = 0 then depS (typS x r) l b else l.sheet.depart) = dep ∧
        runK x.net (typS x r) (QaI x r) [b] r.visits.length l = runK x.net (typS x r) (QaI x r) rests 0 (begS (typS x r) r.start) ∧
        dr ++ runD x.net (typS x r) (QaI x r) [b] r.visits.length l = runD x.net (typS x r) (QaI x r) rests 0 (begS (typS x r) r.start))) ?_ ?_
    · refine Qct (fun s => ∃ (k : Nat) (l : QaJ) (b : Bool) (dr : List Int) (dep : Int), k ≤ r.visits.length ∧ LabI k l ∧ rests[k]? = some b ∧ s = (dr, Qo9 l k (depS (typS x r) l b) b, stS (typS x r) (QaI x r) l k b, dep, (k : Int)) ∧ dr.length = k ∧
        (if k = 0 then b else l.sheet.rest_) = b0 ∧ (if k = 0 then depS (typS x r) l b else l.sheet.depart) = dep ∧
        runK x.net (typS x r) (QaI x r) (rests.drop k) k l = runK x.net (typS x r) (QaI x r) rests 0 (begS (typS x r) r.start) ∧
        dr ++ runD x.net (typS x r) (QaI x r) (rests.drop k) k l = runD x.net (typS x r) (QaI x r) rests 0 (begS (typS x r) r.start)) (fun s => r.visits.length - s.2.2.2.2.toNat)
        ⟨0, _, b0, [], _, Nat.zero_le _, hL0, e0, rfl, rfl, rfl, rfl, rfl, rfl⟩ (by simp; omega) ?_
      rintro _ ⟨k, l, b, dr, dep, hk, hL, hbk, rfl, hdr, hq1, hq2, hf, hfd⟩
      show post (Qes x r rests (typS x r) b0 dr (Qo9 l k (depS (typS x r) l b) b) (stS (typS x r) (QaI x r) l k b) dep (k : Int)) _
      unfold Qes
      have hkr : k < rests.length := (List.getElem?_eq_some_iff.1 hbk).1
      have hcons : rests.drop k = b :: rests.drop (k + 1) := by
        rw [List.drop_eq_getElem_cons hkr]; congr 1; rw [List.getElem?_eq_getElem hkr] at hbk; exact Option.some.inj hbk
      refine QaE (fun hb => ?_) (fun hb => Qcg (.inr ?_))
      · simp only [Qoi, lenI] at hb
        have hk' : k < r.visits.length := by omega
        obtain ⟨v, hv1, hv2⟩ := QFC (t := typS x r) hp hk'
        rw [hcons] at hf hfd
        simp only [runK, runD] at hf hfd
        rw [QaR hv1, Qaj]
        show post (bnd (Qdr x v) fun r3 => bnd (QcV x (typS x r) (stS (typS x r) (QaI x r) l k b) r3.1.place r3.1.close 14) _) _
        have hin := Qyl (rest := b) hT hL
        have hsn : 0 ≤ sinS l b ∧ sinS l b ≤ 4096 := by have := hL.since0; have := hL.since1; unfold sinS; split <;> omega
        have hm0 := hL.miles0; have hm1 := hL.miles1
        obtain ⟨X, hX1, hX2, hX3⟩ := QAL (b := b) hx hT hL (by have := h5.2.2.2.2; omega) (to_ := (stopK (typS x r) (QaI x r) k).place) (close := (stopK (typS x r) (QaI x r) k).close) (late := 14) rfl rfl (by rw [if_pos (by rw [hsl]; exact hk')])
        rw [hv2, Qaj, hX1, Qaj]
        by_cases h0 : (nxt x.net (typS x r) (QaI x r) l k b).2 = 0
        · obtain ⟨g0, g1, g2, g3⟩ := Qwr hT hL h0
          have hL' := QxL hT hL (by rw [hsl]; exact hk') h0
          have hX4 := hX3 h0
          rw [if_neg (by simpa using h0)] at hf
          have hb1 : rests[k + 1]? = some (rests[k + 1]'(by omega)) := List.getElem?_eq_getElem _
          have hgb := QtT hx.net hin g0
          have hS := hT.stopK k
          have h51 := hS.open0; have h52 := hS.open1; have h53 := hS.close; have h54 := hS.serv0; have h55 := hS.serv1
          have hin' := hin
          unfold inT at hin'
          rw [QaW (by rw [hX2]; simpa using h0), hX4]
          simp only
          have hkl : k < (QaI x r).length := by rw [hsl]; exact hk'
          have hplace : Qrd (typS x r) (QaI x r) (k + 1) = (stopK (typS x r) (QaI x r) k).place := by
            show ((QaI x r).getD k QBa).place = ((QaI x r).getD k (endS (typS x r))).place
            rw [List.getD_eq_getElem?_getD, List.getD_eq_getElem?_getD, List.getElem?_eq_getElem hkl]; rfl
          generalize hgg : goN x.net (typS x r).profile (Qrd (typS x r) (QaI x r) k) (stopK (typS x r) (QaI x r) k).place (depS (typS x r) l b) = g at *
          generalize hl' : (nxt x.net (typS x r) (QaI x r) l k b).1 = l' at *
          have hdrl : (dr ++ [sinS l b + g.1 - depS (typS x r) l b]).length = k + 1 := by rw [List.length_append, hdr]; rfl
          refine Qbc (Qek (by rw [hdrl]; omega)) ?_
          rw [inc (n := r.visits.length) hk' (by omega), show (k : Int) + 1 = ((k + 1 : Nat) : Int) by omega, QaR hb1, Qaj]
          generalize rests[k + 1]'(by omega) = b' at hb1
          rw [Qxz, addI (by omega) (by omega), hrest _ _ ⟨by show 0 ≤ max g.1 _ + _; omega, by show max g.1 _ + _ ≤ 20000; omega⟩, Qaj]
          refine Qbc (Qek (by rw [List.length_append, Qpa, hL.times]; simp; omega)) (Qc4 ⟨⟨k + 1, l', b', dr ++ [sinS l b + g.1 - depS (typS x r) l b], dep, by omega, hL', hb1, ?_, hdrl, ?_, ?_, hf, ?_⟩, by simp; omega⟩)
          · rw [g3]
            have ht1 : (Qo9 l k (depS (typS x r) l b) b).length = k := by rw [Qpa, hL.times]
            have ht2 : Qo9 (QaJ.mk (max g.1 (stopK (typS x r) (QaI x r) k).open_ + (stopK (typS x r) (QaI x r) k).service) (sinS l b + g.1 - depS (typS x r) l b) (shS (typS x r) (QaI x r) l k b (depS (typS x r) l b) g)) (k + 1) (max g.1 (stopK (typS x r) (QaI x r) k).open_ + (stopK (typS x r) (QaI x r) k).service + (if b' = true then (typS x r).rest_ else 0)) b' =
                Qo9 l k (depS (typS x r) l b) b ++ [QaF.mk g.1 (max g.1 (stopK (typS x r) (QaI x r) k).open_) (max g.1 (stopK (typS x r) (QaI x r) k).open_ + (stopK (typS x r) (QaI x r) k).service + (if b' = true then (typS x r).rest_ else 0)) b'] := by
              show QD9 (if k < (QaI x r).length then Qo9 l k (depS (typS x r) l b) b ++ [QaF.mk g.1 (max g.1 (stopK (typS x r) (QaI x r) k).open_) 0 false] else _) k _ b' = _
              rw [if_pos hkl]
              have := QAg (b := b') (ts := Qo9 l k (depS (typS x r) l b) b) (a := g.1) (m := max g.1 (stopK (typS x r) (QaI x r) k).open_) (d := 0) (e := false) (dep := max g.1 (stopK (typS x r) (QaI x r) k).open_ + (stopK (typS x r) (QaI x r) k).service + (if b' = true then (typS x r).rest_ else 0))
              rw [ht1] at this
              exact this
            show (_, _, _, _, _) = (_, Qo9 _ (k + 1) (max g.1 (stopK (typS x r) (QaI x r) k).open_ + (stopK (typS x r) (QaI x r) k).service + (if b' = true then (typS x r).rest_ else 0)) b', _, _, _)
            rw [ht2]
            unfold stS
            rw [hplace]
            rfl
          · rw [if_neg (by omega), g3]; exact hq1
          · rw [if_neg (by omega), g3]; exact hq2
          · rw [← hfd, List.append_assoc, g3]; rfl
        · rw [Qbj (by rw [hX2]; simpa using h0), hX2]
          rw [if_pos h0] at hf
          exact Qcg (.inl ⟨_, h0, rfl, by rw [← hf]⟩)
      · simp only [QoX, lenI] at hb
        have hkv : k = r.visits.length := by omega
        subst hkv
        have hd1 : rests.drop (r.visits.length + 1) = [] := List.drop_eq_nil_of_le (by omega)
        rw [hcons, hd1] at hf hfd
        exact ⟨l, b, dr, dep, hL, rfl, hdr, hq1, hq2, hf, hfd⟩
    · unfold runS
      rintro e (⟨err, h1, rfl, h2⟩ | ⟨l, b, dr, dep, hL, rfl, hdr, hq1, hq2, hf, hfd⟩)
      · rw [Qm6, h2, if_pos h1]
        refine Qaw.2 ?_
        simp only
        rw [if_neg h1]
      · rw [Qdm]
        obtain ⟨X, hX1, hX2, hX3⟩ := QAL (b := b) hx hT hL (by have := h5.2.2.2.2; omega) (to_ := (typS x r).to_) (close := (typS x r).close) (late := 15) (by rw [Qq6 (by rw [hsl]; omega)]; rfl) (by rw [Qq6 (by rw [hsl]; omega)]; rfl) (by rw [if_neg (by rw [hsl]; omega)])
        show post (bnd (QcV x (typS x r) (stS (typS x r) (QaI x r) l r.visits.length b) (typS x r).to_ (typS x r).close 15) _) _
        rw [hX1, Qaj]
        simp only [runK, runD] at hf hfd
        by_cases h0 : (nxt x.net (typS x r) (QaI x r) l r.visits.length b).2 = 0
        · obtain ⟨g0, g1, g2, g3⟩ := Qwr hT hL h0
          rw [if_neg (by simpa using h0)] at hf
          rw [QaW (by rw [hX2]; simpa using h0), hX3 h0, ← hf, ← hfd]
          refine Qbc (Qek (by simp; omega)) (Qaw.2 ?_)
          simp only [ne_eq, not_true_eq_false, if_false, if_true]
          rw [g3]
          unfold shS
          have hnl : ¬ r.visits.length < (QaI x r).length := by rw [hsl]; omega
          rw [hq1, hq2, if_neg hnl, if_neg hnl]
        · rw [if_pos h0] at hf
          rw [Qbj (by rw [hX2]; simpa using h0), ← hf, hX2]
          refine Qaw.2 ?_
          simp only
          rw [if_pos h0, if_neg h0]; rfl
  · rw [if_neg hc]
    rw [Qbj]
    · rfl
    · by_cases hp : QtX x r = true
      · simp only [hp, Bool.not_true, Bool.false_or, Qyy, lenI]
        intro h; exact hc ⟨hp, by omega⟩
      · simp [hp]
end
end Go.Proofs.YtfjiafgldchinaaGreatDoor
namespace Go.Proofs.YtfjiafgldchinaaGreatDoor
set_option linter.unusedSimpArgs false
set_option linter.unusedVariables false
set_option linter.unusedSectionVars false
section
variable (n : Qak) (t : Qag) (stops : List Qar) (start : Int) (rests : List Bool)
noncomputable def labK:Nat→QaJ
 | 0=>begS t start
 | k+1=>(nxt n t stops (labK k) k (rests.getD k false)).1
noncomputable def depK (k:Nat):Int:=depS t (labK n t stops start rests k) (rests.getD k false)
noncomputable def goK (k:Nat):Int×Int×Int:=goN n t.profile (Qrd t stops k) (stopK t stops k).place (depK n t stops start rests k)
end
section
variable {n : Qak} {t : Qag} {stops : List Qar} {start : Int} {rests : List Bool}
theorem QAx:∀ (m k:Nat),m+k=rests.length→(runK n t stops (rests.drop k) k (labK n t stops start rests k)).2=0 →
  (∀ j,k≤j→j<rests.length→(nxt n t stops (labK n t stops start rests j) j (rests.getD j false)).2=0)∧runK n t stops (rests.drop k) k (labK n t stops start rests k)=(labK n t stops start rests rests.length,0)
 | 0,k,hm,h=>by
  have hk:k=rests.length:=by omega
  subst hk
  rw [List.drop_length]
  exact ⟨fun j h1 h2=>by omega,rfl⟩
 | m+1,k,hm,h=>by
  have hk:k<rests.length:=by omega
  have hg:rests.getD k false=rests[k]:=by rw [List.getD_eq_getElem?_getD,List.getElem?_eq_getElem hk]; rfl
  rw [List.drop_eq_getElem_cons hk] at h ⊢
  simp only [runK] at h ⊢
  rw [← hg] at h ⊢
  by_cases h0:(nxt n t stops (labK n t stops start rests k) k (rests.getD k false)).2=0
  ·rw [if_neg (by simpa using h0)] at h ⊢
   obtain ⟨h1,h2⟩:=QAx m (k+1) (by omega) h
   refine ⟨fun j hj hj'=>?_,h2⟩
   rcases Nat.lt_or_ge k j with h'|h'
   ·exact h1 j h' hj'
   ·obtain rfl:j=k:=by omega
    exact h0
  ·rw [if_pos h0] at h; exact absurd h h0
structure Okay (n:Qak) (t:Qag) (stops:List Qar) (start:Int) (rests:List Bool):Prop where
 trip:Qqi n t stops
 st:0≤start∧start≤4096
 len:rests.length=stops.length+1
 all:∀ j,j<rests.length→(nxt n t stops (labK n t stops start rests j) j (rests.getD j false)).2=0
theorem QFm (hT:Qqi n t stops) (hs:0≤start∧start≤4096) (hl:rests.length=stops.length+1) (h:(runS n t stops start rests).2=0) :
  Okay n t stops start rests∧(runS n t stops start rests).1=(labK n t stops start rests rests.length).sheet:=by
 unfold runS at h ⊢
 split at h
 ·rename_i h1; exact absurd h h1
 ·rename_i h1
  rw [if_neg h1]
  have h2:(runK n t stops rests 0 (begS t start)).2=0:=by simpa using h1
  obtain ⟨h3,h4⟩:=QAx rests.length 0 (by omega) h2
  refine ⟨⟨hT,hs,hl,fun j hj=>h3 j (Nat.zero_le _) hj⟩,?_⟩
  have h5:runK n t stops rests 0 (begS t start)=(labK n t stops start rests rests.length,0):=h4
  rw [h5]
section
variable (h : Okay n t stops start rests)
include h
theorem Okay.lab:∀ k,k≤stops.length→LabI k (labK n t stops start rests k)
 | 0,_=>Qw1 h.trip h.st
 | k+1,hk=>QxL h.trip (Okay.lab k (by omega)) (by omega) (h.all k (by rw [h.len]; omega))
theorem Okay.step {k:Nat} (hk:k≤stops.length) :
  (goK n t stops start rests k).2.2=0∧(goK n t stops start rests k).1≤(stopK t stops k).close ∧
  labK n t stops start rests (k+1)=QaJ.mk (max (goK n t stops start rests k).1 (stopK t stops k).open_+(stopK t stops k).service) (sinS (labK n t stops start rests k) (rests.getD k false)+(goK n t stops start rests k).1-depK n t stops start rests k)
   (shS t stops (labK n t stops start rests k) k (rests.getD k false) (depK n t stops start rests k) (goK n t stops start rests k)):=by
 obtain ⟨g0,g1,g2,g3⟩:=Qwr h.trip (Okay.lab h k hk) (h.all k (by rw [h.len]; omega))
 exact ⟨g0,g1,g3⟩
theorem Okay.dep {k:Nat} (hk:k≤stops.length):inT (depK n t stops start rests k):=Qyl h.trip (Okay.lab h k hk)
theorem Okay.go {k:Nat} (hk:k≤stops.length):depK n t stops start rests k≤(goK n t stops start rests k).1:=(QtT h.trip.net (Okay.dep h hk) (Okay.step h hk).1).1
theorem Okay.ready {k:Nat} (hk:k≤stops.length):(labK n t stops start rests (k+1)).ready=max (goK n t stops start rests k).1 (stopK t stops k).open_+(stopK t stops k).service:=by rw [(Okay.step h hk).2.2]
theorem Okay.since {k:Nat} (hk:k≤stops.length):(labK n t stops start rests (k+1)).since=sinS (labK n t stops start rests k) (rests.getD k false)+(goK n t stops start rests k).1-depK n t stops start rests k:=by rw [(Okay.step h hk).2.2]
theorem Okay.miles {k:Nat} (hk:k≤stops.length):(labK n t stops start rests (k+1)).sheet.miles=(labK n t stops start rests k).sheet.miles+(goK n t stops start rests k).2.1:=by rw [(Okay.step h hk).2.2]; rfl
theorem Okay.headr:∀ {k:Nat},k≤stops.length→(labK n t stops start rests (k+1)).sheet.rest_=rests.getD 0 false∧(labK n t stops start rests (k+1)).sheet.depart=depK n t stops start rests 0
 | 0,hk=>by rw [(Okay.step h hk).2.2]; exact ⟨rfl,rfl⟩
 | k+1,hk=>by
  have:=Okay.headr (k:=k) (by omega)
  rw [(Okay.step h hk).2.2]
  exact this
theorem Okay.patched (k:Nat) (hk:k≤stops.length) (ih:∀ i,i<k →
  (labK n t stops start rests k).sheet.times[i]?=some (if i+1<k then QaF.mk (goK n t stops start rests i).1 (max (goK n t stops start rests i).1 (stopK t stops i).open_) (depK n t stops start rests (i+1)) (rests.getD (i+1) false)
   else QaF.mk (goK n t stops start rests i).1 (max (goK n t stops start rests i).1 (stopK t stops i).open_) 0 false)) (i:Nat) (hi:i<k) :
  (Qo9 (labK n t stops start rests k) k (depK n t stops start rests k) (rests.getD k false))[i]?=some (QaF.mk (goK n t stops start rests i).1 (max (goK n t stops start rests i).1 (stopK t stops i).open_) (depK n t stops start rests (i+1)) (rests.getD (i+1) false)):=by
  have hlen:=(Okay.lab h k hk).times
  unfold Qo9 QD9
  rw [if_neg (by omega)]
  have hl:=ih (k-1) (by omega)
  rw [if_neg (by omega)] at hl
  rw [hl]
  simp only
  rw [List.getElem?_set]
  by_cases hc:k-1=i
  ·rw [if_pos hc,if_pos (by omega)]
   subst hc
   rw [show k-1+1=k by omega]
  ·rw [if_neg hc,ih i hi,if_pos (by omega)]
theorem Okay.entries:∀ {k:Nat},k≤stops.length→∀ i,i<k →
  (labK n t stops start rests k).sheet.times[i]?=some (if i+1<k then QaF.mk (goK n t stops start rests i).1 (max (goK n t stops start rests i).1 (stopK t stops i).open_) (depK n t stops start rests (i+1)) (rests.getD (i+1) false)
   else QaF.mk (goK n t stops start rests i).1 (max (goK n t stops start rests i).1 (stopK t stops i).open_) 0 false)
 | 0,_,i,hi=>by omega
 | k+1,hk,i,hi=>by
  have hlen:=(Okay.lab h k (by omega)).times
  have htl:(Qo9 (labK n t stops start rests k) k (depK n t stops start rests k) (rests.getD k false)).length=k:=by rw [Qpa,hlen]
  have e:(labK n t stops start rests (k+1)).sheet.times=Qo9 (labK n t stops start rests k) k (depK n t stops start rests k) (rests.getD k false)++[QaF.mk (goK n t stops start rests k).1 (max (goK n t stops start rests k).1 (stopK t stops k).open_) 0 false]:=by
   rw [(Okay.step h (by omega)).2.2]
   show (if k<stops.length then _ else _:List QaF)=_
   rw [if_pos (by omega)]
  rw [e]
  by_cases hik:i<k
  ·rw [List.getElem?_append_left (by omega),if_pos (by omega)]
   exact Okay.patched h k (by omega) (Okay.entries (by omega)) i hik
  ·obtain rfl:i=k:=by omega
   rw [List.getElem?_append_right (by omega),htl,Nat.sub_self,if_neg (by omega)]; rfl
theorem Okay.final:(labK n t stops start rests rests.length).sheet.times.length=stops.length∧(∀ i,i<stops.length→(labK n t stops start rests rests.length).sheet.times[i]?=some (QaF.mk (goK n t stops start rests i).1 (max (goK n t stops start rests i).1 (stopK t stops i).open_) (depK n t stops start rests (i+1)) (rests.getD (i+1) false))) ∧
  (labK n t stops start rests rests.length).sheet.end_=(goK n t stops start rests stops.length).1:=by
 have hst:=(Okay.step h (k:=stops.length) (Nat.le_refl _)).2.2
 have hlab:=Okay.lab h stops.length (Nat.le_refl _)
 rw [h.len,hst]
 have hn:¬ stops.length<stops.length:=Nat.lt_irrefl _
 refine ⟨?_,fun i hi=>?_,?_⟩
 ·show (if stops.length<stops.length then _ else _:List QaF).length=_
  rw [if_neg hn,Qpa,hlab.times]
 ·show (if stops.length<stops.length then _ else _:List QaF)[i]?=_
  rw [if_neg hn]
  exact Okay.patched h stops.length (Nat.le_refl _) (fun i hi=>Okay.entries h (Nat.le_refl _) i hi) i hi
 ·show (if stops.length<stops.length then _ else _:Int)=_
  rw [if_neg hn]
end
end
end Go.Proofs.YtfjiafgldchinaaGreatDoor
namespace Go.Proofs.YtfjiafgldchinaaGreatDoor
set_option linter.unusedSimpArgs false
set_option linter.unusedVariables false
set_option linter.unusedSectionVars false
noncomputable def runR (x:Qab) (r:Qam) (rests:List Bool):Qap×Int:=if QtX x r=true∧rests.length=r.visits.length+1 then runS x.net (typS x r) (QaI x r) r.start rests else (QtP,2)
theorem QAq {x:Qab} {r:Qam} {rests:List Bool} (hx:QaV x) (hv:r.visits.length≤1048576):Qd1 x r rests=some (runR x r rests):=by
 unfold Qd1 runR
 show bnd (QgH x r rests) _=_
 rw [QAr hx hv,Qaj]
 split <;> rfl
end Go.Proofs.YtfjiafgldchinaaGreatDoor
namespace Go.Proofs.YtfjiafgldchinaaGreatDoor
set_option linter.unusedSimpArgs false
set_option linter.unusedVariables false
set_option linter.unusedSectionVars false
theorem Qzw {l:List Bool} {i:Nat} (h:i<l.length):l[i]?=some (l.getD i false):=by rw [List.getD_eq_getElem?_getD,List.getElem?_eq_getElem h]; rfl
end Go.Proofs.YtfjiafgldchinaaGreatDoor
namespace Go.Proofs.YtfjiafgldchinaaGreatDoor
set_option linter.unusedSimpArgs false
set_option linter.unusedVariables false
set_option linter.unusedSectionVars false
def Qtt (s:Qap):List Bool:=s.rest_ :: s.times.map (·.rest_)
noncomputable def QGl (x:Qab) (r:Qam) (s:Qap):Int :=
 if QtX x r=true∧r.rests.length≤r.visits.length+1∧s.times.length=r.visits.length then
  if (Qtt s).take r.rests.length=r.rests then
   if (runR x r (Qtt s)).2≠0 then (runR x r (Qtt s)).2 else if s=(runR x r (Qtt s)).1 then 0 else 9
  else 9
 else 2
section
variable {x : Qab} {r : Qam} {s : Qap}
theorem v2 (h:¬ (QtX x r=true∧r.rests.length≤r.visits.length+1∧s.times.length=r.visits.length)):QGl x r s=2:=if_neg h
end
end Go.Proofs.YtfjiafgldchinaaGreatDoor
namespace Go.Proofs.YtfjiafgldchinaaGreatDoor
set_option linter.unusedSimpArgs false
set_option linter.unusedVariables false
set_option linter.unusedSectionVars false
def valB (b:List Bool):Nat:=b.foldl (fun v c=>2*v+(if c=true then 1 else 0)) 0
theorem QCi (b:List Bool) (c:Bool):valB (b++[c])=2*valB b+(if c=true then 1 else 0):=by simp [valB,List.foldl_append]
theorem QFE (b:List Bool):valB b<2 ^ b.length:=by
 have:∀ (b:List Bool) (v:Nat),b.foldl (fun v c=>2*v+(if c=true then 1 else 0)) v<(v+1)*2 ^ b.length:=by
  intro b
  induction b with
  | nil=>intro v; simp
  | cons c b ih =>
   intro v
   have:=ih (2*v+(if c=true then 1 else 0))
   rw [List.foldl_cons,List.length_cons,Nat.pow_succ]
   refine Nat.lt_of_lt_of_le this ?_
   rw [show (v+1)*(2 ^ b.length*2)=(2*v+2)*2 ^ b.length by rw [Nat.mul_comm (2 ^ b.length) 2,← Nat.mul_assoc]; congr 1; omega]
   exact Nat.mul_le_mul_right _ (by split <;> omega)
 simpa [valB] using this b 0
section
variable (n : Qak) (t : Qag) (stops : List Qar) (start : Int)
noncomputable def preB (b:List Bool):QaJ×Int:=runK n t stops b 0 (begS t start)
def okB (b:List Bool):Prop:=(preB n t stops start b).2=0
noncomputable def lbB (b:List Bool):QaJ:=(preB n t stops start b).1
def QGp (d b:List Bool):Prop:=(lbB n t stops start d).ready=(lbB n t stops start b).ready∧(lbB n t stops start d).since≤(lbB n t stops start b).since
open Classical in
end
section
variable {n : Qak} {t : Qag} {stops : List Qar} {start : Int}
theorem QsI:∀ (b:List Bool) (k:Nat) (l:QaJ) (c:Bool),(runK n t stops b k l).2=0→runK n t stops (b++[c]) k l=if (nxt n t stops (runK n t stops b k l).1 (k+b.length) c).2≠0 then (zLab,(nxt n t stops (runK n t stops b k l).1 (k+b.length) c).2) else ((nxt n t stops (runK n t stops b k l).1 (k+b.length) c).1,0)
 | [],k,l,c,_=>rfl
 | a :: b,k,l,c,h=>by
  by_cases h0:(nxt n t stops l k a).2=0
  ·have e:∀ r,runK n t stops (a :: r) k l=runK n t stops r (k+1) (nxt n t stops l k a).1:=fun r=>by
    simp only [runK]; rw [if_neg (by simpa using h0)]
   rw [e] at h
   have:=QsI b (k+1) _ c h
   rw [List.cons_append,e,e,this,List.length_cons,show k+1+b.length=k+(b.length+1) by omega]
  ·simp only [runK] at h
   rw [if_pos h0] at h; exact absurd h h0
theorem QAw:∀ (b:List Bool) (k:Nat) (l:QaJ) (c:Bool),(runK n t stops b k l).2≠0→(runK n t stops (b++[c]) k l).2≠0
 | [],k,l,c,h=>by simp [runK] at h
 | a :: b,k,l,c,h=>by
  simp only [runK,List.cons_append] at h ⊢
  by_cases h0:(nxt n t stops l k a).2=0
  ·rw [if_neg (by simpa using h0)] at h ⊢
   exact QAw b (k+1) _ c h
  ·rw [if_pos h0]; exact h0
theorem Qp8 {b:List Bool} {c:Bool}:okB n t stops start (b++[c])↔okB n t stops start b∧(nxt n t stops (lbB n t stops start b) b.length c).2=0:=by
 unfold okB lbB preB
 constructor
 ·intro h
  by_cases h0:(runK n t stops b 0 (begS t start)).2=0
  ·refine ⟨h0,?_⟩
   rw [QsI b 0 _ c h0,Nat.zero_add] at h
   split at h
   ·rename_i h1; exact absurd h h1
   ·rename_i h1; simpa using h1
  ·exact absurd h (QAw b 0 _ c h0)
 ·rintro ⟨h0,h1⟩
  rw [QsI b 0 _ c h0,Nat.zero_add,if_neg (by simpa using h1)]
theorem Quw {b:List Bool} {c:Bool} (h:okB n t stops start (b++[c])):lbB n t stops start (b++[c])=(nxt n t stops (lbB n t stops start b) b.length c).1:=by
 obtain ⟨h0,h1⟩:=Qp8.1 h
 unfold lbB preB at *
 unfold okB preB at h0
 rw [QsI b 0 _ c h0,Nat.zero_add,if_neg (by simpa using h1)]
theorem QxV (hT:Qqi n t stops):∀ (b:List Bool) (k:Nat) (l:QaJ),LabI k l→k+b.length≤stops.length→(runK n t stops b k l).2=0→LabI (k+b.length) (runK n t stops b k l).1
 | [],k,l,hl,_,_=>hl
 | a :: b,k,l,hl,hk,h=>by
  simp only [runK] at h ⊢
  simp only [List.length_cons] at hk
  by_cases h0:(nxt n t stops l k a).2=0
  ·rw [if_neg (by simpa using h0)] at h ⊢
   have:=QxV hT b (k+1) _ (QxL hT hl (by omega) h0) (by omega) h
   rwa [List.length_cons,show k+(b.length+1)=k+1+b.length by omega]
  ·rw [if_pos h0] at h; exact absurd h h0
theorem QDR (hT:Qqi n t stops) (hs:0≤start∧start≤4096) {b:List Bool} (hb:b.length≤stops.length) (h:okB n t stops start b):LabI b.length (lbB n t stops start b):=by
 have:=QxV hT b 0 (begS t start) (Qw1 hT hs) (by omega) h
 rwa [Nat.zero_add] at this
theorem QBi {a:List Bool}:QGp n t stops start a a:=⟨rfl,Int.le_refl _⟩
end
section
variable (rests : List Bool)
def chB (k:Nat):List Bool:=match rests[k]? with
 | some b=>[b]
 | none=>[false,true]
def folB (b:List Bool):Prop:=∀ i x,b[i]?=some x→x∈chB rests i
end
section
variable {n : Qak} {t : Qag} {stops : List Qar} {start : Int} {rests : List Bool}
structure StB (n:Qak) (t:Qag) (stops:List Qar) (start:Int) (rests:List Bool) (k:Nat) (P:List (List Bool)):Prop where
 ok:∀ b∈P,okB n t stops start b∧b.length=k∧folB rests b
 inc:P.Pairwise (fun a b=>valB a<valB b)
 cov:∀ b,b.length=k→folB rests b→okB n t stops start b→∃ a∈P,valB a≤valB b∧QGp n t stops start a b
theorem StB.zero:StB n t stops start rests 0 [[]] :=
 ⟨fun b hb=>by rw [List.mem_singleton.1 hb]; exact ⟨rfl,rfl,fun i x hx=>by simp at hx⟩,List.pairwise_singleton _ _,fun b hb _ _=>⟨[],by simp,by rw [List.length_eq_zero_iff.1 hb]; exact Nat.le_refl _,by rw [List.length_eq_zero_iff.1 hb]; exact QBi⟩⟩
end
end Go.Proofs.YtfjiafgldchinaaGreatDoor
namespace Go.Proofs.YtfjiafgldchinaaGreatDoor
set_option linter.unusedSimpArgs false
set_option linter.unusedVariables false
set_option linter.unusedSectionVars false
theorem QCL:∀ {P:List (List Bool)} {lo hi:Nat},P.Pairwise (fun a b=>valB a<valB b)→(∀ b∈P,lo≤valB b∧valB b<hi)→P.length+lo≤hi∨P=[]
 | [],_,_,_,_=>.inr rfl
 | a :: P,lo,hi,h,hb=>by
  rw [List.pairwise_cons] at h
  have ha:=hb a (by simp)
  rcases QCL (P:=P) (lo:=lo+1) (hi:=hi) h.2 (fun b hb'=>⟨by have:=h.1 b hb'; omega,(hb b (by simp [hb'])).2⟩) with h1|h1
  ·left; simp only [List.length_cons]; omega
  ·left; rw [h1]; simp only [List.length_singleton]; omega
section
variable {n : Qak} {t : Qag} {stops : List Qar} {start : Int} {rests : List Bool}
theorem StB.len {k:Nat} {P:List (List Bool)} (h:StB n t stops start rests k P):P.length≤2 ^ k:=by
 rcases QCL (lo:=0) (hi:=2 ^ k) h.inc (fun b hb=>⟨Nat.zero_le _,by have:=QFE b; rwa [(h.ok b hb).2.1] at this⟩) with h1|h1
 ·omega
 ·rw [h1]; exact Nat.zero_le _
end
end Go.Proofs.YtfjiafgldchinaaGreatDoor
namespace Go.Proofs.YtfjiafgldchinaaGreatDoor
set_option linter.unusedSimpArgs false
set_option linter.unusedVariables false
set_option linter.unusedSectionVars false
section
variable (n : Qak) (t : Qag) (stops : List Qar) (start : Int) (rests : List Bool)
def QA7 (b:List Bool):Prop:=b.length=stops.length+1∧folB rests b∧okB n t stops start b
noncomputable def endB (b:List Bool):Int:=(lbB n t stops start b).sheet.end_
def minB (b:List Bool):Prop:=∀ q,QA7 n t stops start rests q→endB n t stops start b≤endB n t stops start q∧(endB n t stops start q=endB n t stops start b→valB b≤valB q)
end
end Go.Proofs.YtfjiafgldchinaaGreatDoor
namespace Go.Proofs.YtfjiafgldchinaaGreatDoor
set_option linter.unusedSimpArgs false
set_option linter.unusedVariables false
set_option linter.unusedSectionVars false
theorem QF7 {S E:Type} {B:S→Option (S⊕E)} (C:Nat→S→Prop) (Q:E→Prop)
  (h:∀ m s,C m s→post (B s) fun x=>(∀ s',x=.inl s'→∃ m',m'<m∧C m' s')∧∀ e,x=.inr e→Q e):∀ (n m:Nat) (s:S),C m s→m<n→post (Qu7 B n s) Q:=by
 intro n
 induction n with
 | zero=>intro m s _ hm; omega
 | succ n ih =>
  intro m s hs hm
  obtain ⟨x,hx,h1,h2⟩:=h m s hs
  simp only [Qu7,hx]
  cases x with
  | inl s' =>
   obtain ⟨m',h3,h4⟩:=h1 s' rfl
   exact ih m' s' h4 (by omega)
  | inr e=>exact ⟨e,rfl,h2 e rfl⟩
theorem QGb {S E:Type} {B:S→Option (S⊕E)} (C:Nat→S→Prop) {Q:E→Prop} {s:S} (m:Nat) (hs:C m s) (hm:m<18446744073709551616)
  (h:∀ m s,C m s→post (B s) fun x=>(∀ s',x=.inl s'→∃ m',m'<m∧C m' s')∧∀ e,x=.inr e→Q e):post (QaK B s) Q:=QF7 C Q h _ m s hs hm
def Qh5:Nat→Nat→List Bool
 | 0,_=>[]
 | f+1,j=>Qh5 f (j / 2)++[decide (j % 2=1)]
theorem QsA:∀ f j,(Qh5 f j).length=f
 | 0,_=>rfl
 | f+1,j=>by rw [Qh5,List.length_append,QsA f]; rfl
theorem Qrj (f m:Nat):∀ d,Qh5 (f+d) (m*2 ^ d)=Qh5 f m++List.replicate d false
 | 0=>by simp
 | d+1=>by
  rw [show f+(d+1)=(f+d)+1 by omega,Qh5,Nat.pow_succ,← Nat.mul_assoc,Nat.mul_div_cancel _ (by omega),Qrj f m d,List.replicate_succ',List.append_assoc]
  congr 3
  rw [decide_eq_false]; omega
theorem Qqk (f:Nat):Qh5 f 0=List.replicate f false:=by
 have:=Qrj 0 0 f
 simpa [Qh5] using this
theorem Qrc (p:List Bool):∀ f j,j<2 ^ f→valB (p++Qh5 f j)=valB p*2 ^ f+j
 | 0,j,h=>by simp at h; simp [Qh5,h]
 | f+1,j,h=>by
  rw [Nat.pow_succ] at h
  rw [Qh5,← List.append_assoc,QCi,Qrc p f (j / 2) (by omega),Nat.pow_succ,← Nat.mul_assoc]
  by_cases hj:j % 2=1
  ·rw [if_pos (decide_eq_true hj)]; omega
  ·rw [if_neg (by simpa using hj)]; omega
theorem Qul:∀ (f:Nat) (s:List Bool),s.length=f→∃ j,j<2 ^ f∧s=Qh5 f j
 | 0,s,h=>⟨0,by simp,List.length_eq_zero_iff.1 h⟩
 | f+1,s,h=>by
  obtain ⟨s0,c,rfl⟩:∃ s0 c,s=s0++[c]:=by
   rcases List.eq_nil_or_concat s with rfl|⟨s0,c,rfl⟩
   ·simp at h
   ·exact ⟨s0,c,by simp⟩
  obtain ⟨j,hj,hs⟩:=Qul f s0 (by simpa using h)
  subst hs
  cases c with
  | true =>
   refine ⟨2*j+1,by rw [Nat.pow_succ]; omega,?_⟩
   rw [Qh5,show (2*j+1) / 2=j by omega,decide_eq_true (by omega)]
  | false =>
   refine ⟨2*j,by rw [Nat.pow_succ]; omega,?_⟩
   rw [Qh5,show (2*j) / 2=j by omega,decide_eq_false (by omega)]
theorem QEt {a b:List Bool} (h:a.length=b.length) (hv:valB a=valB b):a=b:=by
 obtain ⟨i,hi,ha⟩:=Qul b.length a h
 obtain ⟨j,hj,hb⟩:=Qul b.length b rfl
 have h1:=Qrc [] b.length i hi
 have h2:=Qrc [] b.length j hj
 rw [List.nil_append,← ha] at h1
 rw [List.nil_append,← hb] at h2
 have h0:valB ([]:List Bool)=0:=rfl
 rw [h0,Nat.zero_mul,Nat.zero_add] at h1 h2
 have hij:i=j:=by rw [← h1,← h2]; exact hv
 exact ha.trans (by rw [hij]; exact hb.symm)
theorem QFw {α:Type} {a b:List α} {x y:α}:(a++x :: b).set a.length y=a++y :: b:=by
 rw [List.set_append_right _ _ (Nat.le_refl _),Nat.sub_self]; rfl
theorem QyE {p:List Bool} {f j:Nat} (hl:p.length+f≤1048576) (hj:j<2 ^ f):QeT (p++Qh5 f j) (lenI p)=some (if j+1<2 ^ f then (p++Qh5 f (j+1),true) else ([],false)):=by
 apply post.eq
 unfold QeT
 have hlen:(p++Qh5 f j).length=p.length+f:=by rw [List.length_append,QsA]
 refine Qbc (Qek (by rw [hlen]; omega)) ?_
 have hst:subK .i64 (lenI (p++Qh5 f j)) 1=((p.length+f:Nat):Int)-1:=by unfold lenI; rw [hlen,subI (by omega) (by omega)]
 rw [hst]
 refine QaP (R:=fun e=>e=if j+1<2 ^ f then .inr (p++Qh5 f (j+1),true) else .inl ()) ?_ ?_
 ·refine Qct (fun s=>∃ g q d:Nat,f=g+d∧j+1=(q+1)*2 ^ d∧q<2 ^ g∧s=(p++(Qh5 g q++List.replicate d false),((p.length+g:Nat):Int)-1)) (fun s=>(s.2+1-p.length).toNat) ⟨f,j,0,rfl,by simp,hj,by simp⟩ (by simp; omega) ?_
  rintro _ ⟨g,q,d,hf,hq,hqg,rfl⟩
  show post (Qef (lenI p) (p++(Qh5 g q++List.replicate d false)) (((p.length+g:Nat):Int)-1)) _
  unfold Qef
  refine QaE (fun hb=>?_) (fun hb=>Qcg ?_)
  ·simp only [Qqs,lenI] at hb
   obtain ⟨g,rfl⟩:∃ g',g=g'+1:=⟨g-1,by omega⟩
   have hi:((p.length+(g+1):Nat):Int)-1=((p.length+g:Nat):Int):=by omega
   have hsplit:p++(Qh5 (g+1) q++List.replicate d false)=(p++Qh5 g (q / 2))++decide (q % 2=1) :: List.replicate d false:=by
    rw [Qh5]; simp
   have hpl:(p++Qh5 g (q / 2)).length=p.length+g:=by rw [List.length_append,QsA]
   have hget:((p++Qh5 g (q / 2))++decide (q % 2=1) :: List.replicate d false)[p.length+g]?=some (decide (q % 2=1)):=by
    rw [List.getElem?_append_right (by omega),hpl,Nat.sub_self]; rfl
   have hset:∀ y,setI ((p++Qh5 g (q / 2))++decide (q % 2=1) :: List.replicate d false) ((p.length+g:Nat):Int) y=(p++Qh5 g (q / 2))++y :: List.replicate d false:=fun y=>by
    unfold setI; rw [Int.toNat_natCast,← hpl,QFw]
   rw [hi,hsplit,QaR hget,Qaj,hset,hset]
   refine QaE (fun h1=>Qc4 ⟨⟨g,q / 2,d+1,by omega,?_,by rw [Nat.pow_succ] at hqg; omega,?_⟩,?_⟩) (fun h1=>Qcg ?_)
   ·have h2:=of_decide_eq_true h1
    rw [hq,Nat.pow_succ,show q+1=(q / 2+1)*2 by omega,Nat.mul_assoc,Nat.mul_comm 2]
   ·rw [subI (by omega) (by omega)]
    simp [List.replicate_succ]
   ·rw [subI (by omega) (by omega)]; simp only; omega
   ·have h2:=of_decide_eq_false h1
    rw [Nat.pow_succ] at hqg
    have h3:q+1<2 ^ (g+1):=by rw [Nat.pow_succ]; omega
    have h4:j+1<2 ^ f:=by
     rw [hq,hf,Nat.pow_add]
     exact Nat.mul_lt_mul_of_pos_right h3 (Nat.pow_pos (by omega))
    rw [if_pos h4,hq,hf,Qrj,Qh5,show (q+1) / 2=q / 2 by omega,decide_eq_true (show (q+1) % 2=1 by omega)]
    simp
  ·simp only [Qys,lenI] at hb
   obtain rfl:g=0:=by omega
   have:q=0:=by simpa using hqg
   subst this
   have h4:¬ j+1<2 ^ f:=by rw [hq,hf]; simp
   rw [if_neg h4]
 ·rintro e rfl
  split
  ·rw [Qm6]; exact Qaw.2 rfl
  ·rw [Qdm]; exact Qaw.2 rfl
section
variable {n : Qak} {t : Qag} {stops : List Qar} {start : Int} {rests : List Bool}
theorem QAy (b:List Bool):runS n t stops start b=if (preB n t stops start b).2≠0 then (QtP,(preB n t stops start b).2) else ((lbB n t stops start b).sheet,0):=rfl
theorem QuT {b:List Bool} (h:okB n t stops start b):runS n t stops start b=((lbB n t stops start b).sheet,0):=by rw [QAy,if_neg (show ¬ (preB n t stops start b).2≠0 from fun hh=>hh h)]
theorem QvL {b:List Bool} (h:¬ okB n t stops start b):(runS n t stops start b).2≠0∧runS n t stops start b=(QtP,(runS n t stops start b).2):=by
 rw [QAy,if_pos (show (preB n t stops start b).2≠0 from h)]; exact ⟨h,rfl⟩
theorem Qzu {f j:Nat}:folB rests (rests++Qh5 f j):=fun i x hx=>by
 unfold chB
 rcases Nat.lt_or_ge i rests.length with hi|hi
 ·rw [List.getElem?_append_left hi] at hx
  rw [hx]; simp
 ·rw [List.getElem?_eq_none hi]
  cases x <;> simp
theorem QE7 {b:List Bool} {f:Nat} (hl:b.length=rests.length+f) (h:folB rests b):∃ j,j<2 ^ f∧b=rests++Qh5 f j:=by
 obtain ⟨j,hj,hb⟩:=Qul f (b.drop rests.length) (by rw [List.length_drop]; omega)
 refine ⟨j,hj,?_⟩
 rw [← hb]
 have htk:b.take rests.length=rests:=by
  apply List.ext_getElem?
  intro i
  rcases Nat.lt_or_ge i rests.length with hi|hi
  ·rw [List.getElem?_take_of_lt hi]
   have e1:b[i]?=some (b[i]'(by omega)):=List.getElem?_eq_getElem _
   have:=h i _ e1
   unfold chB at this
   rw [List.getElem?_eq_getElem hi] at this
   rw [e1,List.getElem?_eq_getElem hi]
   simpa using this
  ·rw [List.getElem?_eq_none (by rw [List.length_take]; omega),List.getElem?_eq_none hi]
 conv=>lhs; rw [← List.take_append_drop rests.length b,htk]
end
def BstB (n:Qak) (t:Qag) (stops:List Qar) (start:Int) (rests:List Bool) (f j:Nat) (sh:Qap) (found:Bool):Prop :=
 (found=false→∀ i,i<j→¬ okB n t stops start (rests++Qh5 f i)) ∧
 (found=true→∃ i,i<j∧okB n t stops start (rests++Qh5 f i)∧sh=(lbB n t stops start (rests++Qh5 f i)).sheet∧∀ i',i'<j→okB n t stops start (rests++Qh5 f i') →
  endB n t stops start (rests++Qh5 f i)≤endB n t stops start (rests++Qh5 f i')∧(endB n t stops start (rests++Qh5 f i')=endB n t stops start (rests++Qh5 f i)→i≤i'))
theorem Qr7 {x:Qab} {r:Qam} (hx:QaV x) (hR:QDd r) (h9:¬ (9<r.visits.length∧r.visits.length≤20)) :
  post (QfU x r) fun res=>(¬ (QtX x r=true∧r.rests.length≤r.visits.length+1)∧res=(QtP,2)) ∨
   ((QtX x r=true∧r.rests.length≤r.visits.length+1)∧((∃ b,QA7 x.net (typS x r) (QaI x r) r.start r.rests b∧minB x.net (typS x r) (QaI x r) r.start r.rests b∧res=((lbB x.net (typS x r) (QaI x r) r.start b).sheet,0)) ∨
    ((∀ b,¬ QA7 x.net (typS x r) (QaI x r) r.start r.rests b)∧res=runS x.net (typS x r) (QaI x r) r.start (r.rests++List.replicate (r.visits.length+1-r.rests.length) false)))):=by
 have hv:=hR.visits
 have hr:=hR.rests
 unfold QfU
 show post (bnd (QcB x r) _) _
 have hadd:addK .i64 (lenI r.visits) 1=((r.visits.length+1:Nat):Int):=by unfold lenI; rw [addI (by omega) (by omega)]; omega
 rw [QCZ,Qaj,hadd]
 by_cases hp:QtX x r=true
 ·have h5:=of_decide_eq_true (Qp9 hp)
  have hsl:=QiR (x:=x) (r:=r)
  by_cases hc:r.rests.length≤r.visits.length+1
  ·rw [hp,QaW (by simp only [Bool.not_true,Bool.false_or,Qqt,lenI]; omega)]
   have hmk:mkI ((r.visits.length+1:Nat):Int) ((r.visits.length+1:Nat):Int) 1 false=some (List.replicate (r.visits.length+1) false):=by
    unfold mkI; rw [if_pos (by omega)]; simp
   obtain ⟨f,hf⟩:∃ f,f=r.visits.length+1-r.rests.length:=⟨_,rfl⟩
   have hf2:2 ^ f≤1024:=Nat.le_trans (Nat.pow_le_pow_right (by omega) (show f≤10 by omega)) (by omega)
   have hf1:1≤2 ^ f:=Nat.one_le_two_pow
   have hcpy:cpyL (List.replicate (r.visits.length+1) false) r.rests=r.rests++Qh5 f 0:=by
    rw [Qqk]
    unfold cpyL cpyN
    rw [List.length_replicate,Nat.min_eq_left hc,List.take_length,List.drop_replicate,← hf]
   have hB:∀ j,(r.rests++Qh5 f j).length=r.visits.length+1:=fun j=>by rw [List.length_append,QsA]; omega
   have hrun:∀ j,Qd1 x r (r.rests++Qh5 f j)=some (runS x.net (typS x r) (QaI x r) r.start (r.rests++Qh5 f j)):=fun j=>by
    rw [QAq hx hv]; unfold runR; rw [if_pos ⟨hp,hB j⟩]
   have hnx:∀ j,j<2 ^ f→QeT (r.rests++Qh5 f j) (lenI r.rests)=some (if j+1<2 ^ f then (r.rests++Qh5 f (j+1),true) else ([],false)):=fun j hj=>QyE (by omega) hj
   rw [hmk,Qaj,hcpy,← hf,← Qqk]
   show post (bnd (Qd1 x r (r.rests++Qh5 f 0)) _) _
   rw [hrun,Qaj,hnx 0 (by omega),Qaj]
   -- the first list
   have hB0:BstB x.net (typS x r) (QaI x r) r.start r.rests f 1 (runS x.net (typS x r) (QaI x r) r.start (r.rests++Qh5 f 0)).1 (eqI (runS x.net (typS x r) (QaI x r) r.start (r.rests++Qh5 f 0)).2 0):=by
    refine ⟨fun h i hi hok=>?_,fun h=>⟨0,by omega,?_,?_,fun i hi _=>?_⟩⟩
    ·obtain rfl:i=0:=by omega
     rw [QuT hok] at h; simp [eqI] at h
    ·exact Classical.byContradiction fun hn=>(QvL hn).1 (by simpa using h)
    ·have hok:okB x.net (typS x r) (QaI x r) r.start (r.rests++Qh5 f 0):=Classical.byContradiction fun hn=>(QvL hn).1 (by simpa using h)
     rw [QuT hok]
    ·obtain rfl:i=0:=by omega
     exact ⟨Int.le_refl _,fun _=>Nat.le_refl _⟩
   refine QaP (R:=fun e=>BstB x.net (typS x r) (QaI x r) r.start r.rests f (2 ^ f) e.1 e.2) ?_ ?_
   ·refine QGb (fun m s=>∃ j:Nat,1≤j∧j≤2 ^ f∧s.1=r.rests∧(s.2.2.2.2=true→j<2 ^ f∧s.2.2.1=r.rests++Qh5 f j)∧(s.2.2.2.2=false→j=2 ^ f)∧BstB x.net (typS x r) (QaI x r) r.start r.rests f j s.2.1 s.2.2.2.1∧m=2 ^ f-j+(if s.2.2.2.2=true then 1 else 0)) (2 ^ f-1+(if 0+1<2 ^ f then 1 else 0))
     ⟨1,Nat.le_refl _,hf1,rfl,fun h=>?_,fun h=>?_,hB0,?_⟩ (by split <;> omega) ?_
    ·by_cases h1:0+1<2 ^ f
     ·rw [if_pos h1] at h ⊢; exact ⟨by omega,rfl⟩
     ·rw [if_neg h1] at h; cases h
    ·by_cases h1:0+1<2 ^ f
     ·rw [if_pos h1] at h; cases h
     ·omega
    ·by_cases h1:0+1<2 ^ f
     ·rw [if_pos h1,if_pos h1]; rfl
     ·rw [if_neg h1,if_neg h1]; rfl
    rintro m ⟨rs,sh,cur,found,more⟩ ⟨j,hj1,hj2,hrs,hmt,hmf,hbst,hm⟩
    simp only at hrs hmt hmf hbst hm
    subst hrs
    show post (Qee x r _ _ r.rests sh cur found more) _
    unfold Qee Qfb
    cases more with
    | false =>
     have:=hmf rfl
     subst this
     exact ⟨_,rfl,fun _ h=>by (cases h),fun e he=>by cases he; exact hbst⟩
    | true =>
     obtain ⟨hjl,hcur⟩:=hmt rfl
     subst hcur
     rw [QcK]
     show post (bnd (Qd1 x r (r.rests++Qh5 f j)) _) _
     rw [hrun,Qaj,hnx j hjl]
     have leaf:∀ (sh':Qap) (fd:Bool),BstB x.net (typS x r) (QaI x r) r.start r.rests f (j+1) sh' fd →
       post (bnd (some (if j+1<2 ^ f then (r.rests++Qh5 f (j+1),true) else ([],false))) fun r5=>some (Sum.inl (r.rests,sh',r5.1,fd,r5.2):(List Bool×Qap×List Bool×Bool×Bool)⊕(Qap×Bool))) fun y=>(∀ s',y=.inl s'→∃ m',m'<m∧∃ j:Nat,1≤j∧j≤2 ^ f∧s'.1=r.rests∧(s'.2.2.2.2=true→j<2 ^ f∧s'.2.2.1=r.rests++Qh5 f j)∧(s'.2.2.2.2=false→j=2 ^ f)∧BstB x.net (typS x r) (QaI x r) r.start r.rests f j s'.2.1 s'.2.2.2.1∧m'=2 ^ f-j+(if s'.2.2.2.2=true then 1 else 0))∧∀ e,y=.inr e→BstB x.net (typS x r) (QaI x r) r.start r.rests f (2 ^ f) e.1 e.2:=by
      intro sh' fd hb'
      rw [Qaj]
      refine ⟨_,rfl,fun s' hs'=>?_,fun _ h=>by cases h⟩
      cases hs'
      simp only [if_true] at hm
      by_cases h1:j+1<2 ^ f
      ·simp only [if_pos h1]
       exact ⟨2 ^ f-(j+1)+1,by omega,j+1,by omega,by omega,trivial,fun _=>⟨h1,rfl⟩,fun h=>(by cases h),hb',by simp⟩
      ·simp only [if_neg h1]
       exact ⟨0,by omega,j+1,by omega,by omega,trivial,fun h=>(by cases h),fun _=>by omega,hb',by simp; omega⟩
     by_cases hok:okB x.net (typS x r) (QaI x r) r.start (r.rests++Qh5 f j)
     ·rw [QuT hok]
      refine QaE (fun hcond=>leaf _ _ ⟨fun h=>by (cases h),fun _=>⟨j,by omega,hok,rfl,fun i hi hoi=>?_⟩⟩) (fun hcond=>leaf _ _ ?_)
      ·rcases Nat.lt_or_ge i j with hij|hij
       ·simp only [andT,orT,ntT,Qoi] at hcond
        cases hfd:found with
        | false=>exact absurd hoi (hbst.1 hfd i hij)
        | true =>
         obtain ⟨i0,k1,k2,k3,k4⟩:=hbst.2 hfd
         rcases hcond.2 with h|h
         ·rw [hfd] at h; cases h
         ·rw [k3] at h
          have:=(k4 i hij hoi).1
          unfold endB at this ⊢
          exact ⟨by omega,fun he=>by omega⟩
       ·obtain rfl:i=j:=by omega
        exact ⟨Int.le_refl _,fun _=>Nat.le_refl _⟩
      ·have h0:eqI (((lbB x.net (typS x r) (QaI x r) r.start (r.rests++Qh5 f j)).sheet,0):Qap×Int).2 0=true:=rfl
       rw [h0,Bool.true_and] at hcond
       simp only [orF,ntF,QoX] at hcond
       obtain ⟨hfd,hle⟩:=hcond
       refine ⟨fun h=>by (rw [hfd] at h; cases h),fun _=>?_⟩
       obtain ⟨i0,k1,k2,k3,k4⟩:=hbst.2 hfd
       refine ⟨i0,by omega,k2,k3,fun i hi hoi=>?_⟩
       rcases Nat.lt_or_ge i j with hij|hij
       ·exact k4 i hij hoi
       ·obtain rfl:i=j:=by omega
        rw [k3] at hle
        exact ⟨hle,fun _=>by omega⟩
     ·have hno:=QvL hok
      refine QaE (fun hcond=>?_) (fun _=>leaf _ _ ⟨fun h i hi=>?_,fun h=>?_⟩)
      ·simp only [andT,QrZ] at hcond
       exact absurd hcond.1 hno.1
      ·rcases Nat.lt_or_ge i j with hij|hij
       ·exact hbst.1 h i hij
       ·obtain rfl:i=j:=by omega
        exact hok
      ·obtain ⟨i0,k1,k2,k3,k4⟩:=hbst.2 h
       refine ⟨i0,by omega,k2,k3,fun i hi hoi=>?_⟩
       rcases Nat.lt_or_ge i j with hij|hij
       ·exact k4 i hij hoi
       ·obtain rfl:i=j:=by omega
        exact absurd hoi hok
   ·rintro ⟨sh,found⟩ hbst
    have hall:∀ b,QA7 x.net (typS x r) (QaI x r) r.start r.rests b→∃ j,j<2 ^ f∧b=r.rests++Qh5 f j:=fun b hb=>QE7 (by rw [hb.1]; omega) hb.2.1
    show post (br found _ _) _
    cases hfd:found with
    | true =>
     rw [QcK]
     obtain ⟨i0,k1,k2,k3,k4⟩:=hbst.2 hfd
     refine Qaw.2 (.inr ⟨⟨rfl,hc⟩,.inl ⟨r.rests++Qh5 f i0,⟨by rw [hB]; omega,Qzu,k2⟩,fun q hq=>?_,by rw [← k3]⟩⟩)
     obtain ⟨j,hj,rfl⟩:=hall q hq
     have:=k4 j hj hq.2.2
     refine ⟨this.1,fun h=>?_⟩
     rw [Qrc _ _ _ k1,Qrc _ _ _ hj]
     have:=this.2 h
     omega
    | false =>
     rw [Qca]
     have hnone:∀ b,¬ QA7 x.net (typS x r) (QaI x r) r.start r.rests b:=fun b hb=>by
      obtain ⟨j,hj,rfl⟩:=hall b hb
      exact hbst.1 hfd j hj hb.2.2
     refine Qaw.2 (.inr ⟨⟨rfl,hc⟩,.inr ⟨hnone,?_⟩⟩)
     have hno:¬ okB x.net (typS x r) (QaI x r) r.start (r.rests++Qh5 f 0):=hbst.1 hfd 0 (by omega)
     rw [← Qqk]
     exact (QvL hno).2.symm
  ·rw [Qbj (by simp only [orT,Qwg,lenI]; right; omega)]
   exact Qaw.2 (.inl ⟨fun h=>hc h.2,rfl⟩)
 ·rw [Qbj (by simp [hp])]
  exact Qaw.2 (.inl ⟨fun h=>hp h.1,rfl⟩)
end Go.Proofs.YtfjiafgldchinaaGreatDoor
namespace Go.Proofs.YtfjiafgldchinaaGreatDoor
set_option linter.unusedSimpArgs false
set_option linter.unusedVariables false
set_option linter.unusedSectionVars false
theorem QD3 {n:Qak} {t:Qag} {stops:List Qar} {start:Int} {rests a b:List Bool} (ha:QA7 n t stops start rests a) (hb:QA7 n t stops start rests b) (ma:minB n t stops start rests a) (mb:minB n t stops start rests b):a=b:=by
 have h1:=ma b hb
 have h2:=mb a ha
 have he:endB n t stops start b=endB n t stops start a:=by omega
 exact QEt (by rw [ha.1,hb.1]) (by have:=h1.2 he; have:=h2.2 he.symm; omega)
theorem QAu {x:Qab} {r:Qam} (hx:QaV x) (hp:QtX x r=true) {b:List Bool} (hl:b.length=(QaI x r).length+1) (hok:okB x.net (typS x r) (QaI x r) r.start b) :
  Qtt (lbB x.net (typS x r) (QaI x r) r.start b).sheet=b∧(lbB x.net (typS x r) (QaI x r) r.start b).sheet.times.length=(QaI x r).length:=by
 have h5:=of_decide_eq_true (Qp9 hp)
 have hrs:=QuT hok
 obtain ⟨o1,o2⟩:=QFm (QEq hx hp) ⟨h5.2.2.1,h5.2.2.2.1⟩ hl (by rw [hrs])
 rw [hrs] at o2
 simp only at o2
 obtain ⟨f1,f2,f3⟩:=Okay.final o1
 obtain ⟨q1,q2⟩:=Okay.headr o1 (k:=(QaI x r).length) (Nat.le_refl _)
 rw [← o1.len] at q1
 rw [o2]
 refine ⟨?_,f1⟩
 unfold Qtt
 apply List.ext_getElem?
 intro i
 cases i with
 | zero =>
  rw [List.getElem?_cons_zero,q1,Qzw (by omega)]
 | succ i =>
  rw [List.getElem?_cons_succ,List.getElem?_map]
  rcases Nat.lt_or_ge i (QaI x r).length with hi|hi
  ·rw [f2 i hi,Qzw (by omega)]; rfl
  ·rw [List.getElem?_eq_none (by omega),List.getElem?_eq_none (by omega)]; rfl
end Go.Proofs.YtfjiafgldchinaaGreatDoor
