/- Part MQ of the proof: texts Lqm Lqn Lqo LqoT Lqv Lqw Lqx Lqy Lqy2 Lqy3 Lqyl. -/
import Derived.Test.YtfjiafgldchinaaGreatDoorMP
namespace Go.Proofs.YtfjiafgldchinaaGreatDoor
set_option linter.unusedSimpArgs false
set_option linter.unusedVariables false
set_option linter.unusedSectionVars false
section
variable (n : Qak) (t : Qah) (stops : List Qap)
noncomputable def runK:List Bool→Nat→QaI→QaI×Int
 | [],_,l=>(l,0)
 | b :: r,k,l=>if (nxt n t stops l k b).2≠0 then (zLab,(nxt n t stops l k b).2) else runK r (k+1) (nxt n t stops l k b).1
noncomputable def runD:List Bool→Nat→QaI→List Int
 | [],_,_=>[]
 | b :: r,k,l=>(nxt n t stops l k b).1.since :: runD r (k+1) (nxt n t stops l k b).1
def begS (start:Int):QaI:=QaI.mk (max t.open_ start) 0 Qs4
noncomputable def runS (start:Int) (rests:List Bool):QaB×Int :=
 if (runK n t stops rests 0 (begS t start)).2≠0 then (Qs4,(runK n t stops rests 0 (begS t start)).2) else ((runK n t stops rests 0 (begS t start)).1.sheet,0)
end
section
variable {n : Qak} {t : Qah} {stops : List Qap} {l : QaI} {k : Nat} {b : Bool}
theorem QwI (h:Qrn n t stops) {start:Int} (hs:0≤start∧start≤4096):LabI 0 (begS t start):=by
 have h1:=h.opn; have h2:=h.close
 refine ⟨?_,?_,Int.le_refl _,by show (0:Int)≤4096; omega,Int.le_refl _,Int.le_refl _,rfl⟩
 ·show 0≤max t.open_ start; omega
 ·show max t.open_ start≤8192; omega
theorem Qyu {x:Qac} {s:Qat} (hn:NetOK x.net) (ht:inT s.time) (hd:0≤s.driven∧s.driven≤4096) (hm:0≤s.miles∧s.miles≤1000000) (to_ close late:Int) :
  Qcf x t s to_ close late=some (if (goN x.net t.profile s.place to_ s.time).2.2≠0 then (s,12) else if close<(goN x.net t.profile s.place to_ s.time).1 then (s,late)
   else if t.drive<s.driven+(goN x.net t.profile s.place to_ s.time).1-s.time then (s,16)
   else (Qat.mk to_ (goN x.net t.profile s.place to_ s.time).1 (s.driven+(goN x.net t.profile s.place to_ s.time).1-s.time) (s.miles+(goN x.net t.profile s.place to_ s.time).2.1),0)):=by
 unfold Qcf Qjh
 show bnd (bnd (Qdi x.net t.profile s.place to_ s.time) _) _=_
 rw [Qpf hn _ _ _ ht,Qam,Qam]
 by_cases h0:(goN x.net t.profile s.place to_ s.time).2.2=0
 ·have hb:=Qru hn ht h0
  unfold inT at ht
  rw [Qcq (by simpa using h0),if_neg (by simpa using h0)]
  simp (disch:=omega) only [addI,subI,br_if,gtI_t]
  split
  ·rfl
  ·split <;> rfl
 ·rw [Qa2 (by simpa using h0),if_pos h0]
def stS (t:Qah) (stops:List Qap) (l:QaI) (k:Nat) (b:Bool):Qat:=Qat.mk (fromP t stops k) (depS t l b) (sinS l b) l.sheet.miles
theorem Qvi {ts:List QaN} {a m d:Int} {e:Bool} {dep:Int}:patch (ts++[QaN.mk a m d e]) ts.length dep b=ts++[QaN.mk a m dep b]:=by
 unfold patch
 rw [List.getElem?_append_right (Nat.le_refl _),Nat.sub_self]
 show (ts++[QaN.mk a m d e]).set ts.length (QaN.mk a m dep b)=_
 rw [List.set_append_right _ _ (Nat.le_refl _),Nat.sub_self]
 rfl
theorem Qyv {x:Qac} {r:Qaw} (hp:possS x r=true) (hk:k<r.visits.length):∃ v,r.visits[k]?=some v∧QcI x v=some (stopK t (QaY x r) k,true):=by
 obtain ⟨v,h1,h2⟩:=QvK hp (QxN (t:=t) (by rw [Qp3]; exact hk))
 exact ⟨v,h1,by rw [Qrk,h2]⟩
theorem QvI {x:Qac} {to_ close late:Int} (hx:Qcy x) (hT:Qrn x.net t stops) (hL:LabI k l) (hk:k≤20) (h1:(stopK t stops k).place=to_) (h2:(stopK t stops k).close=close) (h3:(if k<stops.length then 14 else 15)=late) :
  ∃ X,Qcf x t (stS t stops l k b) to_ close late=some X∧X.2=(nxt x.net t stops l k b).2 ∧
   ((nxt x.net t stops l k b).2=0→X=(Qat.mk to_ (goN x.net t.profile (fromP t stops k) (stopK t stops k).place (depS t l b)).1 (sinS l b+(goN x.net t.profile (fromP t stops k) (stopK t stops k).place (depS t l b)).1-depS t l b) (l.sheet.miles+(goN x.net t.profile (fromP t stops k) (stopK t stops k).place (depS t l b)).2.1),0)):=by
 have hin:=Qv7 (rest:=b) hT hL
 have hsn:0≤sinS l b∧sinS l b≤4096:=by have:=hL.since0; have:=hL.since1; unfold sinS; split <;> omega
 have hm0:=hL.miles0; have hm1:=hL.miles1
 have hstep:=Qyu (t:=t) (s:=stS t stops l k b) hx.net hin hsn ⟨hm0,by show l.sheet.miles≤1000000; omega⟩ to_ close late
 subst h1 h2 h3
 refine ⟨_,hstep,?_,fun h0=>?_⟩
 ·unfold nxt nxtD
  show (if (goN x.net t.profile (fromP t stops k) (stopK t stops k).place (depS t l b)).2.2≠0 then _ else if (stopK t stops k).close<(goN x.net t.profile (fromP t stops k) (stopK t stops k).place (depS t l b)).1 then _ else if t.drive<sinS l b+(goN x.net t.profile (fromP t stops k) (stopK t stops k).place (depS t l b)).1-depS t l b then _ else _:Qat×Int).2=_
  split
  ·rfl
  ·split
   ·rfl
   ·split <;> rfl
 ·obtain ⟨g0,g1,g2,g3⟩:=Qu9 hT hL h0
  show (if (goN x.net t.profile (fromP t stops k) (stopK t stops k).place (depS t l b)).2.2≠0 then _ else if (stopK t stops k).close<(goN x.net t.profile (fromP t stops k) (stopK t stops k).place (depS t l b)).1 then _ else if t.drive<sinS l b+(goN x.net t.profile (fromP t stops k) (stopK t stops k).place (depS t l b)).1-depS t l b then _ else _:Qat×Int)=_
  rw [if_neg (by simpa using g0),if_neg (by omega),if_neg (by omega)]
  rfl
theorem Qvv {x : Qac} {r : Qaw} {rests : List Bool} (hx : Qcy x) (hv : r.visits.length ≤ 1048576) : QfF x r rests = some (if possS x r = true ∧ rests.length = r.visits.length + 1 then
      ((runS x.net (typS x r) (QaY x r) r.start rests).1, if (runS x.net (typS x r) (QaY x r) r.start rests).2 = 0 then runD x.net (typS x r) (QaY x r) rests 0 (begS (typS x r) r.start) else [], (runS x.net (typS x r) (QaY x r) r.start rests).2) else (Qs4, [], 2)) := by
  unfold QfF
  show bnd (Qc8 x r) _ = _
  rw [Qyn, Qam]
  have hadd : addK .i64 (lenI r.visits) 1 = (r.visits.length : Int) + 1 := by unfold lenI; exact addI (by omega) (by omega)
  rw [hadd]
  by_cases hc : possS x r = true ∧ rests.length = r.visits.length + 1
  · obtain ⟨hp, hr⟩ := hc
    have h5 := of_decide_eq_true (QrG hp)
    have hT := QyT hx hp
    rw [if_pos ⟨hp, hr⟩, hp, Qa2 (by simp only [Bool.not_true, Bool.false_or, neI_f, lenI]; omega), (QwZ (QrG hp)).1, Qam]
    have e0 : rests[0]? = some (rests[0]'(by omega)) := List.getElem?_eq_getElem _
    rw [show getI rests 0 = some (rests[0]'(by omega)) from QaG (k := 0) e0, Qam]
    have hL0 := QwI hT ⟨h5.2.2.1, h5.2.2.2.1⟩
    have hrest : ∀ (s : Qat) (b : Bool), 0 ≤ s.time ∧ s.time ≤ 20000 → QeY (typS x r) s b = some (Qat.mk s.place (s.time + (if b = true then (typS x r).rest_ else 0)) (if b = true then 0 else s.driven) s.miles) := by
      intro s b hs
      have := hT.rest
      unfold QeY
      cases b with
      | true => rw [Qb4, addI (by omega) (by omega)]; rfl
      | false => rw [QbP]; simp
    have hmx : maxI (typS x r).open_ r.start = (begS (typS x r) r.start).ready := by rw [Qu5]; rfl
    rw [hmx, hrest _ _ ⟨hL0.ready0, by have := hL0.ready1; show (begS (typS x r) r.start).ready ≤ 20000; omega⟩, Qam]
    generalize hb0 : rests[0]'(by omega) = b0 at e0
    have hst0 : Qat.mk (typS x r).from_ ((begS (typS x r) r.start).ready + (if b0 = true then (typS x r).rest_ else 0)) (if b0 = true then 0 else 0) 0 = stS (typS x r) (QaY x r) (begS (typS x r) r.start) 0 b0 := rfl
    show bnd (loopF _ ([], [], Qat.mk (typS x r).from_ ((begS (typS x r) r.start).ready + (if b0 = true then (typS x r).rest_ else 0)) (if b0 = true then 0 else 0) 0, depS (typS x r) (begS (typS x r) r.start) b0, 0)) _ = _
    rw [hst0]
    apply post.eq
    have hsl := Qp3 (x := x) (r := r)
    -- what the loop over the visits comes to
    refine QaO (R := fun e : (List Int × List QaN × Qat × Int) ⊕ (QaB × List Int × Int) =>
      (∃ err, err ≠ 0 ∧ e = .inr (Qs4, [], err) ∧ (runK x.net (typS x r) (QaY x r) rests 0 (begS (typS x r) r.start)).2 = err) ∨
      (∃ (l : QaI) (b : Bool) (dr : List Int) (dep : Int), LabI r.visits.length l ∧ e = .inl (dr, Qpo l r.visits.length (depS (typS x r) l b) b, stS (typS x r) (QaY x r) l r.visits.length b, dep) ∧ dr.length = r.visits.length ∧
        (if r.visits.length = 0 then b else l.sheet.rest_) = b0 ∧ (if r.visits.length = 0 then depS (typS x r) l b else l.sheet.depart) = dep ∧
        runK x.net (typS x r) (QaY x r) [b] r.visits.length l = runK x.net (typS x r) (QaY x r) rests 0 (begS (typS x r) r.start) ∧
        dr ++ runD x.net (typS x r) (QaY x r) [b] r.visits.length l = runD x.net (typS x r) (QaY x r) rests 0 (begS (typS x r) r.start))) ?_ ?_
    · refine QdH (fun s => ∃ (k : Nat) (l : QaI) (b : Bool) (dr : List Int) (dep : Int), k ≤ r.visits.length ∧ LabI k l ∧ rests[k]? = some b ∧ s = (dr, Qpo l k (depS (typS x r) l b) b, stS (typS x r) (QaY x r) l k b, dep, (k : Int)) ∧ dr.length = k ∧
        (if k = 0 then b else l.sheet.rest_) = b0 ∧ (if k = 0 then depS (typS x r) l b else l.sheet.depart) = dep ∧
        runK x.net (typS x r) (QaY x r) (rests.drop k) k l = runK x.net (typS x r) (QaY x r) rests 0 (begS (typS x r) r.start) ∧
        dr ++ runD x.net (typS x r) (QaY x r) (rests.drop k) k l = runD x.net (typS x r) (QaY x r) rests 0 (begS (typS x r) r.start)) (fun s => r.visits.length - s.2.2.2.2.toNat)
        ⟨0, _, b0, [], _, Nat.zero_le _, hL0, e0, rfl, rfl, rfl, rfl, rfl, rfl⟩ (by simp; omega) ?_
      rintro _ ⟨k, l, b, dr, dep, hk, hL, hbk, rfl, hdr, hq1, hq2, hf, hfd⟩
      show post (QdK x r rests (typS x r) b0 dr (Qpo l k (depS (typS x r) l b) b) (stS (typS x r) (QaY x r) l k b) dep (k : Int)) _
      unfold QdK
      have hkr : k < rests.length := (List.getElem?_eq_some_iff.1 hbk).1
      have hcons : rests.drop k = b :: rests.drop (k + 1) := by
        rw [List.drop_eq_getElem_cons hkr]; congr 1; rw [List.getElem?_eq_getElem hkr] at hbk; exact Option.some.inj hbk
      refine QaF (fun hb => ?_) (fun hb => QcO (.inr ?_))
      · simp only [ltI_t, lenI] at hb
        have hk' : k < r.visits.length := by omega
        obtain ⟨v, hv1, hv2⟩ := Qyv (t := typS x r) hp hk'
        rw [hcons] at hf hfd
        simp only [runK, runD] at hf hfd
        rw [QaG hv1, Qam]
        show post (bnd (QcI x v) fun r3 => bnd (Qcf x (typS x r) (stS (typS x r) (QaY x r) l k b) r3.1.place r3.1.close 14) _) _
        have hin := Qv7 (rest := b) hT hL
        have hsn : 0 ≤ sinS l b ∧ sinS l b ≤ 4096 := by have := hL.since0; have := hL.since1; unfold sinS; split <;> omega
        have hm0 := hL.miles0; have hm1 := hL.miles1
        obtain ⟨X, hX1, hX2, hX3⟩ := QvI (b := b) hx hT hL (by have := h5.2.2.2.2; omega) (to_ := (stopK (typS x r) (QaY x r) k).place) (close := (stopK (typS x r) (QaY x r) k).close) (late := 14) rfl rfl (by rw [if_pos (by rw [hsl]; exact hk')])
        rw [hv2, Qam, hX1, Qam]
        by_cases h0 : (nxt x.net (typS x r) (QaY x r) l k b).2 = 0
        · obtain ⟨g0, g1, g2, g3⟩ := Qu9 hT hL h0
          have hL' := QwT hT hL (by rw [hsl]; exact hk') h0
          have hX4 := hX3 h0
          rw [if_neg (by simpa using h0)] at hf
          have hb1 : rests[k + 1]? = some (rests[k + 1]'(by omega)) := List.getElem?_eq_getElem _
          have hgb := Qru hx.net hin g0
          have hS := hT.stopK k
          have h51 := hS.open0; have h52 := hS.open1; have h53 := hS.close; have h54 := hS.serv0; have h55 := hS.serv1
          have hin' := hin
          unfold inT at hin'
          rw [Qa2 (by rw [hX2]; simpa using h0), hX4]
          simp only
          have hkl : k < (QaY x r).length := by rw [hsl]; exact hk'
          have hplace : fromP (typS x r) (QaY x r) (k + 1) = (stopK (typS x r) (QaY x r) k).place := by
            show ((QaY x r).getD k zStop).place = ((QaY x r).getD k (endS (typS x r))).place
            rw [List.getD_eq_getElem?_getD, List.getD_eq_getElem?_getD, List.getElem?_eq_getElem hkl]; rfl
          generalize hgg : goN x.net (typS x r).profile (fromP (typS x r) (QaY x r) k) (stopK (typS x r) (QaY x r) k).place (depS (typS x r) l b) = g at *
          generalize hl' : (nxt x.net (typS x r) (QaY x r) l k b).1 = l' at *
          have hdrl : (dr ++ [sinS l b + g.1 - depS (typS x r) l b]).length = k + 1 := by rw [List.length_append, hdr]; rfl
          refine Qa9 (QgE (by rw [hdrl]; omega)) ?_
          rw [inc (n := r.visits.length) hk' (by omega), show (k : Int) + 1 = ((k + 1 : Nat) : Int) by omega, QaG hb1, Qam]
          generalize rests[k + 1]'(by omega) = b' at hb1
          rw [Qu5, addI (by omega) (by omega), hrest _ _ ⟨by show 0 ≤ max g.1 _ + _; omega, by show max g.1 _ + _ ≤ 20000; omega⟩, Qam]
          refine Qa9 (QgE (by rw [List.length_append, QqQ, hL.times]; simp; omega)) (QfV ⟨⟨k + 1, l', b', dr ++ [sinS l b + g.1 - depS (typS x r) l b], dep, by omega, hL', hb1, ?_, hdrl, ?_, ?_, hf, ?_⟩, by simp; omega⟩)
          · rw [g3]
            have ht1 : (Qpo l k (depS (typS x r) l b) b).length = k := by rw [QqQ, hL.times]
            have ht2 : Qpo (QaI.mk (max g.1 (stopK (typS x r) (QaY x r) k).open_ + (stopK (typS x r) (QaY x r) k).service) (sinS l b + g.1 - depS (typS x r) l b) (shS (typS x r) (QaY x r) l k b (depS (typS x r) l b) g)) (k + 1) (max g.1 (stopK (typS x r) (QaY x r) k).open_ + (stopK (typS x r) (QaY x r) k).service + (if b' = true then (typS x r).rest_ else 0)) b' =
                Qpo l k (depS (typS x r) l b) b ++ [QaN.mk g.1 (max g.1 (stopK (typS x r) (QaY x r) k).open_) (max g.1 (stopK (typS x r) (QaY x r) k).open_ + (stopK (typS x r) (QaY x r) k).service + (if b' = true then (typS x r).rest_ else 0)) b'] := by
              show patch (if k < (QaY x r).length then Qpo l k (depS (typS x r) l b) b ++ [QaN.mk g.1 (max g.1 (stopK (typS x r) (QaY x r) k).open_) 0 false] else _) k _ b' = _
              rw [if_pos hkl]
              have := Qvi (b := b') (ts := Qpo l k (depS (typS x r) l b) b) (a := g.1) (m := max g.1 (stopK (typS x r) (QaY x r) k).open_) (d := 0) (e := false) (dep := max g.1 (stopK (typS x r) (QaY x r) k).open_ + (stopK (typS x r) (QaY x r) k).service + (if b' = true then (typS x r).rest_ else 0))
              rw [ht1] at this
              exact this
            show (_, _, _, _, _) = (_, Qpo _ (k + 1) (max g.1 (stopK (typS x r) (QaY x r) k).open_ + (stopK (typS x r) (QaY x r) k).service + (if b' = true then (typS x r).rest_ else 0)) b', _, _, _)
            rw [ht2]
            unfold stS
            rw [hplace]
            rfl
          · rw [if_neg (by omega), g3]; exact hq1
          · rw [if_neg (by omega), g3]; exact hq2
          · rw [← hfd, List.append_assoc, g3]; rfl
        · rw [Qcq (by rw [hX2]; simpa using h0), hX2]
          rw [if_pos h0] at hf
          exact QcO (.inl ⟨_, h0, rfl, by rw [← hf]⟩)
      · simp only [ltI_f, lenI] at hb
        have hkv : k = r.visits.length := by omega
        subst hkv
        have hd1 : rests.drop (r.visits.length + 1) = [] := List.drop_eq_nil_of_le (by omega)
        rw [hcons, hd1] at hf hfd
        exact ⟨l, b, dr, dep, hL, rfl, hdr, hq1, hq2, hf, hfd⟩
    · unfold runS
      rintro e (⟨err, h1, rfl, h2⟩ | ⟨l, b, dr, dep, hL, rfl, hdr, hq1, hq2, hf, hfd⟩)
      · rw [QqF, h2, if_pos h1]
        refine QaA.2 ?_
        simp only
        rw [if_neg h1]
      · rw [Qht]
        obtain ⟨X, hX1, hX2, hX3⟩ := QvI (b := b) hx hT hL (by have := h5.2.2.2.2; omega) (to_ := (typS x r).to_) (close := (typS x r).close) (late := 15) (by rw [Qp2 (by rw [hsl]; omega)]; rfl) (by rw [Qp2 (by rw [hsl]; omega)]; rfl) (by rw [if_neg (by rw [hsl]; omega)])
        show post (bnd (Qcf x (typS x r) (stS (typS x r) (QaY x r) l r.visits.length b) (typS x r).to_ (typS x r).close 15) _) _
        rw [hX1, Qam]
        simp only [runK, runD] at hf hfd
        by_cases h0 : (nxt x.net (typS x r) (QaY x r) l r.visits.length b).2 = 0
        · obtain ⟨g0, g1, g2, g3⟩ := Qu9 hT hL h0
          rw [if_neg (by simpa using h0)] at hf
          rw [Qa2 (by rw [hX2]; simpa using h0), hX3 h0, ← hf, ← hfd]
          refine Qa9 (QgE (by simp; omega)) (QaA.2 ?_)
          simp only [ne_eq, not_true_eq_false, if_false, if_true]
          rw [g3]
          unfold shS
          have hnl : ¬ r.visits.length < (QaY x r).length := by rw [hsl]; omega
          rw [hq1, hq2, if_neg hnl, if_neg hnl]
        · rw [if_pos h0] at hf
          rw [Qcq (by rw [hX2]; simpa using h0), ← hf, hX2]
          refine QaA.2 ?_
          simp only
          rw [if_pos h0, if_neg h0]; rfl
  · rw [if_neg hc]
    rw [Qcq]
    · rfl
    · by_cases hp : possS x r = true
      · simp only [hp, Bool.not_true, Bool.false_or, neI_t, lenI]
        intro h; exact hc ⟨hp, by omega⟩
      · simp [hp]
end
end Go.Proofs.YtfjiafgldchinaaGreatDoor
namespace Go.Proofs.YtfjiafgldchinaaGreatDoor
set_option linter.unusedSimpArgs false
set_option linter.unusedVariables false
set_option linter.unusedSectionVars false
section
variable (n : Qak) (t : Qah) (stops : List Qap) (start : Int) (rests : List Bool)
noncomputable def labK:Nat→QaI
 | 0=>begS t start
 | k+1=>(nxt n t stops (labK k) k (rests.getD k false)).1
noncomputable def depK (k:Nat):Int:=depS t (labK n t stops start rests k) (rests.getD k false)
noncomputable def goK (k:Nat):Int×Int×Int:=goN n t.profile (fromP t stops k) (stopK t stops k).place (depK n t stops start rests k)
end
section
variable {n : Qak} {t : Qah} {stops : List Qap} {start : Int} {rests : List Bool}
structure Okay (n:Qak) (t:Qah) (stops:List Qap) (start:Int) (rests:List Bool):Prop where
 trip:Qrn n t stops
 st:0≤start∧start≤4096
 len:rests.length=stops.length+1
 all:∀ j,j<rests.length→(nxt n t stops (labK n t stops start rests j) j (rests.getD j false)).2=0
section
variable (h : Okay n t stops start rests)
include h
theorem Okay.lab:∀ k,k≤stops.length→LabI k (labK n t stops start rests k)
 | 0,_=>QwI h.trip h.st
 | k+1,hk=>QwT h.trip (Okay.lab k (by omega)) (by omega) (h.all k (by rw [h.len]; omega))
theorem Okay.step {k:Nat} (hk:k≤stops.length) :
  (goK n t stops start rests k).2.2=0∧(goK n t stops start rests k).1≤(stopK t stops k).close ∧
  labK n t stops start rests (k+1)=QaI.mk (max (goK n t stops start rests k).1 (stopK t stops k).open_+(stopK t stops k).service) (sinS (labK n t stops start rests k) (rests.getD k false)+(goK n t stops start rests k).1-depK n t stops start rests k)
   (shS t stops (labK n t stops start rests k) k (rests.getD k false) (depK n t stops start rests k) (goK n t stops start rests k)):=by
 obtain ⟨g0,g1,g2,g3⟩:=Qu9 h.trip (Okay.lab h k hk) (h.all k (by rw [h.len]; omega))
 exact ⟨g0,g1,g3⟩
theorem Okay.dep {k:Nat} (hk:k≤stops.length):inT (depK n t stops start rests k):=Qv7 h.trip (Okay.lab h k hk)
theorem Okay.go {k:Nat} (hk:k≤stops.length):depK n t stops start rests k≤(goK n t stops start rests k).1:=(Qru h.trip.net (Okay.dep h hk) (Okay.step h hk).1).1
theorem Okay.ready {k:Nat} (hk:k≤stops.length):(labK n t stops start rests (k+1)).ready=max (goK n t stops start rests k).1 (stopK t stops k).open_+(stopK t stops k).service:=by rw [(Okay.step h hk).2.2]
theorem Okay.since {k:Nat} (hk:k≤stops.length):(labK n t stops start rests (k+1)).since=sinS (labK n t stops start rests k) (rests.getD k false)+(goK n t stops start rests k).1-depK n t stops start rests k:=by rw [(Okay.step h hk).2.2]
theorem Okay.miles {k:Nat} (hk:k≤stops.length):(labK n t stops start rests (k+1)).sheet.miles=(labK n t stops start rests k).sheet.miles+(goK n t stops start rests k).2.1:=by rw [(Okay.step h hk).2.2]; rfl
end
end
end Go.Proofs.YtfjiafgldchinaaGreatDoor
namespace Go.Proofs.YtfjiafgldchinaaGreatDoor
set_option linter.unusedSimpArgs false
set_option linter.unusedVariables false
set_option linter.unusedSectionVars false
noncomputable def runR (x:Qac) (r:Qaw) (rests:List Bool):QaB×Int:=if possS x r=true∧rests.length=r.visits.length+1 then runS x.net (typS x r) (QaY x r) r.start rests else (Qs4,2)
theorem Qvt {x:Qac} {r:Qaw} {rests:List Bool} (hx:Qcy x) (hv:r.visits.length≤1048576):QfE x r rests=some (runR x r rests):=by
 unfold QfE runR
 show bnd (QfF x r rests) _=_
 rw [Qvv hx hv,Qam]
 split <;> rfl
end Go.Proofs.YtfjiafgldchinaaGreatDoor
namespace Go.Proofs.YtfjiafgldchinaaGreatDoor
set_option linter.unusedSimpArgs false
set_option linter.unusedVariables false
set_option linter.unusedSectionVars false
def QtI (s:QaB):List Bool:=s.rest_ :: s.times.map (·.rest_)
noncomputable def QyU (x:Qac) (r:Qaw) (s:QaB):Int :=
 if possS x r=true∧r.rests.length≤r.visits.length+1∧s.times.length=r.visits.length then
  if (QtI s).take r.rests.length=r.rests then
   if (runR x r (QtI s)).2≠0 then (runR x r (QtI s)).2 else if s=(runR x r (QtI s)).1 then 0 else 9
  else 9
 else 2
section
variable {x : Qac} {r : Qaw} {s : QaB}
theorem v2 (h:¬ (possS x r=true∧r.rests.length≤r.visits.length+1∧s.times.length=r.visits.length)):QyU x r s=2:=if_neg h
end
end Go.Proofs.YtfjiafgldchinaaGreatDoor
namespace Go.Proofs.YtfjiafgldchinaaGreatDoor
set_option linter.unusedSimpArgs false
set_option linter.unusedVariables false
set_option linter.unusedSectionVars false
def valB (b:List Bool):Nat:=b.foldl (fun v c=>2*v+(if c=true then 1 else 0)) 0
theorem Qyz (b:List Bool):valB b<2 ^ b.length:=by
 have:∀ (b:List Bool) (v:Nat),b.foldl (fun v c=>2*v+(if c=true then 1 else 0)) v<(v+1)*2 ^ b.length:=by
  intro b
  induction b with
  | nil=>intro v; simp
  | cons c b ih =>
   intro v
   have:=ih (2*v+(if c=true then 1 else 0))
   rw [List.foldl_cons,List.length_cons,Nat.pow_succ]
   refine Nat.lt_of_lt_of_le this ?_
   rw [show (v+1)*(2 ^ b.length*2)=(2*v+2)*2 ^ b.length by rw [Nat.mul_comm (2 ^ b.length) 2,← Nat.mul_assoc]; congr 1; omega]
   exact Nat.mul_le_mul_right _ (by split <;> omega)
 simpa [valB] using this b 0
section
variable (n : Qak) (t : Qah) (stops : List Qap) (start : Int)
noncomputable def preB (b:List Bool):QaI×Int:=runK n t stops b 0 (begS t start)
def okB (b:List Bool):Prop:=(preB n t stops start b).2=0
noncomputable def lbB (b:List Bool):QaI:=(preB n t stops start b).1
def beatB (d b:List Bool):Prop:=(lbB n t stops start d).ready=(lbB n t stops start b).ready∧(lbB n t stops start d).since≤(lbB n t stops start b).since
open Classical in
end
section
variable {n : Qak} {t : Qah} {stops : List Qap} {start : Int}
theorem Qp0:∀ (b:List Bool) (k:Nat) (l:QaI) (c:Bool),(runK n t stops b k l).2=0→runK n t stops (b++[c]) k l=if (nxt n t stops (runK n t stops b k l).1 (k+b.length) c).2≠0 then (zLab,(nxt n t stops (runK n t stops b k l).1 (k+b.length) c).2) else ((nxt n t stops (runK n t stops b k l).1 (k+b.length) c).1,0)
 | [],k,l,c,_=>rfl
 | a :: b,k,l,c,h=>by
  by_cases h0:(nxt n t stops l k a).2=0
  ·have e:∀ r,runK n t stops (a :: r) k l=runK n t stops r (k+1) (nxt n t stops l k a).1:=fun r=>by
    simp only [runK]; rw [if_neg (by simpa using h0)]
   rw [e] at h
   have:=Qp0 b (k+1) _ c h
   rw [List.cons_append,e,e,this,List.length_cons,show k+1+b.length=k+(b.length+1) by omega]
  ·simp only [runK] at h
   rw [if_pos h0] at h; exact absurd h h0
theorem Qvz:∀ (b:List Bool) (k:Nat) (l:QaI) (c:Bool),(runK n t stops b k l).2≠0→(runK n t stops (b++[c]) k l).2≠0
 | [],k,l,c,h=>by simp [runK] at h
 | a :: b,k,l,c,h=>by
  simp only [runK,List.cons_append] at h ⊢
  by_cases h0:(nxt n t stops l k a).2=0
  ·rw [if_neg (by simpa using h0)] at h ⊢
   exact Qvz b (k+1) _ c h
  ·rw [if_pos h0]; exact h0
theorem Qva {b:List Bool} {c:Bool}:okB n t stops start (b++[c])↔okB n t stops start b∧(nxt n t stops (lbB n t stops start b) b.length c).2=0:=by
 unfold okB lbB preB
 constructor
 ·intro h
  by_cases h0:(runK n t stops b 0 (begS t start)).2=0
  ·refine ⟨h0,?_⟩
   rw [Qp0 b 0 _ c h0,Nat.zero_add] at h
   split at h
   ·rename_i h1; exact absurd h h1
   ·rename_i h1; simpa using h1
  ·exact absurd h (Qvz b 0 _ c h0)
 ·rintro ⟨h0,h1⟩
  rw [Qp0 b 0 _ c h0,Nat.zero_add,if_neg (by simpa using h1)]
theorem Qxr {b:List Bool} {c:Bool} (h:okB n t stops start (b++[c])):lbB n t stops start (b++[c])=(nxt n t stops (lbB n t stops start b) b.length c).1:=by
 obtain ⟨h0,h1⟩:=Qva.1 h
 unfold lbB preB at *
 unfold okB preB at h0
 rw [Qp0 b 0 _ c h0,Nat.zero_add,if_neg (by simpa using h1)]
theorem Qv0 {a:List Bool}:beatB n t stops start a a:=⟨rfl,Int.le_refl _⟩
end
section
variable (rests : List Bool)
def chB (k:Nat):List Bool:=match rests[k]? with
 | some b=>[b]
 | none=>[false,true]
def folB (b:List Bool):Prop:=∀ i x,b[i]?=some x→x∈chB rests i
end
section
variable {n : Qak} {t : Qah} {stops : List Qap} {start : Int} {rests : List Bool}
structure StB (n:Qak) (t:Qah) (stops:List Qap) (start:Int) (rests:List Bool) (k:Nat) (P:List (List Bool)):Prop where
 ok:∀ b∈P,okB n t stops start b∧b.length=k∧folB rests b
 inc:P.Pairwise (fun a b=>valB a<valB b)
 cov:∀ b,b.length=k→folB rests b→okB n t stops start b→∃ a∈P,valB a≤valB b∧beatB n t stops start a b
theorem StB.zero:StB n t stops start rests 0 [[]] :=
 ⟨fun b hb=>by rw [List.mem_singleton.1 hb]; exact ⟨rfl,rfl,fun i x hx=>by simp at hx⟩,List.pairwise_singleton _ _,fun b hb _ _=>⟨[],by simp,by rw [List.length_eq_zero_iff.1 hb]; exact Nat.le_refl _,by rw [List.length_eq_zero_iff.1 hb]; exact Qv0⟩⟩
end
end Go.Proofs.YtfjiafgldchinaaGreatDoor
namespace Go.Proofs.YtfjiafgldchinaaGreatDoor
set_option linter.unusedSimpArgs false
set_option linter.unusedVariables false
set_option linter.unusedSectionVars false
theorem QwO:∀ {P:List (List Bool)} {lo hi:Nat},P.Pairwise (fun a b=>valB a<valB b)→(∀ b∈P,lo≤valB b∧valB b<hi)→P.length+lo≤hi∨P=[]
 | [],_,_,_,_=>.inr rfl
 | a :: P,lo,hi,h,hb=>by
  rw [List.pairwise_cons] at h
  have ha:=hb a (by simp)
  rcases QwO (P:=P) (lo:=lo+1) (hi:=hi) h.2 (fun b hb'=>⟨by have:=h.1 b hb'; omega,(hb b (by simp [hb'])).2⟩) with h1|h1
  ·left; simp only [List.length_cons]; omega
  ·left; rw [h1]; simp only [List.length_singleton]; omega
section
variable {n : Qak} {t : Qah} {stops : List Qap} {start : Int} {rests : List Bool}
theorem StB.len {k:Nat} {P:List (List Bool)} (h:StB n t stops start rests k P):P.length≤2 ^ k:=by
 rcases QwO (lo:=0) (hi:=2 ^ k) h.inc (fun b hb=>⟨Nat.zero_le _,by have:=Qyz b; rwa [(h.ok b hb).2.1] at this⟩) with h1|h1
 ·omega
 ·rw [h1]; exact Nat.zero_le _
end
end Go.Proofs.YtfjiafgldchinaaGreatDoor
namespace Go.Proofs.YtfjiafgldchinaaGreatDoor
set_option linter.unusedSimpArgs false
set_option linter.unusedVariables false
set_option linter.unusedSectionVars false
section
variable {n : Qak} {t : Qah} {stops : List Qap} {start : Int} {rests : List Bool}
theorem QxH (b:List Bool):runS n t stops start b=if (preB n t stops start b).2≠0 then (Qs4,(preB n t stops start b).2) else ((lbB n t stops start b).sheet,0):=rfl
theorem QxI {b:List Bool} (h:okB n t stops start b):runS n t stops start b=((lbB n t stops start b).sheet,0):=by rw [QxH,if_neg (show ¬ (preB n t stops start b).2≠0 from fun hh=>hh h)]
end
end Go.Proofs.YtfjiafgldchinaaGreatDoor
