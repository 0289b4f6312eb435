/- Part MQ of the proof: texts Yqm Yqn Yqo YqoT Yqv Yqw Yqx Yqy Yqy2 Yqy3 Yqyl. -/
import Derived.Test.YtpkkaboonnedfaaGreatDoorMP
namespace Go.Proofs.YtpkkaboonnedfaaGreatDoor
set_option linter.unusedSimpArgs false
set_option linter.unusedVariables false
set_option linter.unusedSectionVars false
section
variable (n : Qam) (t : Qal) (stops : List Qaw)
noncomputable def runK:List Bool→Nat→Qaf→Qaf×Int
 | [],_,l=>(l,0)
 | b :: r,k,l=>if (nxt n t stops l k b).2≠0 then (zLab,(nxt n t stops l k b).2) else runK r (k+1) (nxt n t stops l k b).1
noncomputable def runD:List Bool→Nat→Qaf→List Int
 | [],_,_=>[]
 | b :: r,k,l=>(nxt n t stops l k b).1.since :: runD r (k+1) (nxt n t stops l k b).1
def begS (start:Int):Qaf:=Qaf.mk (max t.open_ start) 0 QqE
noncomputable def runS (start:Int) (rests:List Bool):Qap×Int :=
 if (runK n t stops rests 0 (begS t start)).2≠0 then (QqE,(runK n t stops rests 0 (begS t start)).2) else ((runK n t stops rests 0 (begS t start)).1.sheet,0)
end
section
variable {n : Qam} {t : Qal} {stops : List Qaw} {l : Qaf} {k : Nat} {b : Bool}
theorem Qw6 (h:QmZ n t stops) {start:Int} (hs:0≤start∧start≤4096):LabI 0 (begS t start):=by
 have h1:=h.opn; have h2:=h.close
 refine ⟨?_,?_,Int.le_refl _,by show (0:Int)≤4096; omega,Int.le_refl _,Int.le_refl _,rfl⟩
 ·show 0≤max t.open_ start; omega
 ·show max t.open_ start≤8192; omega
theorem QHp {p:Qaz} (h:QmZ p.x.net p.t p.stops) (hs:0≤p.r.start∧p.r.start≤4096) {rests:List Bool} (hr:rests.length=p.stops.length+1):QgF p rests=some (runS p.x.net p.t p.stops p.r.start rests):=by
 have hfew:=h.few
 apply post.eq
 unfold QgF
 have hbeg:Qdo p=some (begS p.t p.r.start):=by
  unfold Qdo begS; rw [Qxw]; rfl
 show post (bnd (Qdo p) _) _
 rw [hbeg,Qaj]
 refine Qbc (R:=fun e:Qaf⊕(Qap×Int)=>e=(if (runK p.x.net p.t p.stops rests 0 (begS p.t p.r.start)).2≠0 then .inr (QqE,(runK p.x.net p.t p.stops rests 0 (begS p.t p.r.start)).2) else .inl (runK p.x.net p.t p.stops rests 0 (begS p.t p.r.start)).1)) ?_ ?_
 ·refine QeM (fun s=>∃ (k:Nat) (l:Qaf),k≤rests.length∧s=(p.t.rest_,l,(k:Int))∧(k≤p.stops.length→LabI k l)∧runK p.x.net p.t p.stops (rests.drop k) k l=runK p.x.net p.t p.stops rests 0 (begS p.t p.r.start)) (fun s=>rests.length-s.2.2.toNat) ⟨0,_,Nat.zero_le _,rfl,fun _=>Qw6 h hs,rfl⟩ (by simp; omega) ?_
  rintro _ ⟨k,l,hk,rfl,hL,hf⟩
  show post (QfG p rests _ p.t.rest_ l (k:Int)) _
  unfold QfG
  refine Qa0 (fun hb=>?_) (fun hb=>QdT ?_)
  ·simp only [Qsh,lenI] at hb
   have hk':k<rests.length:=by omega
   have e1:rests[k]?=some rests[k]:=List.getElem?_eq_getElem hk'
   rw [QaX e1,Qaj,inc hk' (by omega)]
   rw [List.drop_eq_getElem_cons hk'] at hf
   simp only [runK] at hf
   show post (bnd (Qe2 p l (k:Int) rests[k]) _) _
   rw [QD8 h (hL (by omega)) (by omega),Qaj]
   generalize rests[k]=b at *
   refine Qa0 (fun hc=>QdT ?_) (fun hc=>Qhj ⟨⟨k+1,(nxt p.x.net p.t p.stops l k b).1,by omega,rfl,fun h'=>?_,?_⟩,by simp; omega⟩)
   ·simp only [Qzf] at hc
    rw [if_pos hc] at hf
    rw [← hf,if_pos hc]; rfl
   ·simp only [QFb] at hc
    exact Qxy h (hL (by omega)) (by omega) hc
   ·simp only [QFb] at hc
    rwa [if_neg (by simpa using hc)] at hf
  ·simp only [QsA,lenI] at hb
   rw [List.drop_eq_nil_of_le (by omega)] at hf
   simp only [runK] at hf
   rw [← hf,if_neg (by simp)]
 ·rintro e rfl
  unfold runS
  split
  ·rw [Qjn]; exact QaH.2 rfl
  ·rw [Qgh]; exact QaH.2 rfl
theorem QGD {x:Qac} {s:QaA} (hn:QEo x.net) (ht:inT s.time) (hd:0≤s.driven∧s.driven≤4096) (hm:0≤s.miles∧s.miles≤1000000) (to_ close late:Int) :
  QdC x t s to_ close late=some (if (goN x.net t.profile s.place to_ s.time).2.2≠0 then (s,12) else if close<(goN x.net t.profile s.place to_ s.time).1 then (s,late)
   else if t.drive<s.driven+(goN x.net t.profile s.place to_ s.time).1-s.time then (s,16)
   else (QaA.mk to_ (goN x.net t.profile s.place to_ s.time).1 (s.driven+(goN x.net t.profile s.place to_ s.time).1-s.time) (s.miles+(goN x.net t.profile s.place to_ s.time).2.1),0)):=by
 unfold QdC QmP
 show bnd (bnd (Qi7 x.net t.profile s.place to_ s.time) _) _=_
 rw [Qz4 hn _ _ _ ht,Qaj,Qaj]
 by_cases h0:(goN x.net t.profile s.place to_ s.time).2.2=0
 ·have hb:=Qxm hn ht h0
  unfold inT at ht
  rw [QaY (by simpa using h0),if_neg (by simpa using h0)]
  simp (disch:=omega) only [addI,subI,QCU,QyZ]
  split
  ·rfl
  ·split <;> rfl
 ·rw [QaO (by simpa using h0),if_pos h0]
def stS (t:Qal) (stops:List Qaw) (l:Qaf) (k:Nat) (b:Bool):QaA:=QaA.mk (QpE t stops k) (depS t l b) (sinS l b) l.sheet.miles
theorem QBK {ts:List Qar} {a m d:Int} {e:Bool} {dep:Int}:QEa (ts++[Qar.mk a m d e]) ts.length dep b=ts++[Qar.mk a m dep b]:=by
 unfold QEa
 rw [List.getElem?_append_right (Nat.le_refl _),Nat.sub_self]
 show (ts++[Qar.mk a m d e]).set ts.length (Qar.mk a m dep b)=_
 rw [List.set_append_right _ _ (Nat.le_refl _),Nat.sub_self]
 rfl
theorem QGE {x:Qac} {r:Qad} (hp:QuG x r=true) (hk:k<r.visits.length):∃ v,r.visits[k]?=some v∧Qef x v=some (stopK t (QaB x r) k,true):=by
 obtain ⟨v,h1,h2⟩:=Qyv hp (Qyu (t:=t) (by rw [QmT]; exact hk))
 exact ⟨v,h1,by rw [Qwn,h2]⟩
theorem QCj {x:Qac} {to_ close late:Int} (hx:QbW x) (hT:QmZ x.net t stops) (hL:LabI k l) (hk:k≤20) (h1:(stopK t stops k).place=to_) (h2:(stopK t stops k).close=close) (h3:(if k<stops.length then 14 else 15)=late) :
  ∃ X,QdC x t (stS t stops l k b) to_ close late=some X∧X.2=(nxt x.net t stops l k b).2 ∧
   ((nxt x.net t stops l k b).2=0→X=(QaA.mk to_ (goN x.net t.profile (QpE t stops k) (stopK t stops k).place (depS t l b)).1 (sinS l b+(goN x.net t.profile (QpE t stops k) (stopK t stops k).place (depS t l b)).1-depS t l b) (l.sheet.miles+(goN x.net t.profile (QpE t stops k) (stopK t stops k).place (depS t l b)).2.1),0)):=by
 have hin:=Qx0 (rest:=b) hT hL
 have hsn:0≤sinS l b∧sinS l b≤4096:=by have:=hL.since0; have:=hL.since1; unfold sinS; split <;> omega
 have hm0:=hL.miles0; have hm1:=hL.miles1
 have hstep:=QGD (t:=t) (s:=stS t stops l k b) hx.net hin hsn ⟨hm0,by show l.sheet.miles≤1000000; omega⟩ to_ close late
 subst h1 h2 h3
 refine ⟨_,hstep,?_,fun h0=>?_⟩
 ·unfold nxt nxtD
  show (if (goN x.net t.profile (QpE t stops k) (stopK t stops k).place (depS t l b)).2.2≠0 then _ else if (stopK t stops k).close<(goN x.net t.profile (QpE t stops k) (stopK t stops k).place (depS t l b)).1 then _ else if t.drive<sinS l b+(goN x.net t.profile (QpE t stops k) (stopK t stops k).place (depS t l b)).1-depS t l b then _ else _:QaA×Int).2=_
  split
  ·rfl
  ·split
   ·rfl
   ·split <;> rfl
 ·obtain ⟨g0,g1,g2,g3⟩:=QvY hT hL h0
  show (if (goN x.net t.profile (QpE t stops k) (stopK t stops k).place (depS t l b)).2.2≠0 then _ else if (stopK t stops k).close<(goN x.net t.profile (QpE t stops k) (stopK t stops k).place (depS t l b)).1 then _ else if t.drive<sinS l b+(goN x.net t.profile (QpE t stops k) (stopK t stops k).place (depS t l b)).1-depS t l b then _ else _:QaA×Int)=_
  rw [if_neg (by simpa using g0),if_neg (by omega),if_neg (by omega)]
  rfl
theorem QB3 {x : Qac} {r : Qad} {rests : List Bool} (hx : QbW x) (hv : r.visits.length ≤ 1048576) : Qh7 x r rests = some (if QuG x r = true ∧ rests.length = r.visits.length + 1 then
      ((runS x.net (typS x r) (QaB x r) r.start rests).1, if (runS x.net (typS x r) (QaB x r) r.start rests).2 = 0 then runD x.net (typS x r) (QaB x r) rests 0 (begS (typS x r) r.start) else [], (runS x.net (typS x r) (QaB x r) r.start rests).2) else (QqE, [], 2)) := by
  unfold Qh7
  show bnd (Qdj x r) _ = _
  rw [QEc, Qaj]
  have hadd : addK .i64 (lenI r.visits) 1 = (r.visits.length : Int) + 1 := by unfold lenI; exact addI (by omega) (by omega)
  rw [hadd]
  by_cases hc : QuG x r = true ∧ rests.length = r.visits.length + 1
  · obtain ⟨hp, hr⟩ := hc
    have h5 := of_decide_eq_true (QpM hp)
    have hT := QDE hx hp
    rw [if_pos ⟨hp, hr⟩, hp, QaO (by simp only [Bool.not_true, Bool.false_or, QFb, lenI]; omega), (QCm (QpM hp)).1, Qaj]
    have e0 : rests[0]? = some (rests[0]'(by omega)) := List.getElem?_eq_getElem _
    rw [show getI rests 0 = some (rests[0]'(by omega)) from QaX (k := 0) e0, Qaj]
    have hL0 := Qw6 hT ⟨h5.2.2.1, h5.2.2.2.1⟩
    have hrest : ∀ (s : QaA) (b : Bool), 0 ≤ s.time ∧ s.time ≤ 20000 → Qhc (typS x r) s b = some (QaA.mk s.place (s.time + (if b = true then (typS x r).rest_ else 0)) (if b = true then 0 else s.driven) s.miles) := by
      intro s b hs
      have := hT.rest
      unfold Qhc
      cases b with
      | true => rw [QjV, addI (by omega) (by omega)]; rfl
      | false => rw [Qhg]; simp
    have hmx : maxI (typS x r).open_ r.start = (begS (typS x r) r.start).ready := by rw [Qxw]; rfl
    rw [hmx, hrest _ _ ⟨hL0.ready0, by have := hL0.ready1; show (begS (typS x r) r.start).ready ≤ 20000; omega⟩, Qaj]
    generalize hb0 : rests[0]'(by omega) = b0 at e0
    have hst0 : QaA.mk (typS x r).from_ ((begS (typS x r) r.start).ready + (if b0 = true then (typS x r).rest_ else 0)) (if b0 = true then 0 else 0) 0 = stS (typS x r) (QaB x r) (begS (typS x r) r.start) 0 b0 := rfl
    show bnd (QaT _ ([], [], QaA.mk (typS x r).from_ ((begS (typS x r) r.start).ready + (if b0 = true then (typS x r).rest_ else 0)) (if b0 = true then 0 else 0) 0, depS (typS x r) (begS (typS x r) r.start) b0, 0)) _ = _
    rw [hst0]
    apply post.eq
    have hsl := QmT (x := x) (r := r)
    -- what the loop over the visits comes to
    refine Qbc (R := fun e : (List Int × List Qar × QaA × Int) ⊕ (Qap × List Int × Int) =>
      (∃ err, err ≠ 0 ∧ e = .inr (QqE, [], err) ∧ (runK x.net (typS x r) (QaB x r) rests 0 (begS (typS x r) r.start)).2 = err) ∨
      (∃ (l : Qaf) (b : Bool) (dr : List Int) (dep : Int), LabI r.visits.length l ∧ e = .inl (dr, QpO l r.visits.length (depS (typS x r) l b) b, stS (typS x r) (QaB x r) l r.visits.length b, dep) ∧ dr.length = r.visits.length ∧
        (if r.visits.length = 0 then b else l.sheet.rest_) = b0 ∧ (if r.visits.length = 0 then depS (typS x r) l b else l.sheet.depart) = dep ∧
        runK x.net (typS x r) (QaB x r) [b] r.visits.length l = runK x.net (typS x r) (QaB x r) rests 0 (begS (typS x r) r.start) ∧
        dr ++ runD x.net (typS x r) (QaB x r) [b] r.visits.length l = runD x.net (typS x r) (QaB x r) rests 0 (begS (typS x r) r.start))) ?_ ?_
    · refine QeM (fun s => ∃ (k : Nat) (l : Qaf) (b : Bool) (dr : List Int) (dep : Int), k ≤ r.visits.length ∧ LabI k l ∧ rests[k]? = some b ∧ s = (dr, QpO l k (depS (typS x r) l b) b, stS (typS x r) (QaB x r) l k b, dep, (k : Int)) ∧ dr.length = k ∧
        (if k = 0 then b else l.sheet.rest_) = b0 ∧ (if k = 0 then depS (typS x r) l b else l.sheet.depart) = dep ∧
        runK x.net (typS x r) (QaB x r) (rests.drop k) k l = runK x.net (typS x r) (QaB x r) rests 0 (begS (typS x r) r.start) ∧
        dr ++ runD x.net (typS x r) (QaB x r) (rests.drop k) k l = runD x.net (typS x r) (QaB x r) rests 0 (begS (typS x r) r.start)) (fun s => r.visits.length - s.2.2.2.2.toNat)
        ⟨0, _, b0, [], _, Nat.zero_le _, hL0, e0, rfl, rfl, rfl, rfl, rfl, rfl⟩ (by simp; omega) ?_
      rintro _ ⟨k, l, b, dr, dep, hk, hL, hbk, rfl, hdr, hq1, hq2, hf, hfd⟩
      show post (QfI x r rests (typS x r) b0 dr (QpO l k (depS (typS x r) l b) b) (stS (typS x r) (QaB x r) l k b) dep (k : Int)) _
      unfold QfI
      have hkr : k < rests.length := (List.getElem?_eq_some_iff.1 hbk).1
      have hcons : rests.drop k = b :: rests.drop (k + 1) := by
        rw [List.drop_eq_getElem_cons hkr]; congr 1; rw [List.getElem?_eq_getElem hkr] at hbk; exact Option.some.inj hbk
      refine Qa0 (fun hb => ?_) (fun hb => QdT (.inr ?_))
      · simp only [Qsh, lenI] at hb
        have hk' : k < r.visits.length := by omega
        obtain ⟨v, hv1, hv2⟩ := QGE (t := typS x r) hp hk'
        rw [hcons] at hf hfd
        simp only [runK, runD] at hf hfd
        rw [QaX hv1, Qaj]
        show post (bnd (Qef x v) fun r3 => bnd (QdC x (typS x r) (stS (typS x r) (QaB x r) l k b) r3.1.place r3.1.close 14) _) _
        have hin := Qx0 (rest := b) hT hL
        have hsn : 0 ≤ sinS l b ∧ sinS l b ≤ 4096 := by have := hL.since0; have := hL.since1; unfold sinS; split <;> omega
        have hm0 := hL.miles0; have hm1 := hL.miles1
        obtain ⟨X, hX1, hX2, hX3⟩ := QCj (b := b) hx hT hL (by have := h5.2.2.2.2; omega) (to_ := (stopK (typS x r) (QaB x r) k).place) (close := (stopK (typS x r) (QaB x r) k).close) (late := 14) rfl rfl (by rw [if_pos (by rw [hsl]; exact hk')])
        rw [hv2, Qaj, hX1, Qaj]
        by_cases h0 : (nxt x.net (typS x r) (QaB x r) l k b).2 = 0
        · obtain ⟨g0, g1, g2, g3⟩ := QvY hT hL h0
          have hL' := Qxy hT hL (by rw [hsl]; exact hk') h0
          have hX4 := hX3 h0
          rw [if_neg (by simpa using h0)] at hf
          have hb1 : rests[k + 1]? = some (rests[k + 1]'(by omega)) := List.getElem?_eq_getElem _
          have hgb := Qxm hx.net hin g0
          have hS := hT.stopK k
          have h51 := hS.open0; have h52 := hS.open1; have h53 := hS.close; have h54 := hS.serv0; have h55 := hS.serv1
          have hin' := hin
          unfold inT at hin'
          rw [QaO (by rw [hX2]; simpa using h0), hX4]
          simp only
          have hkl : k < (QaB x r).length := by rw [hsl]; exact hk'
          have hplace : QpE (typS x r) (QaB x r) (k + 1) = (stopK (typS x r) (QaB x r) k).place := by
            show ((QaB x r).getD k QCD).place = ((QaB x r).getD k (endS (typS x r))).place
            rw [List.getD_eq_getElem?_getD, List.getD_eq_getElem?_getD, List.getElem?_eq_getElem hkl]; rfl
          generalize hgg : goN x.net (typS x r).profile (QpE (typS x r) (QaB x r) k) (stopK (typS x r) (QaB x r) k).place (depS (typS x r) l b) = g at *
          generalize hl' : (nxt x.net (typS x r) (QaB x r) l k b).1 = l' at *
          have hdrl : (dr ++ [sinS l b + g.1 - depS (typS x r) l b]).length = k + 1 := by rw [List.length_append, hdr]; rfl
          refine QbG (QeN (by rw [hdrl]; omega)) ?_
          rw [inc (n := r.visits.length) hk' (by omega), show (k : Int) + 1 = ((k + 1 : Nat) : Int) by omega, QaX hb1, Qaj]
          generalize rests[k + 1]'(by omega) = b' at hb1
          rw [Qxw, addI (by omega) (by omega), hrest _ _ ⟨by show 0 ≤ max g.1 _ + _; omega, by show max g.1 _ + _ ≤ 20000; omega⟩, Qaj]
          refine QbG (QeN (by rw [List.length_append, QnQ, hL.times]; simp; omega)) (Qhj ⟨⟨k + 1, l', b', dr ++ [sinS l b + g.1 - depS (typS x r) l b], dep, by omega, hL', hb1, ?_, hdrl, ?_, ?_, hf, ?_⟩, by simp; omega⟩)
          · rw [g3]
            have ht1 : (QpO l k (depS (typS x r) l b) b).length = k := by rw [QnQ, hL.times]
            have ht2 : QpO (Qaf.mk (max g.1 (stopK (typS x r) (QaB x r) k).open_ + (stopK (typS x r) (QaB x r) k).service) (sinS l b + g.1 - depS (typS x r) l b) (shS (typS x r) (QaB x r) l k b (depS (typS x r) l b) g)) (k + 1) (max g.1 (stopK (typS x r) (QaB x r) k).open_ + (stopK (typS x r) (QaB x r) k).service + (if b' = true then (typS x r).rest_ else 0)) b' =
                QpO l k (depS (typS x r) l b) b ++ [Qar.mk g.1 (max g.1 (stopK (typS x r) (QaB x r) k).open_) (max g.1 (stopK (typS x r) (QaB x r) k).open_ + (stopK (typS x r) (QaB x r) k).service + (if b' = true then (typS x r).rest_ else 0)) b'] := by
              show QEa (if k < (QaB x r).length then QpO l k (depS (typS x r) l b) b ++ [Qar.mk g.1 (max g.1 (stopK (typS x r) (QaB x r) k).open_) 0 false] else _) k _ b' = _
              rw [if_pos hkl]
              have := QBK (b := b') (ts := QpO l k (depS (typS x r) l b) b) (a := g.1) (m := max g.1 (stopK (typS x r) (QaB x r) k).open_) (d := 0) (e := false) (dep := max g.1 (stopK (typS x r) (QaB x r) k).open_ + (stopK (typS x r) (QaB x r) k).service + (if b' = true then (typS x r).rest_ else 0))
              rw [ht1] at this
              exact this
            show (_, _, _, _, _) = (_, QpO _ (k + 1) (max g.1 (stopK (typS x r) (QaB x r) k).open_ + (stopK (typS x r) (QaB x r) k).service + (if b' = true then (typS x r).rest_ else 0)) b', _, _, _)
            rw [ht2]
            unfold stS
            rw [hplace]
            rfl
          · rw [if_neg (by omega), g3]; exact hq1
          · rw [if_neg (by omega), g3]; exact hq2
          · rw [← hfd, List.append_assoc, g3]; rfl
        · rw [QaY (by rw [hX2]; simpa using h0), hX2]
          rw [if_pos h0] at hf
          exact QdT (.inl ⟨_, h0, rfl, by rw [← hf]⟩)
      · simp only [QsA, lenI] at hb
        have hkv : k = r.visits.length := by omega
        subst hkv
        have hd1 : rests.drop (r.visits.length + 1) = [] := List.drop_eq_nil_of_le (by omega)
        rw [hcons, hd1] at hf hfd
        exact ⟨l, b, dr, dep, hL, rfl, hdr, hq1, hq2, hf, hfd⟩
    · unfold runS
      rintro e (⟨err, h1, rfl, h2⟩ | ⟨l, b, dr, dep, hL, rfl, hdr, hq1, hq2, hf, hfd⟩)
      · rw [Qjn, h2, if_pos h1]
        refine QaH.2 ?_
        simp only
        rw [if_neg h1]
      · rw [Qgh]
        obtain ⟨X, hX1, hX2, hX3⟩ := QCj (b := b) hx hT hL (by have := h5.2.2.2.2; omega) (to_ := (typS x r).to_) (close := (typS x r).close) (late := 15) (by rw [QrV (by rw [hsl]; omega)]; rfl) (by rw [QrV (by rw [hsl]; omega)]; rfl) (by rw [if_neg (by rw [hsl]; omega)])
        show post (bnd (QdC x (typS x r) (stS (typS x r) (QaB x r) l r.visits.length b) (typS x r).to_ (typS x r).close 15) _) _
        rw [hX1, Qaj]
        simp only [runK, runD] at hf hfd
        by_cases h0 : (nxt x.net (typS x r) (QaB x r) l r.visits.length b).2 = 0
        · obtain ⟨g0, g1, g2, g3⟩ := QvY hT hL h0
          rw [if_neg (by simpa using h0)] at hf
          rw [QaO (by rw [hX2]; simpa using h0), hX3 h0, ← hf, ← hfd]
          refine QbG (QeN (by simp; omega)) (QaH.2 ?_)
          simp only [ne_eq, not_true_eq_false, if_false, if_true]
          rw [g3]
          unfold shS
          have hnl : ¬ r.visits.length < (QaB x r).length := by rw [hsl]; omega
          rw [hq1, hq2, if_neg hnl, if_neg hnl]
        · rw [if_pos h0] at hf
          rw [QaY (by rw [hX2]; simpa using h0), ← hf, hX2]
          refine QaH.2 ?_
          simp only
          rw [if_pos h0, if_neg h0]; rfl
  · rw [if_neg hc]
    rw [QaY]
    · rfl
    · by_cases hp : QuG x r = true
      · simp only [hp, Bool.not_true, Bool.false_or, Qzf, lenI]
        intro h; exact hc ⟨hp, by omega⟩
      · simp [hp]
end
end Go.Proofs.YtpkkaboonnedfaaGreatDoor
namespace Go.Proofs.YtpkkaboonnedfaaGreatDoor
set_option linter.unusedSimpArgs false
set_option linter.unusedVariables false
set_option linter.unusedSectionVars false
section
variable (n : Qam) (t : Qal) (stops : List Qaw) (start : Int) (rests : List Bool)
noncomputable def labK:Nat→Qaf
 | 0=>begS t start
 | k+1=>(nxt n t stops (labK k) k (rests.getD k false)).1
noncomputable def depK (k:Nat):Int:=depS t (labK n t stops start rests k) (rests.getD k false)
noncomputable def goK (k:Nat):Int×Int×Int:=goN n t.profile (QpE t stops k) (stopK t stops k).place (depK n t stops start rests k)
end
section
variable {n : Qam} {t : Qal} {stops : List Qaw} {start : Int} {rests : List Bool}
theorem QB9:∀ (m k:Nat),m+k=rests.length→(runK n t stops (rests.drop k) k (labK n t stops start rests k)).2=0 →
  (∀ j,k≤j→j<rests.length→(nxt n t stops (labK n t stops start rests j) j (rests.getD j false)).2=0)∧runK n t stops (rests.drop k) k (labK n t stops start rests k)=(labK n t stops start rests rests.length,0)
 | 0,k,hm,h=>by
  have hk:k=rests.length:=by omega
  subst hk
  rw [List.drop_length]
  exact ⟨fun j h1 h2=>by omega,rfl⟩
 | m+1,k,hm,h=>by
  have hk:k<rests.length:=by omega
  have hg:rests.getD k false=rests[k]:=by rw [List.getD_eq_getElem?_getD,List.getElem?_eq_getElem hk]; rfl
  rw [List.drop_eq_getElem_cons hk] at h ⊢
  simp only [runK] at h ⊢
  rw [← hg] at h ⊢
  by_cases h0:(nxt n t stops (labK n t stops start rests k) k (rests.getD k false)).2=0
  ·rw [if_neg (by simpa using h0)] at h ⊢
   obtain ⟨h1,h2⟩:=QB9 m (k+1) (by omega) h
   refine ⟨fun j hj hj'=>?_,h2⟩
   rcases Nat.lt_or_ge k j with h'|h'
   ·exact h1 j h' hj'
   ·obtain rfl:j=k:=by omega
    exact h0
  ·rw [if_pos h0] at h; exact absurd h h0
structure Okay (n:Qam) (t:Qal) (stops:List Qaw) (start:Int) (rests:List Bool):Prop where
 trip:QmZ n t stops
 st:0≤start∧start≤4096
 len:rests.length=stops.length+1
 all:∀ j,j<rests.length→(nxt n t stops (labK n t stops start rests j) j (rests.getD j false)).2=0
theorem QGm (hT:QmZ n t stops) (hs:0≤start∧start≤4096) (hl:rests.length=stops.length+1) (h:(runS n t stops start rests).2=0) :
  Okay n t stops start rests∧(runS n t stops start rests).1=(labK n t stops start rests rests.length).sheet:=by
 unfold runS at h ⊢
 split at h
 ·rename_i h1; exact absurd h h1
 ·rename_i h1
  rw [if_neg h1]
  have h2:(runK n t stops rests 0 (begS t start)).2=0:=by simpa using h1
  obtain ⟨h3,h4⟩:=QB9 rests.length 0 (by omega) h2
  refine ⟨⟨hT,hs,hl,fun j hj=>h3 j (Nat.zero_le _) hj⟩,?_⟩
  have h5:runK n t stops rests 0 (begS t start)=(labK n t stops start rests rests.length,0):=h4
  rw [h5]
section
variable (h : Okay n t stops start rests)
include h
theorem Okay.lab:∀ k,k≤stops.length→LabI k (labK n t stops start rests k)
 | 0,_=>Qw6 h.trip h.st
 | k+1,hk=>Qxy h.trip (Okay.lab k (by omega)) (by omega) (h.all k (by rw [h.len]; omega))
theorem Okay.step {k:Nat} (hk:k≤stops.length) :
  (goK n t stops start rests k).2.2=0∧(goK n t stops start rests k).1≤(stopK t stops k).close ∧
  labK n t stops start rests (k+1)=Qaf.mk (max (goK n t stops start rests k).1 (stopK t stops k).open_+(stopK t stops k).service) (sinS (labK n t stops start rests k) (rests.getD k false)+(goK n t stops start rests k).1-depK n t stops start rests k)
   (shS t stops (labK n t stops start rests k) k (rests.getD k false) (depK n t stops start rests k) (goK n t stops start rests k)):=by
 obtain ⟨g0,g1,g2,g3⟩:=QvY h.trip (Okay.lab h k hk) (h.all k (by rw [h.len]; omega))
 exact ⟨g0,g1,g3⟩
theorem Okay.dep {k:Nat} (hk:k≤stops.length):inT (depK n t stops start rests k):=Qx0 h.trip (Okay.lab h k hk)
theorem Okay.go {k:Nat} (hk:k≤stops.length):depK n t stops start rests k≤(goK n t stops start rests k).1:=(Qxm h.trip.net (Okay.dep h hk) (Okay.step h hk).1).1
theorem Okay.ready {k:Nat} (hk:k≤stops.length):(labK n t stops start rests (k+1)).ready=max (goK n t stops start rests k).1 (stopK t stops k).open_+(stopK t stops k).service:=by rw [(Okay.step h hk).2.2]
theorem Okay.since {k:Nat} (hk:k≤stops.length):(labK n t stops start rests (k+1)).since=sinS (labK n t stops start rests k) (rests.getD k false)+(goK n t stops start rests k).1-depK n t stops start rests k:=by rw [(Okay.step h hk).2.2]
theorem Okay.miles {k:Nat} (hk:k≤stops.length):(labK n t stops start rests (k+1)).sheet.miles=(labK n t stops start rests k).sheet.miles+(goK n t stops start rests k).2.1:=by rw [(Okay.step h hk).2.2]; rfl
theorem Okay.headr:∀ {k:Nat},k≤stops.length→(labK n t stops start rests (k+1)).sheet.rest_=rests.getD 0 false∧(labK n t stops start rests (k+1)).sheet.depart=depK n t stops start rests 0
 | 0,hk=>by rw [(Okay.step h hk).2.2]; exact ⟨rfl,rfl⟩
 | k+1,hk=>by
  have:=Okay.headr (k:=k) (by omega)
  rw [(Okay.step h hk).2.2]
  exact this
theorem Okay.patched (k:Nat) (hk:k≤stops.length) (ih:∀ i,i<k →
  (labK n t stops start rests k).sheet.times[i]?=some (if i+1<k then Qar.mk (goK n t stops start rests i).1 (max (goK n t stops start rests i).1 (stopK t stops i).open_) (depK n t stops start rests (i+1)) (rests.getD (i+1) false)
   else Qar.mk (goK n t stops start rests i).1 (max (goK n t stops start rests i).1 (stopK t stops i).open_) 0 false)) (i:Nat) (hi:i<k) :
  (QpO (labK n t stops start rests k) k (depK n t stops start rests k) (rests.getD k false))[i]?=some (Qar.mk (goK n t stops start rests i).1 (max (goK n t stops start rests i).1 (stopK t stops i).open_) (depK n t stops start rests (i+1)) (rests.getD (i+1) false)):=by
  have hlen:=(Okay.lab h k hk).times
  unfold QpO QEa
  rw [if_neg (by omega)]
  have hl:=ih (k-1) (by omega)
  rw [if_neg (by omega)] at hl
  rw [hl]
  simp only
  rw [List.getElem?_set]
  by_cases hc:k-1=i
  ·rw [if_pos hc,if_pos (by omega)]
   subst hc
   rw [show k-1+1=k by omega]
  ·rw [if_neg hc,ih i hi,if_pos (by omega)]
theorem Okay.entries:∀ {k:Nat},k≤stops.length→∀ i,i<k →
  (labK n t stops start rests k).sheet.times[i]?=some (if i+1<k then Qar.mk (goK n t stops start rests i).1 (max (goK n t stops start rests i).1 (stopK t stops i).open_) (depK n t stops start rests (i+1)) (rests.getD (i+1) false)
   else Qar.mk (goK n t stops start rests i).1 (max (goK n t stops start rests i).1 (stopK t stops i).open_) 0 false)
 | 0,_,i,hi=>by omega
 | k+1,hk,i,hi=>by
  have hlen:=(Okay.lab h k (by omega)).times
  have htl:(QpO (labK n t stops start rests k) k (depK n t stops start rests k) (rests.getD k false)).length=k:=by rw [QnQ,hlen]
  have e:(labK n t stops start rests (k+1)).sheet.times=QpO (labK n t stops start rests k) k (depK n t stops start rests k) (rests.getD k false)++[Qar.mk (goK n t stops start rests k).1 (max (goK n t stops start rests k).1 (stopK t stops k).open_) 0 false]:=by
   rw [(Okay.step h (by omega)).2.2]
   show (if k<stops.length then _ else _:List Qar)=_
   rw [if_pos (by omega)]
  rw [e]
  by_cases hik:i<k
  ·rw [List.getElem?_append_left (by omega),if_pos (by omega)]
   exact Okay.patched h k (by omega) (Okay.entries (by omega)) i hik
  ·obtain rfl:i=k:=by omega
   rw [List.getElem?_append_right (by omega),htl,Nat.sub_self,if_neg (by omega)]; rfl
theorem Okay.final:(labK n t stops start rests rests.length).sheet.times.length=stops.length∧(∀ i,i<stops.length→(labK n t stops start rests rests.length).sheet.times[i]?=some (Qar.mk (goK n t stops start rests i).1 (max (goK n t stops start rests i).1 (stopK t stops i).open_) (depK n t stops start rests (i+1)) (rests.getD (i+1) false))) ∧
  (labK n t stops start rests rests.length).sheet.end_=(goK n t stops start rests stops.length).1:=by
 have hst:=(Okay.step h (k:=stops.length) (Nat.le_refl _)).2.2
 have hlab:=Okay.lab h stops.length (Nat.le_refl _)
 rw [h.len,hst]
 have hn:¬ stops.length<stops.length:=Nat.lt_irrefl _
 refine ⟨?_,fun i hi=>?_,?_⟩
 ·show (if stops.length<stops.length then _ else _:List Qar).length=_
  rw [if_neg hn,QnQ,hlab.times]
 ·show (if stops.length<stops.length then _ else _:List Qar)[i]?=_
  rw [if_neg hn]
  exact Okay.patched h stops.length (Nat.le_refl _) (fun i hi=>Okay.entries h (Nat.le_refl _) i hi) i hi
 ·show (if stops.length<stops.length then _ else _:Int)=_
  rw [if_neg hn]
end
end
end Go.Proofs.YtpkkaboonnedfaaGreatDoor
namespace Go.Proofs.YtpkkaboonnedfaaGreatDoor
set_option linter.unusedSimpArgs false
set_option linter.unusedVariables false
set_option linter.unusedSectionVars false
section
variable {n : Qam} {t : Qal} {stops : List Qaw} {start : Int} {rests : List Bool}
theorem QDl {l:Qaf} {k:Nat} {b:Bool}:(nxt n t stops l k b).1.sheet.times.length≤l.sheet.times.length+1:=by
 unfold nxt nxtD
 split
 ·exact Nat.zero_le _
 ·split
  ·exact Nat.zero_le _
  ·split
   ·exact Nat.zero_le _
   ·show (if k<stops.length then _ else _:List Qar).length≤_
    split
    ·rw [List.length_append,QnQ]; exact Nat.le_refl _
    ·rw [QnQ]; omega
theorem QxD:∀ (rests:List Bool) (k:Nat) (l:Qaf),(runK n t stops rests k l).1.sheet.times.length≤l.sheet.times.length+rests.length
 | [],k,l=>by simp [runK]
 | b :: r,k,l=>by
  simp only [runK]
  split
  ·exact Nat.zero_le _
  ·have h1:=QxD r (k+1) (nxt n t stops l k b).1
   have h2:=QDl (n:=n) (t:=t) (stops:=stops) (l:=l) (k:=k) (b:=b)
   simp only [List.length_cons]; omega
end
noncomputable def runR (x:Qac) (r:Qad) (rests:List Bool):Qap×Int:=if QuG x r=true∧rests.length=r.visits.length+1 then runS x.net (typS x r) (QaB x r) r.start rests else (QqE,2)
theorem QB2 {x:Qac} {r:Qad} {rests:List Bool} (hx:QbW x) (hv:r.visits.length≤1048576):QeV x r rests=some (runR x r rests):=by
 unfold QeV runR
 show bnd (Qh7 x r rests) _=_
 rw [QB3 hx hv,Qaj]
 split <;> rfl
end Go.Proofs.YtpkkaboonnedfaaGreatDoor
namespace Go.Proofs.YtpkkaboonnedfaaGreatDoor
set_option linter.unusedSimpArgs false
set_option linter.unusedVariables false
set_option linter.unusedSectionVars false
theorem QA8 {l:List Bool} {i:Nat} (h:i<l.length):l[i]?=some (l.getD i false):=by rw [List.getD_eq_getElem?_getD,List.getElem?_eq_getElem h]; rfl
end Go.Proofs.YtpkkaboonnedfaaGreatDoor
namespace Go.Proofs.YtpkkaboonnedfaaGreatDoor
set_option linter.unusedSimpArgs false
set_option linter.unusedVariables false
set_option linter.unusedSectionVars false
def Qvw (s:Qap):List Bool:=s.rest_ :: s.times.map (·.rest_)
noncomputable def QHu (x:Qac) (r:Qad) (s:Qap):Int :=
 if QuG x r=true∧r.rests.length≤r.visits.length+1∧s.times.length=r.visits.length then
  if (Qvw s).take r.rests.length=r.rests then
   if (runR x r (Qvw s)).2≠0 then (runR x r (Qvw s)).2 else if s=(runR x r (Qvw s)).1 then 0 else 9
  else 9
 else 2
section
variable {x : Qac} {r : Qad} {s : Qap}
theorem v2 (h:¬ (QuG x r=true∧r.rests.length≤r.visits.length+1∧s.times.length=r.visits.length)):QHu x r s=2:=if_neg h
end
end Go.Proofs.YtpkkaboonnedfaaGreatDoor
namespace Go.Proofs.YtpkkaboonnedfaaGreatDoor
set_option linter.unusedSimpArgs false
set_option linter.unusedVariables false
set_option linter.unusedSectionVars false
def valB (b:List Bool):Nat:=b.foldl (fun v c=>2*v+(if c=true then 1 else 0)) 0
theorem QrW (b:List Bool) (c:Bool):valB (b++[c])=2*valB b+(if c=true then 1 else 0):=by simp [valB,List.foldl_append]
theorem QGG (b:List Bool):valB b<2 ^ b.length:=by
 have:∀ (b:List Bool) (v:Nat),b.foldl (fun v c=>2*v+(if c=true then 1 else 0)) v<(v+1)*2 ^ b.length:=by
  intro b
  induction b with
  | nil=>intro v; simp
  | cons c b ih =>
   intro v
   have:=ih (2*v+(if c=true then 1 else 0))
   rw [List.foldl_cons,List.length_cons,Nat.pow_succ]
   refine Nat.lt_of_lt_of_le this ?_
   rw [show (v+1)*(2 ^ b.length*2)=(2*v+2)*2 ^ b.length by rw [Nat.mul_comm (2 ^ b.length) 2,← Nat.mul_assoc]; congr 1; omega]
   exact Nat.mul_le_mul_right _ (by split <;> omega)
 simpa [valB] using this b 0
section
variable (n : Qam) (t : Qal) (stops : List Qaw) (start : Int)
noncomputable def preB (b:List Bool):Qaf×Int:=runK n t stops b 0 (begS t start)
def okB (b:List Bool):Prop:=(preB n t stops start b).2=0
noncomputable def lbB (b:List Bool):Qaf:=(preB n t stops start b).1
def QyI (d b:List Bool):Prop:=(lbB n t stops start d).ready=(lbB n t stops start b).ready∧(lbB n t stops start d).since≤(lbB n t stops start b).since
open Classical in
noncomputable def QtB (out:List (List Bool)) (b:List Bool):List (List Bool):=if okB n t stops start b∧¬ ∃ d∈out,QyI n t stops start d b then out++[b] else out
end
section
variable {n : Qam} {t : Qal} {stops : List Qaw} {start : Int}
theorem QuU:∀ (b:List Bool) (k:Nat) (l:Qaf) (c:Bool),(runK n t stops b k l).2=0→runK n t stops (b++[c]) k l=if (nxt n t stops (runK n t stops b k l).1 (k+b.length) c).2≠0 then (zLab,(nxt n t stops (runK n t stops b k l).1 (k+b.length) c).2) else ((nxt n t stops (runK n t stops b k l).1 (k+b.length) c).1,0)
 | [],k,l,c,_=>rfl
 | a :: b,k,l,c,h=>by
  by_cases h0:(nxt n t stops l k a).2=0
  ·have e:∀ r,runK n t stops (a :: r) k l=runK n t stops r (k+1) (nxt n t stops l k a).1:=fun r=>by
    simp only [runK]; rw [if_neg (by simpa using h0)]
   rw [e] at h
   have:=QuU b (k+1) _ c h
   rw [List.cons_append,e,e,this,List.length_cons,show k+1+b.length=k+(b.length+1) by omega]
  ·simp only [runK] at h
   rw [if_pos h0] at h; exact absurd h h0
theorem QB8:∀ (b:List Bool) (k:Nat) (l:Qaf) (c:Bool),(runK n t stops b k l).2≠0→(runK n t stops (b++[c]) k l).2≠0
 | [],k,l,c,h=>by simp [runK] at h
 | a :: b,k,l,c,h=>by
  simp only [runK,List.cons_append] at h ⊢
  by_cases h0:(nxt n t stops l k a).2=0
  ·rw [if_neg (by simpa using h0)] at h ⊢
   exact QB8 b (k+1) _ c h
  ·rw [if_pos h0]; exact h0
theorem Qrs {b:List Bool} {c:Bool}:okB n t stops start (b++[c])↔okB n t stops start b∧(nxt n t stops (lbB n t stops start b) b.length c).2=0:=by
 unfold okB lbB preB
 constructor
 ·intro h
  by_cases h0:(runK n t stops b 0 (begS t start)).2=0
  ·refine ⟨h0,?_⟩
   rw [QuU b 0 _ c h0,Nat.zero_add] at h
   split at h
   ·rename_i h1; exact absurd h h1
   ·rename_i h1; simpa using h1
  ·exact absurd h (QB8 b 0 _ c h0)
 ·rintro ⟨h0,h1⟩
  rw [QuU b 0 _ c h0,Nat.zero_add,if_neg (by simpa using h1)]
theorem Qvg {b:List Bool} {c:Bool} (h:okB n t stops start (b++[c])):lbB n t stops start (b++[c])=(nxt n t stops (lbB n t stops start b) b.length c).1:=by
 obtain ⟨h0,h1⟩:=Qrs.1 h
 unfold lbB preB at *
 unfold okB preB at h0
 rw [QuU b 0 _ c h0,Nat.zero_add,if_neg (by simpa using h1)]
theorem Qzs (hT:QmZ n t stops):∀ (b:List Bool) (k:Nat) (l:Qaf),LabI k l→k+b.length≤stops.length→(runK n t stops b k l).2=0→LabI (k+b.length) (runK n t stops b k l).1
 | [],k,l,hl,_,_=>hl
 | a :: b,k,l,hl,hk,h=>by
  simp only [runK] at h ⊢
  simp only [List.length_cons] at hk
  by_cases h0:(nxt n t stops l k a).2=0
  ·rw [if_neg (by simpa using h0)] at h ⊢
   have:=Qzs hT b (k+1) _ (Qxy hT hl (by omega) h0) (by omega) h
   rwa [List.length_cons,show k+(b.length+1)=k+1+b.length by omega]
  ·rw [if_pos h0] at h; exact absurd h h0
theorem Qvf (hT:QmZ n t stops) (hs:0≤start∧start≤4096) {b:List Bool} (hb:b.length≤stops.length) (h:okB n t stops start b):LabI b.length (lbB n t stops start b):=by
 have:=Qzs hT b 0 (begS t start) (Qw6 hT hs) (by omega) h
 rwa [Nat.zero_add] at this
theorem QGj (hT:QmZ n t stops) {k:Nat} {l m:Qaf} {c:Bool} (hl:LabI k l) (hm:LabI k m) (h1:l.ready=m.ready) (h2:l.since≤m.since) (h:(nxt n t stops m k c).2=0) :
  (nxt n t stops l k c).2=0∧(nxt n t stops l k c).1.ready=(nxt n t stops m k c).1.ready∧(nxt n t stops l k c).1.since≤(nxt n t stops m k c).1.since:=by
 obtain ⟨g0,g1,g2,g3⟩:=QvY hT hm h
 have hd:depS t l c=depS t m c:=by unfold depS; rw [h1]
 have hs:sinS l c≤sinS m c:=by unfold sinS; split <;> omega
 have h0:(nxt n t stops l k c).2=0:=by
  unfold nxt nxtD
  rw [hd,if_neg (by simpa using g0),if_neg (by omega),if_neg (by omega)]
 obtain ⟨_,_,_,k3⟩:=QvY hT hl h0
 refine ⟨h0,?_,?_⟩
 ·rw [k3,g3,hd]
 ·rw [k3,g3,hd]
  show sinS l c+_-_≤sinS m c+_-_
  omega
theorem QCN (hT:QmZ n t stops) (hs:0≤start∧start≤4096) {a b:List Bool} {c:Bool} (hl:a.length=b.length) (hb:b.length≤stops.length) (ha:okB n t stops start a) (h:okB n t stops start (b++[c])) (hbt:QyI n t stops start a b) :
  okB n t stops start (a++[c])∧QyI n t stops start (a++[c]) (b++[c]):=by
 obtain ⟨h0,h1⟩:=Qrs.1 h
 have la:=Qvf hT hs (by omega) ha
 have lb:=Qvf hT hs hb h0
 rw [hl] at la
 obtain ⟨d1,d2,d3⟩:=QGj hT la lb hbt.1 hbt.2 h1
 have ho:okB n t stops start (a++[c]):=Qrs.2 ⟨ha,by rw [hl]; exact d1⟩
 refine ⟨ho,?_⟩
 unfold QyI
 rw [Qvg ho,Qvg h,hl]
 exact ⟨d2,d3⟩
theorem QyJ {a:List Bool}:QyI n t stops start a a:=⟨rfl,Int.le_refl _⟩
theorem QAD {a b c:List Bool} (h:QyI n t stops start a b) (h':QyI n t stops start b c):QyI n t stops start a c:=⟨h.1.trans h'.1,Int.le_trans h.2 h'.2⟩
theorem QA5:∀ (items out:List (List Bool)),(∀ b∈out,okB n t stops start b)→out.Pairwise (fun a b=>valB a<valB b)→items.Pairwise (fun a b=>valB a<valB b)→(∀ a∈out,∀ b∈items,valB a<valB b) →
  (∀ b∈items.foldl (QtB n t stops start) out,okB n t stops start b∧(b∈out∨b∈items))∧(items.foldl (QtB n t stops start) out).Pairwise (fun a b=>valB a<valB b)∧(∀ b∈out,b∈items.foldl (QtB n t stops start) out) ∧
  (∀ b∈items,okB n t stops start b→∃ d∈items.foldl (QtB n t stops start) out,valB d≤valB b∧QyI n t stops start d b)
 | [],out,h1,h2,_,_=>⟨fun b hb=>⟨h1 b hb,.inl hb⟩,h2,fun b hb=>hb,fun b hb=>by simp at hb⟩
 | x :: items,out,h1,h2,h3,h4=>by
  rw [List.pairwise_cons] at h3
  rw [List.foldl_cons]
  by_cases hx:okB n t stops start x∧¬ ∃ d∈out,QyI n t stops start d x
  ·have hst:QtB n t stops start out x=out++[x]:=if_pos hx
   rw [hst]
   have key:=QA5 items (out++[x]) (fun b hb=>by
    rcases List.mem_append.1 hb with h|h
    ·exact h1 b h
    ·rw [List.mem_singleton.1 h]; exact hx.1) (by
    rw [List.pairwise_append]
    exact ⟨h2,List.pairwise_singleton _ _,fun a ha b hb=>by rw [List.mem_singleton.1 hb]; exact h4 a ha x (by simp)⟩) h3.2 (fun a ha b hb=>by
    rcases List.mem_append.1 ha with h|h
    ·exact h4 a h b (by simp [hb])
    ·rw [List.mem_singleton.1 h]; exact h3.1 b hb)
   obtain ⟨k1,k2,k3,k4⟩:=key
   refine ⟨fun b hb=>⟨(k1 b hb).1,?_⟩,k2,fun b hb=>k3 b (by simp [hb]),fun b hb hok=>?_⟩
   ·rcases (k1 b hb).2 with h|h
    ·rcases List.mem_append.1 h with h'|h'
     ·exact .inl h'
     ·rw [List.mem_singleton.1 h']; exact .inr (by simp)
    ·exact .inr (by simp [h])
   ·rcases List.mem_cons.1 hb with rfl|hb
    ·exact ⟨b,k3 b (by simp),Nat.le_refl _,QyJ⟩
    ·exact k4 b hb hok
  ·have hst:QtB n t stops start out x=out:=if_neg hx
   rw [hst]
   obtain ⟨k1,k2,k3,k4⟩:=QA5 items out h1 h2 h3.2 (fun a ha b hb=>h4 a ha b (by simp [hb]))
   refine ⟨fun b hb=>⟨(k1 b hb).1,?_⟩,k2,k3,fun b hb hok=>?_⟩
   ·rcases (k1 b hb).2 with h|h
    ·exact .inl h
    ·exact .inr (by simp [h])
   ·rcases List.mem_cons.1 hb with rfl|hb
    ·obtain ⟨d,hd,hbt⟩:∃ d∈out,QyI n t stops start d b:=Classical.byContradiction fun h=>hx ⟨hok,h⟩
     exact ⟨d,k3 d hd,Nat.le_of_lt (h4 d hd b (by simp)),hbt⟩
    ·exact k4 b hb hok
end
section
variable (rests : List Bool)
def chB (k:Nat):List Bool:=match rests[k]? with
 | some b=>[b]
 | none=>[false,true]
def folB (b:List Bool):Prop:=∀ i x,b[i]?=some x→x∈chB rests i
def QvX (P:List (List Bool)) (k:Nat):List (List Bool):=P.flatMap fun a=>(chB rests k).map fun c=>a++[c]
end
section
variable {n : Qam} {t : Qal} {stops : List Qaw} {start : Int} {rests : List Bool}
structure StB (n:Qam) (t:Qal) (stops:List Qaw) (start:Int) (rests:List Bool) (k:Nat) (P:List (List Bool)):Prop where
 ok:∀ b∈P,okB n t stops start b∧b.length=k∧folB rests b
 inc:P.Pairwise (fun a b=>valB a<valB b)
 cov:∀ b,b.length=k→folB rests b→okB n t stops start b→∃ a∈P,valB a≤valB b∧QyI n t stops start a b
theorem QFP (k:Nat):(chB rests k).Pairwise (fun a b=>(if a=true then 1 else 0:Nat)<(if b=true then 1 else 0)):=by
 unfold chB
 split
 ·exact List.pairwise_singleton _ _
 ·simp
theorem QA3 {b:List Bool} {c:Bool}:folB rests (b++[c])↔folB rests b∧c∈chB rests b.length:=by
 unfold folB
 constructor
 ·intro h
  refine ⟨fun i x hx=>h i x (by rw [List.getElem?_append_left (List.getElem?_eq_some_iff.1 hx).1]; exact hx),h b.length c (by simp)⟩
 ·rintro ⟨h1,h2⟩ i x hx
  rcases Nat.lt_or_ge i b.length with hi|hi
  ·rw [List.getElem?_append_left hi] at hx; exact h1 i x hx
  ·rw [List.getElem?_append_right hi] at hx
   have:i-b.length=0:=by
    have:=(List.getElem?_eq_some_iff.1 hx).1; simp at this; omega
   rw [this] at hx
   have hi':i=b.length:=by omega
   subst hi'
   have:c=x:=by simpa using hx
   rw [← this]; exact h2
theorem QC7 {P:List (List Bool)} (k:Nat) (h:P.Pairwise (fun a b=>valB a<valB b)):(QvX rests P k).Pairwise (fun a b=>valB a<valB b):=by
 unfold QvX
 induction P with
 | nil=>simp
 | cons a P ih =>
  rw [List.pairwise_cons] at h
  rw [List.flatMap_cons,List.pairwise_append]
  refine ⟨?_,ih h.2,?_⟩
  ·rw [List.pairwise_map]
   exact (QFP (rests:=rests) k).imp fun hab=>by rw [QrW,QrW]; omega
  ·intro x hx y hy
   obtain ⟨c,_,rfl⟩:=List.mem_map.1 hx
   obtain ⟨b,hb,hy⟩:=List.mem_flatMap.1 hy
   obtain ⟨d,_,rfl⟩:=List.mem_map.1 hy
   have:=h.1 b hb
   rw [QrW,QrW]
   split <;> split <;> omega
theorem StB.zero:StB n t stops start rests 0 [[]] :=
 ⟨fun b hb=>by rw [List.mem_singleton.1 hb]; exact ⟨rfl,rfl,fun i x hx=>by simp at hx⟩,List.pairwise_singleton _ _,fun b hb _ _=>⟨[],by simp,by rw [List.length_eq_zero_iff.1 hb]; exact Nat.le_refl _,by rw [List.length_eq_zero_iff.1 hb]; exact QyJ⟩⟩
theorem StB.next (hT:QmZ n t stops) (hs:0≤start∧start≤4096) {k:Nat} {P:List (List Bool)} (h:StB n t stops start rests k P) (hk:k≤stops.length):StB n t stops start rests (k+1) ((QvX rests P k).foldl (QtB n t stops start) []):=by
 obtain ⟨k1,k2,k3,k4⟩:=QA5 (n:=n) (t:=t) (stops:=stops) (start:=start) (QvX rests P k) [] (fun b hb=>by simp at hb) List.Pairwise.nil (QC7 k h.inc) (fun a ha=>by simp at ha)
 refine ⟨fun b hb=>⟨(k1 b hb).1,?_⟩,k2,fun b hb hf hok=>?_⟩
 ·rcases (k1 b hb).2 with h'|h'
  ·simp at h'
  ·obtain ⟨a,ha,hx⟩:=List.mem_flatMap.1 h'
   obtain ⟨c,hc,rfl⟩:=List.mem_map.1 hx
   obtain ⟨_,q2,q3⟩:=h.ok a ha
   exact ⟨by simp [q2],QA3.2 ⟨q3,by rw [q2]; exact hc⟩⟩
 ·obtain ⟨b0,c,rfl⟩:∃ b0 c,b=b0++[c]:=by
   rcases List.eq_nil_or_concat b with rfl|⟨b0,c,rfl⟩
   ·simp at hb
   ·exact ⟨b0,c,by simp⟩
  have hb0:b0.length=k:=by simpa using hb
  obtain ⟨f1,f2⟩:=QA3.1 hf
  obtain ⟨o1,o2⟩:=Qrs.1 hok
  obtain ⟨a,ha,hv,hbt⟩:=h.cov b0 hb0 f1 o1
  obtain ⟨q1,q2,q3⟩:=h.ok a ha
  obtain ⟨r1,r2⟩:=QCN hT hs (by omega) (by omega) q1 hok hbt
  have hmem:a++[c]∈QvX rests P k:=List.mem_flatMap.2 ⟨a,ha,List.mem_map.2 ⟨c,by rw [← hb0]; exact f2,rfl⟩⟩
  obtain ⟨d,hd,hdv,hdb⟩:=k4 _ hmem r1
  refine ⟨d,hd,?_,QAD hdb r2⟩
  rw [QrW] at hdv ⊢
  omega
end
end Go.Proofs.YtpkkaboonnedfaaGreatDoor
namespace Go.Proofs.YtpkkaboonnedfaaGreatDoor
set_option linter.unusedSimpArgs false
set_option linter.unusedVariables false
set_option linter.unusedSectionVars false
theorem Qxb {L:List Qaf} {c:Qaf} (hL:L.length≤1048576):post (QaP L c) fun b=>(b=true↔∃ m∈L,m.ready=c.ready∧m.since≤c.since):=by
 unfold QaP Qbg
 show post (bnd (bnd (QaT (fun s=>Qax L c s) 0) _) _) _
 have h:post (QaT (fun s=>Qax L c s) 0) fun e=>(∃ u,e=.inl u∧¬ ∃ m∈L,m.ready=c.ready∧m.since≤c.since)∨(∃ i:Nat,e=.inr (i:Int)∧∃ m∈L,m.ready=c.ready∧m.since≤c.since):=by
  refine QrS (B:=fun s=>Qax L c s) L.length _ (fun i=>∀ m,L[i]?=some m→¬ (m.ready=c.ready∧m.since≤c.since)) (by omega) (fun i hi=>?_) ?_
  ·show post (Qax L c (i:Int)) _
   unfold Qax
   have e1:L[i]?=some L[i]:=List.getElem?_eq_getElem hi
   rw [QaY (by simp [lenI]; omega),QaX e1,Qaj,inc hi hL]
   show post (bnd (QgV L[i] c) _) _
   have hb:QgV L[i] c=some (eqI L[i].ready c.ready&&leI L[i].since c.since):=rfl
   rw [hb,Qaj]
   refine Qa0 (fun h=>QaH.2 (.inr ⟨_,rfl,.inr ⟨i,rfl,L[i],List.getElem_mem hi,?_⟩⟩)) (fun h=>QaH.2 (.inl ⟨rfl,fun m hm=>?_⟩))
   ·simpa only [andT,QvW,Qx8] using h
   ·rw [e1] at hm; cases hm
    intro hh
    have:(eqI L[i].ready c.ready&&leI L[i].since c.since)=true:=by simp only [andT,QvW,Qx8]; exact hh
    rw [this] at h; cases h
  ·show post (Qax L c (L.length:Int)) _
   unfold Qax
   rw [QaO (by simp [lenI])]
   refine QaH.2 ⟨_,rfl,fun h=>.inl ⟨_,rfl,?_⟩⟩
   rintro ⟨m,hm,hh⟩
   obtain ⟨i,hi⟩:=List.getElem?_of_mem hm
   exact h i (List.getElem?_eq_some_iff.1 hi).1 m hi hh
 obtain ⟨e,he,h⟩:=h
 rw [he,Qaj]
 rcases h with ⟨u,rfl,h⟩|⟨i,rfl,h⟩
 ·rw [Qgh,Qaj]
  refine QaH.2 ⟨fun hh=>?_,fun hh=>absurd hh h⟩
  simp only [Qs7] at hh; omega
 ·rw [Qjn,Qaj]
  refine QaH.2 ⟨fun _=>h,fun _=>?_⟩
  simp only [Qs7]; omega
theorem QDY:∀ {P:List (List Bool)} {lo hi:Nat},P.Pairwise (fun a b=>valB a<valB b)→(∀ b∈P,lo≤valB b∧valB b<hi)→P.length+lo≤hi∨P=[]
 | [],_,_,_,_=>.inr rfl
 | a :: P,lo,hi,h,hb=>by
  rw [List.pairwise_cons] at h
  have ha:=hb a (by simp)
  rcases QDY (P:=P) (lo:=lo+1) (hi:=hi) h.2 (fun b hb'=>⟨by have:=h.1 b hb'; omega,(hb b (by simp [hb'])).2⟩) with h1|h1
  ·left; simp only [List.length_cons]; omega
  ·left; rw [h1]; simp only [List.length_singleton]; omega
section
variable {n : Qam} {t : Qal} {stops : List Qaw} {start : Int} {rests : List Bool}
theorem StB.len {k:Nat} {P:List (List Bool)} (h:StB n t stops start rests k P):P.length≤2 ^ k:=by
 rcases QDY (lo:=0) (hi:=2 ^ k) h.inc (fun b hb=>⟨Nat.zero_le _,by have:=QGG b; rwa [(h.ok b hb).2.1] at this⟩) with h1|h1
 ·omega
 ·rw [h1]; exact Nat.zero_le _
theorem QDD {out:List (List Bool)} {b:List Bool}:(QtB n t stops start out b).length≤out.length+1:=by unfold QtB; split <;> simp
theorem Qx4:∀ {items out:List (List Bool)},(items.foldl (QtB n t stops start) out).length≤out.length+items.length
 | [],out=>by simp
 | x :: items,out=>by
  rw [List.foldl_cons]
  have h1:=Qx4 (items:=items) (out:=QtB n t stops start out x)
  have h2:=QDD (n:=n) (t:=t) (stops:=stops) (start:=start) (out:=out) (b:=x)
  simp only [List.length_cons]; omega
theorem QDL (k:Nat):(chB rests k).length≤2:=by unfold chB; split <;> simp
theorem QA4 {P:List (List Bool)} {k:Nat} {out:List (List Bool)}:(QvX rests P k).foldl (QtB n t stops start) out=P.foldl (fun out a=>((chB rests k).map fun c=>a++[c]).foldl (QtB n t stops start) out) out:=by
 unfold QvX
 induction P generalizing out with
 | nil=>rfl
 | cons a P ih=>rw [List.flatMap_cons,List.foldl_append,ih,List.foldl_cons]
theorem QyY {k:Nat}:∀ {P:List (List Bool)} {out:List (List Bool)},(P.foldl (fun out a=>((chB rests k).map fun c=>a++[c]).foldl (QtB n t stops start) out) out).length≤out.length+2*P.length
 | [],out=>by simp
 | a :: P,out=>by
  rw [List.foldl_cons]
  have h1:=QyY (k:=k) (P:=P) (out:=((chB rests k).map fun c=>a++[c]).foldl (QtB n t stops start) out)
  have h2:=Qx4 (n:=n) (t:=t) (stops:=stops) (start:=start) (items:=(chB rests k).map fun c=>a++[c]) (out:=out)
  have h3:=QDL (rests:=rests) k
  rw [List.length_map] at h2
  simp only [List.length_cons]; omega
theorem QF6 {p:Qaz} (hT:QmZ p.x.net p.t p.stops) (hs:0≤start∧start≤4096) {k:Nat} {P:List (List Bool)} (hP:StB p.x.net p.t p.stops start p.r.rests k P) (hk:k≤p.stops.length) (h9:p.stops.length≤9) (hr:p.r.rests.length≤1048576) :
  Qf6 p (P.map (lbB p.x.net p.t p.stops start)) k=some (((QvX p.r.rests P k).foldl (QtB p.x.net p.t p.stops start) []).map (lbB p.x.net p.t p.stops start)):=by
 have hPl:P.length≤512:=Nat.le_trans hP.len (Nat.le_trans (Nat.pow_le_pow_right (by omega) (show k≤9 by omega)) (by omega))
 have hJ:Qe6 p (P.map (lbB p.x.net p.t p.stops start)) k (chB p.r.rests k)=some (((QvX p.r.rests P k).foldl (QtB p.x.net p.t p.stops start) []).map (lbB p.x.net p.t p.stops start)):=by
  unfold Qe6
  rw [QA4]
  have hloop:QaT (fun s=>Qcq p (P.map (lbB p.x.net p.t p.stops start)) k (chB p.r.rests k) s.1 s.2) ([],0)=some ((P.foldl (fun out a=>((chB p.r.rests k).map fun c=>a++[c]).foldl (QtB p.x.net p.t p.stops start) out) []).map (lbB p.x.net p.t p.stops start)):=by
   have e:=QcJ (B:=fun s:List Qaf×Int=>Qcq p (P.map (lbB p.x.net p.t p.stops start)) k (chB p.r.rests k) s.1 s.2) (e:=(P.foldl (fun out a=>((chB p.r.rests k).map fun c=>a++[c]).foldl (QtB p.x.net p.t p.stops start) out) []).map (lbB p.x.net p.t p.stops start))
    P.length (fun v=>(((P.take v).foldl (fun out a=>((chB p.r.rests k).map fun c=>a++[c]).foldl (QtB p.x.net p.t p.stops start) out) []).map (lbB p.x.net p.t p.stops start),(v:Int))) (by omega) (fun v hv=>?_) ?_
   ·exact e
   ·have e1:P[v]?=some P[v]:=List.getElem?_eq_getElem hv
    obtain ⟨q1,q2,q3⟩:=hP.ok _ (List.getElem_mem hv)
    have hQl:=QyY (n:=p.x.net) (t:=p.t) (stops:=p.stops) (start:=start) (rests:=p.r.rests) (k:=k) (P:=P.take v) (out:=[])
    rw [List.length_take,List.length_nil] at hQl
    have hLI:=Qvf hT hs (by omega) q1
    rw [q2] at hLI
    rw [List.take_add_one,e1]
    simp only [Option.toList,List.foldl_append,List.foldl_cons,List.foldl_nil]
    generalize (P.take v).foldl (fun out a=>((chB p.r.rests k).map fun c=>a++[c]).foldl (QtB p.x.net p.t p.stops start) out) []=Q at hQl
    show Qcq p (P.map (lbB p.x.net p.t p.stops start)) k (chB p.r.rests k) (Q.map (lbB p.x.net p.t p.stops start)) (v:Int)=_
    unfold Qcq
    rw [QaY (by simp [lenI]; exact hv),QaX (show (P.map (lbB p.x.net p.t p.stops start))[v]?=some (lbB p.x.net p.t p.stops start P[v]) by rw [List.getElem?_map,e1]; rfl),Qaj,inc (n:=P.length) hv (by omega)]
    generalize P[v]=a at *
    have hcl:=QDL (rests:=p.r.rests) k
    have hl2:QaT (fun s=>Qcr p (P.map (lbB p.x.net p.t p.stops start)) k (chB p.r.rests k) v (lbB p.x.net p.t p.stops start a) s.1 s.2) (Q.map (lbB p.x.net p.t p.stops start),0)=some ((((chB p.r.rests k).map fun c=>a++[c]).foldl (QtB p.x.net p.t p.stops start) Q).map (lbB p.x.net p.t p.stops start)):=by
     have e2:=QcJ (B:=fun s:List Qaf×Int=>Qcr p (P.map (lbB p.x.net p.t p.stops start)) k (chB p.r.rests k) v (lbB p.x.net p.t p.stops start a) s.1 s.2) (e:=(((chB p.r.rests k).map fun c=>a++[c]).foldl (QtB p.x.net p.t p.stops start) Q).map (lbB p.x.net p.t p.stops start))
      (chB p.r.rests k).length (fun i=>(((((chB p.r.rests k).take i).map fun c=>a++[c]).foldl (QtB p.x.net p.t p.stops start) Q).map (lbB p.x.net p.t p.stops start),(i:Int))) (by omega) (fun i hi=>?_) ?_
     ·exact e2
     ·have e3:(chB p.r.rests k)[i]?=some (chB p.r.rests k)[i]:=List.getElem?_eq_getElem hi
      have hRl:=Qx4 (n:=p.x.net) (t:=p.t) (stops:=p.stops) (start:=start) (items:=((chB p.r.rests k).take i).map fun c=>a++[c]) (out:=Q)
      rw [List.length_map,List.length_take] at hRl
      rw [List.take_add_one,e3]
      simp only [Option.toList,List.map_append,List.map_cons,List.map_nil,List.foldl_append,List.foldl_cons,List.foldl_nil]
      generalize (((chB p.r.rests k).take i).map fun c=>a++[c]).foldl (QtB p.x.net p.t p.stops start) Q=R at hRl
      show Qcr p (P.map (lbB p.x.net p.t p.stops start)) k (chB p.r.rests k) v (lbB p.x.net p.t p.stops start a) (R.map (lbB p.x.net p.t p.stops start)) (i:Int)=_
      unfold Qcr
      rw [QaY (by simp [lenI]; exact hi),QaX e3,Qaj,inc (n:=(chB p.r.rests k).length) hi (by omega)]
      generalize (chB p.r.rests k)[i]=c at *
      show bnd (Qe2 p (lbB p.x.net p.t p.stops start a) k c) _=_
      rw [QD8 hT hLI hk,Qaj]
      have hcast:((i+1:Nat):Int)=(i:Int)+1:=by omega
      rw [hcast]
      by_cases h0:(nxt p.x.net p.t p.stops (lbB p.x.net p.t p.stops start a) k c).2=0
      ·have hok:okB p.x.net p.t p.stops start (a++[c]):=Qrs.2 ⟨q1,by rw [q2]; exact h0⟩
       have hlb:=Qvg hok
       rw [q2] at hlb
       rw [QaY (by simpa using h0)]
       obtain ⟨bb,hb1,hb2⟩:=Qxb (L:=R.map (lbB p.x.net p.t p.stops start)) (c:=(nxt p.x.net p.t p.stops (lbB p.x.net p.t p.stops start a) k c).1) (by rw [List.length_map]; omega)
       show bnd (QaP (R.map (lbB p.x.net p.t p.stops start)) (nxt p.x.net p.t p.stops (lbB p.x.net p.t p.stops start a) k c).1) _=_
       rw [hb1,Qaj]
       have hiff:(∃ m∈R.map (lbB p.x.net p.t p.stops start),m.ready=(nxt p.x.net p.t p.stops (lbB p.x.net p.t p.stops start a) k c).1.ready∧m.since≤(nxt p.x.net p.t p.stops (lbB p.x.net p.t p.stops start a) k c).1.since)↔∃ d∈R,QyI p.x.net p.t p.stops start d (a++[c]):=by
        unfold QyI
        rw [hlb]
        constructor
        ·rintro ⟨m,hm,h1⟩
         obtain ⟨d,hd,rfl⟩:=List.mem_map.1 hm
         exact ⟨d,hd,h1⟩
        ·rintro ⟨d,hd,h1⟩
         exact ⟨_,List.mem_map.2 ⟨d,hd,rfl⟩,h1⟩
       rw [hiff] at hb2
       cases bb with
       | true =>
        have hst:QtB p.x.net p.t p.stops start R (a++[c])=R:=if_neg (fun h=>h.2 (hb2.1 rfl))
        rw [QjV,hst]
       | false =>
        have hst:QtB p.x.net p.t p.stops start R (a++[c])=R++[a++[c]]:=if_pos ⟨hok,fun h=>by have:=hb2.2 h; cases this⟩
        rw [Qhg,hst,Qd6 (QeN (by simp; omega)),List.map_append,List.map_cons,List.map_nil,hlb]
      ·have hno:¬ okB p.x.net p.t p.stops start (a++[c]):=fun h=>by have:=(Qrs.1 h).2; rw [q2] at this; exact h0 this
       have hst:QtB p.x.net p.t p.stops start R (a++[c])=R:=if_neg (fun h=>hno h.1)
       rw [QaO (by simpa using h0),hst]
     ·show Qcr p _ k (chB p.r.rests k) v _ _ ((chB p.r.rests k).length:Int)=_
      unfold Qcr
      rw [QaO (by simp [lenI]),List.take_length]
    rw [hl2,Qaj,show ((v+1:Nat):Int)=(v:Int)+1 by omega]
   ·show Qcq p (P.map (lbB p.x.net p.t p.stops start)) k (chB p.r.rests k) _ (P.length:Int)=_
    unfold Qcq
    rw [QaO (by simp [lenI]),List.take_length]
  rw [hloop,Qaj]
 unfold Qf6
 by_cases hkr:k<p.r.rests.length
 ·have e1:p.r.rests[k]?=some p.r.rests[k]:=List.getElem?_eq_getElem hkr
  have hch:chB p.r.rests k=[p.r.rests[k]]:=by unfold chB; rw [e1]
  have hsl:slcI p.r.rests (k:Int) (addK .i64 (k:Int) 1)=some [p.r.rests[k]]:=by
   rw [inc hkr hr]
   unfold slcI
   rw [if_pos ⟨by omega,by omega,by omega⟩,show ((k:Int)+1).toNat-(k:Int).toNat=1 by omega,Int.toNat_natCast,List.drop_eq_getElem_cons hkr]
   rfl
  rw [QaY (by simp [lenI]; exact hkr),hsl,Qaj,← hch]
  exact hJ
 ·have hch:chB p.r.rests k=[false,true]:=by unfold chB; rw [List.getElem?_eq_none (by omega)]
  rw [QaO (by simp [lenI]; omega),← hch]
  exact hJ
end
end Go.Proofs.YtpkkaboonnedfaaGreatDoor
namespace Go.Proofs.YtpkkaboonnedfaaGreatDoor
set_option linter.unusedSimpArgs false
set_option linter.unusedVariables false
set_option linter.unusedSectionVars false
section
variable (n : Qam) (t : Qal) (stops : List Qaw) (start : Int) (rests : List Bool)
noncomputable def QvJ:Nat→List (List Bool)
 | 0=>[[]]
 | k+1=>(QvX rests (QvJ k) k).foldl (QtB n t stops start) []
def QAj (b:List Bool):Prop:=b.length=stops.length+1∧folB rests b∧okB n t stops start b
noncomputable def endB (b:List Bool):Int:=(lbB n t stops start b).sheet.end_
def minB (b:List Bool):Prop:=∀ q,QAj n t stops start rests q→endB n t stops start b≤endB n t stops start q∧(endB n t stops start q=endB n t stops start b→valB b≤valB q)
end
section
variable {n : Qam} {t : Qal} {stops : List Qaw} {start : Int} {rests : List Bool}
theorem Qyr (hT:QmZ n t stops) (hs:0≤start∧start≤4096):∀ k,k≤stops.length+1→StB n t stops start rests k (QvJ n t stops start rests k)
 | 0,_=>StB.zero
 | k+1,hk=>StB.next hT hs (Qyr hT hs k (by omega)) (by omega)
theorem QyT (hT:QmZ n t stops) (hs:0≤start∧start≤4096) {b:List Bool} (hl:b.length=stops.length+1) (hok:okB n t stops start b):endB n t stops start b=(lbB n t stops start b).ready:=by
 obtain ⟨b0,c,rfl⟩:∃ b0 c,b=b0++[c]:=by
  rcases List.eq_nil_or_concat b with rfl|⟨b0,c,rfl⟩
  ·simp at hl
  ·exact ⟨b0,c,by simp⟩
 have hb0:b0.length=stops.length:=by simpa using hl
 obtain ⟨o1,o2⟩:=Qrs.1 hok
 have hL:=Qvf hT hs (by omega) o1
 obtain ⟨g0,g1,g2,g3⟩:=QvY hT hL o2
 have hin:=Qx0 (rest:=c) hT hL
 have hg:=(Qxm hT.net hin g0).1
 unfold inT at hin
 unfold endB
 rw [Qvg hok,g3]
 have hn:¬ b0.length<stops.length:=by omega
 rw [QrV hn] at hg ⊢
 show (if b0.length<stops.length then _ else _:Int)=max _ (0:Int)+0
 rw [if_neg hn]
 omega
theorem Qzl (e:List Bool→Int):∀ (items S:List (List Bool)) (b:List Bool),b∈S→(∀ q∈S,e b≤e q∧(e q=e b→valB b≤valB q))→(∀ s∈S,∀ q∈items,valB s<valB q)→items.Pairwise (fun a b=>valB a<valB b) →
  (items.foldl (fun b q=>if e q<e b then q else b) b)∈S++items∧∀ q∈S++items,e (items.foldl (fun b q=>if e q<e b then q else b) b)≤e q∧(e q=e (items.foldl (fun b q=>if e q<e b then q else b) b)→valB (items.foldl (fun b q=>if e q<e b then q else b) b)≤valB q)
 | [],S,b,hb,hm,_,_=>by simpa using ⟨hb,hm⟩
 | x :: items,S,b,hb,hm,hv,hp=>by
  rw [List.pairwise_cons] at hp
  have e1:S++x :: items=(S++[x])++items:=by simp
  rw [List.foldl_cons,e1]
  refine Qzl e items (S++[x]) _ ?_ ?_ (fun s hs q hq=>?_) hp.2
  ·split
   ·simp
   ·simp [hb]
  ·intro q hq
   rcases List.mem_append.1 hq with h|h
   ·have:=hm q h
    split
    ·exact ⟨by omega,fun h2=>by omega⟩
    ·exact this
   ·rw [List.mem_singleton.1 h]
    split
    ·exact ⟨Int.le_refl _,fun _=>Nat.le_refl _⟩
    ·exact ⟨by omega,fun _=>Nat.le_of_lt (hv b hb x (by simp))⟩
  ·rcases List.mem_append.1 hs with h|h
   ·exact hv s h q (by simp [hq])
   ·rw [List.mem_singleton.1 h]; exact hp.1 q hq
theorem QCQ {x:Qac} {r:Qad} (hx:QbW x) (hR:QmN r) (h9:¬ (9<r.visits.length∧r.visits.length≤20)) :
  post (QoN x r) fun res=>(¬ (QuG x r=true∧r.rests.length≤r.visits.length+1)∧res=(QqE,2)) ∨
   ((QuG x r=true∧r.rests.length≤r.visits.length+1)∧((∃ b,QAj x.net (typS x r) (QaB x r) r.start r.rests b∧minB x.net (typS x r) (QaB x r) r.start r.rests b∧res=((lbB x.net (typS x r) (QaB x r) r.start b).sheet,0)) ∨
    ((∀ b,¬ QAj x.net (typS x r) (QaB x r) r.start r.rests b)∧res=runS x.net (typS x r) (QaB x r) r.start (r.rests++List.replicate (r.visits.length+1-r.rests.length) false)))):=by
 have hv:=hR.visits
 have hr:=hR.rests
 unfold QoN
 show post (bnd (QoO x r) _) _
 have hadd:addK .i64 (lenI r.visits) 1=((r.visits.length+1:Nat):Int):=by unfold lenI; rw [addI (by omega) (by omega)]; omega
 rw [QGq,Qaj,hadd]
 by_cases hp:QuG x r=true
 ·rw [if_pos hp]
  have h5:=of_decide_eq_true (QpM hp)
  have hsl:=QmT (x:=x) (r:=r)
  have hT:=QDE hx hp
  have hs:0≤r.start∧r.start≤4096:=⟨h5.2.2.1,h5.2.2.2.1⟩
  by_cases hc:r.rests.length≤r.visits.length+1
  ·rw [QaO (by simp only [Bool.not_true,Bool.false_or,QvR,lenI]; omega)]
   generalize hpp:Qaz.mk x (typS x r) r (QaB x r)=p
   have hbeg:Qdo p=some (begS (typS x r) r.start):=by
    rw [← hpp]; unfold Qdo begS; rw [Qxw]; rfl
   show post (bnd (Qdo p) _) _
   rw [hbeg,Qaj]
   have hlb0:([begS (typS x r) r.start]:List Qaf)=(QvJ x.net (typS x r) (QaB x r) r.start r.rests 0).map (lbB x.net (typS x r) (QaB x r) r.start):=rfl
   have hgrow:∀ k,k≤r.visits.length→Qf6 p ((QvJ x.net (typS x r) (QaB x r) r.start r.rests k).map (lbB x.net (typS x r) (QaB x r) r.start)) (k:Int)=some ((QvJ x.net (typS x r) (QaB x r) r.start r.rests (k+1)).map (lbB x.net (typS x r) (QaB x r) r.start)):=fun k hk=>by
    have:=QF6 (p:=Qaz.mk x (typS x r) r (QaB x r)) (start:=r.start) hT hs (Qyr hT hs k (by omega)) (by show k≤(QaB x r).length; omega) (by show (QaB x r).length≤9; omega) hr
    rw [hpp] at this
    rw [← hpp] at this ⊢
    exact this
   have hloop:QaT (fun s=>Qek r (p,true) s.1 s.2) ((QvJ x.net (typS x r) (QaB x r) r.start r.rests 0).map (lbB x.net (typS x r) (QaB x r) r.start),0)=some ((QvJ x.net (typS x r) (QaB x r) r.start r.rests (r.visits.length+1)).map (lbB x.net (typS x r) (QaB x r) r.start)):=by
    refine QcJ (B:=fun s:List Qaf×Int=>Qek r (p,true) s.1 s.2) (r.visits.length+1) (fun k=>((QvJ x.net (typS x r) (QaB x r) r.start r.rests k).map (lbB x.net (typS x r) (QaB x r) r.start),(k:Int))) (by omega) (fun k hk=>?_) ?_
    ·show Qek r (p,true) ((QvJ x.net (typS x r) (QaB x r) r.start r.rests k).map (lbB x.net (typS x r) (QaB x r) r.start)) (k:Int)=some (.inl ((QvJ x.net (typS x r) (QaB x r) r.start r.rests (k+1)).map (lbB x.net (typS x r) (QaB x r) r.start),((k+1:Nat):Int)))
     unfold Qek
     rw [hadd,QaY (by simp only [Qsh]; omega)]
     show bnd (Qf6 p _ (k:Int)) _=_
     rw [hgrow k (by omega),Qaj,inc (n:=r.visits.length+1) hk (by omega)]
     rfl
    ·show Qek r (p,true) _ ((r.visits.length+1:Nat):Int)=_
     unfold Qek
     rw [hadd,QaO (by simp)]
   show post (bnd (QaT (fun s=>Qek r (p,true) s.1 s.2) ([begS (typS x r) r.start],0)) _) _
   rw [hlb0,hloop,Qaj]
   have hSt:=Qyr (rests:=r.rests) hT hs (r.visits.length+1) (by omega)
   generalize QvJ x.net (typS x r) (QaB x r) r.start r.rests (r.visits.length+1)=P at hSt
   have hPl:P.length≤1024:=Nat.le_trans hSt.len (Nat.le_trans (Nat.pow_le_pow_right (by omega) (show r.visits.length+1≤10 by omega)) (by omega))
   refine Qa0 (fun hb=>?_) (fun hb=>?_)
   ·simp only [QvW,lenI,List.length_map] at hb
    have hP0:P=[]:=List.length_eq_zero_iff.1 (by omega)
    have hmk:mkI ((r.visits.length+1:Nat):Int) ((r.visits.length+1:Nat):Int) 1 false=some (List.replicate (r.visits.length+1) false):=by
     unfold mkI; rw [if_pos (by omega)]; simp
    have hcpy:cpyL (List.replicate (r.visits.length+1) false) r.rests=r.rests++List.replicate (r.visits.length+1-r.rests.length) false:=by
     unfold cpyL cpyN
     rw [List.length_replicate,Nat.min_eq_left hc,List.take_length,List.drop_replicate]
    rw [hmk,Qaj]
    have hrun:=QHp (p:=Qaz.mk x (typS x r) r (QaB x r)) (rests:=r.rests++List.replicate (r.visits.length+1-r.rests.length) false) hT hs (by show _=(QaB x r).length+1; simp; omega)
    rw [hpp] at hrun
    show post (bnd (QgF p (cpyL (List.replicate (r.visits.length+1) false) r.rests)) _) _
    rw [hcpy,hrun,Qaj]
    refine QaH.2 (.inr ⟨⟨hp,hc⟩,.inr ⟨fun b hb=>?_,?_⟩⟩)
    ·obtain ⟨a,ha,_⟩:=hSt.cov b (by rw [hb.1]; omega) hb.2.1 hb.2.2
     rw [hP0] at ha; simp at ha
    ·rw [← hpp]
   ·simp only [QCy,lenI,List.length_map] at hb
    obtain ⟨b0,tl,rfl⟩:∃ b0 tl,P=b0 :: tl:=by
     cases P with
     | nil=>exact absurd rfl hb
     | cons a b=>exact ⟨a,b,rfl⟩
    have hinc:=hSt.inc
    rw [List.pairwise_cons] at hinc
    rw [List.map_cons,show getI (lbB x.net (typS x r) (QaB x r) r.start b0 :: tl.map (lbB x.net (typS x r) (QaB x r) r.start)) 0=some (lbB x.net (typS x r) (QaB x r) r.start b0) from QaX (k:=0) rfl,Qaj]
    have hsl1:slcI (lbB x.net (typS x r) (QaB x r) r.start b0 :: tl.map (lbB x.net (typS x r) (QaB x r) r.start)) 1 (lenI (lbB x.net (typS x r) (QaB x r) r.start b0 :: tl.map (lbB x.net (typS x r) (QaB x r) r.start)))=some (tl.map (lbB x.net (typS x r) (QaB x r) r.start)):=by
     unfold slcI lenI
     rw [if_pos ⟨by omega,by simp only [List.length_cons]; omega,Int.le_refl _⟩,show (1:Int).toNat=1 from rfl,Int.toNat_natCast,List.drop_one,List.tail_cons,List.length_cons,Nat.add_sub_cancel,List.take_length]
    rw [hsl1,Qaj]
    obtain ⟨pk1,pk2⟩:=Qzl (endB x.net (typS x r) (QaB x r) r.start) tl [b0] b0 (by simp) (fun q hq=>by rw [List.mem_singleton.1 hq]; exact ⟨Int.le_refl _,fun _=>Nat.le_refl _⟩) (fun s hs' q hq=>by rw [List.mem_singleton.1 hs']; exact hinc.1 q hq) hinc.2
    have hl2:QaT (fun s=>QdN (tl.map (lbB x.net (typS x r) (QaB x r) r.start)) s.1 s.2) (lbB x.net (typS x r) (QaB x r) r.start b0,0)=some (lbB x.net (typS x r) (QaB x r) r.start (tl.foldl (fun b q=>if endB x.net (typS x r) (QaB x r) r.start q<endB x.net (typS x r) (QaB x r) r.start b then q else b) b0)):=by
     have e2:=QcJ (B:=fun s:Qaf×Int=>QdN (tl.map (lbB x.net (typS x r) (QaB x r) r.start)) s.1 s.2) (e:=lbB x.net (typS x r) (QaB x r) r.start (tl.foldl (fun b q=>if endB x.net (typS x r) (QaB x r) r.start q<endB x.net (typS x r) (QaB x r) r.start b then q else b) b0))
      tl.length (fun i=>(lbB x.net (typS x r) (QaB x r) r.start ((tl.take i).foldl (fun b q=>if endB x.net (typS x r) (QaB x r) r.start q<endB x.net (typS x r) (QaB x r) r.start b then q else b) b0),(i:Int))) (by simp only [List.length_cons] at hPl; omega) (fun i hi=>?_) ?_
     ·exact e2
     ·have e3:tl[i]?=some tl[i]:=List.getElem?_eq_getElem hi
      rw [List.take_add_one,e3]
      simp only [Option.toList,List.foldl_append,List.foldl_cons,List.foldl_nil]
      generalize (tl.take i).foldl (fun b q=>if endB x.net (typS x r) (QaB x r) r.start q<endB x.net (typS x r) (QaB x r) r.start b then q else b) b0=bb
      show QdN (tl.map (lbB x.net (typS x r) (QaB x r) r.start)) (lbB x.net (typS x r) (QaB x r) r.start bb) (i:Int)=_
      unfold QdN
      rw [QaY (by simp [lenI]; exact hi),QaX (show (tl.map (lbB x.net (typS x r) (QaB x r) r.start))[i]?=some (lbB x.net (typS x r) (QaB x r) r.start tl[i]) by rw [List.getElem?_map,e3]; rfl),Qaj,inc (n:=tl.length) hi (by simp only [List.length_cons] at hPl; omega),show ((i+1:Nat):Int)=(i:Int)+1 by omega]
      generalize tl[i]=q
      by_cases hlt:endB x.net (typS x r) (QaB x r) r.start q<endB x.net (typS x r) (QaB x r) r.start bb
      ·rw [if_pos hlt,QaY (by simp only [Qsh]; exact hlt)]
      ·rw [if_neg hlt,QaO (by simp only [QsA]; unfold endB at hlt; omega)]
     ·show QdN (tl.map (lbB x.net (typS x r) (QaB x r) r.start)) _ (tl.length:Int)=_
      unfold QdN
      rw [QaO (by simp [lenI]),List.take_length]
    show post (bnd (QaT (fun s=>QdN (tl.map (lbB x.net (typS x r) (QaB x r) r.start)) s.1 s.2) (lbB x.net (typS x r) (QaB x r) r.start b0,0)) _) _
    rw [hl2,Qaj]
    generalize tl.foldl (fun b q=>if endB x.net (typS x r) (QaB x r) r.start q<endB x.net (typS x r) (QaB x r) r.start b then q else b) b0=bb at pk1 pk2
    rw [show [b0]++tl=b0 :: tl from rfl] at pk1 pk2
    obtain ⟨m1,m2,m3⟩:=hSt.ok bb pk1
    refine QaH.2 (.inr ⟨⟨hp,hc⟩,.inl ⟨bb,⟨by rw [m2]; omega,m3,m1⟩,fun q hq=>?_,rfl⟩⟩)
    obtain ⟨a,ha,hva,hbt⟩:=hSt.cov q (by rw [hq.1]; omega) hq.2.1 hq.2.2
    obtain ⟨a1,a2,a3⟩:=hSt.ok a ha
    have he:endB x.net (typS x r) (QaB x r) r.start a=endB x.net (typS x r) (QaB x r) r.start q:=by
     rw [QyT hT hs (by rw [a2]; omega) a1,QyT hT hs hq.1 hq.2.2]; exact hbt.1
    have:=pk2 a ha
    rw [he] at this
    exact ⟨this.1,fun h=>Nat.le_trans (this.2 h) hva⟩
  ·rw [QaY (by simp only [Bool.not_true,Bool.false_or,QyZ,lenI]; omega)]
   exact QaH.2 (.inl ⟨fun h=>hc h.2,rfl⟩)
 ·rw [if_neg hp,QaY (by simp [QHw])]
  exact QaH.2 (.inl ⟨fun h=>hp h.1,rfl⟩)
end
end Go.Proofs.YtpkkaboonnedfaaGreatDoor
namespace Go.Proofs.YtpkkaboonnedfaaGreatDoor
set_option linter.unusedSimpArgs false
set_option linter.unusedVariables false
set_option linter.unusedSectionVars false
theorem QG8 {S E:Type} {B:S→Option (S⊕E)} (C:Nat→S→Prop) (Q:E→Prop)
  (h:∀ m s,C m s→post (B s) fun x=>(∀ s',x=.inl s'→∃ m',m'<m∧C m' s')∧∀ e,x=.inr e→Q e):∀ (n m:Nat) (s:S),C m s→m<n→post (QvS B n s) Q:=by
 intro n
 induction n with
 | zero=>intro m s _ hm; omega
 | succ n ih =>
  intro m s hs hm
  obtain ⟨x,hx,h1,h2⟩:=h m s hs
  simp only [QvS,hx]
  cases x with
  | inl s' =>
   obtain ⟨m',h3,h4⟩:=h1 s' rfl
   exact ih m' s' h4 (by omega)
  | inr e=>exact ⟨e,rfl,h2 e rfl⟩
theorem QHb {S E:Type} {B:S→Option (S⊕E)} (C:Nat→S→Prop) {Q:E→Prop} {s:S} (m:Nat) (hs:C m s) (hm:m<18446744073709551616)
  (h:∀ m s,C m s→post (B s) fun x=>(∀ s',x=.inl s'→∃ m',m'<m∧C m' s')∧∀ e,x=.inr e→Q e):post (QaT B s) Q:=QG8 C Q h _ m s hs hm
def QjU:Nat→Nat→List Bool
 | 0,_=>[]
 | f+1,j=>QjU f (j / 2)++[decide (j % 2=1)]
theorem QuO:∀ f j,(QjU f j).length=f
 | 0,_=>rfl
 | f+1,j=>by rw [QjU,List.length_append,QuO f]; rfl
theorem QtN (f m:Nat):∀ d,QjU (f+d) (m*2 ^ d)=QjU f m++List.replicate d false
 | 0=>by simp
 | d+1=>by
  rw [show f+(d+1)=(f+d)+1 by omega,QjU,Nat.pow_succ,← Nat.mul_assoc,Nat.mul_div_cancel _ (by omega),QtN f m d,List.replicate_succ',List.append_assoc]
  congr 3
  rw [decide_eq_false]; omega
theorem Qs8 (f:Nat):QjU f 0=List.replicate f false:=by
 have:=QtN 0 0 f
 simpa [QjU] using this
theorem QtH (p:List Bool):∀ f j,j<2 ^ f→valB (p++QjU f j)=valB p*2 ^ f+j
 | 0,j,h=>by simp at h; simp [QjU,h]
 | f+1,j,h=>by
  rw [Nat.pow_succ] at h
  rw [QjU,← List.append_assoc,QrW,QtH p f (j / 2) (by omega),Nat.pow_succ,← Nat.mul_assoc]
  by_cases hj:j % 2=1
  ·rw [if_pos (decide_eq_true hj)]; omega
  ·rw [if_neg (by simpa using hj)]; omega
theorem Qwp:∀ (f:Nat) (s:List Bool),s.length=f→∃ j,j<2 ^ f∧s=QjU f j
 | 0,s,h=>⟨0,by simp,List.length_eq_zero_iff.1 h⟩
 | f+1,s,h=>by
  obtain ⟨s0,c,rfl⟩:∃ s0 c,s=s0++[c]:=by
   rcases List.eq_nil_or_concat s with rfl|⟨s0,c,rfl⟩
   ·simp at h
   ·exact ⟨s0,c,by simp⟩
  obtain ⟨j,hj,hs⟩:=Qwp f s0 (by simpa using h)
  subst hs
  cases c with
  | true =>
   refine ⟨2*j+1,by rw [Nat.pow_succ]; omega,?_⟩
   rw [QjU,show (2*j+1) / 2=j by omega,decide_eq_true (by omega)]
  | false =>
   refine ⟨2*j,by rw [Nat.pow_succ]; omega,?_⟩
   rw [QjU,show (2*j) / 2=j by omega,decide_eq_false (by omega)]
theorem QFr {a b:List Bool} (h:a.length=b.length) (hv:valB a=valB b):a=b:=by
 obtain ⟨i,hi,ha⟩:=Qwp b.length a h
 obtain ⟨j,hj,hb⟩:=Qwp b.length b rfl
 have h1:=QtH [] b.length i hi
 have h2:=QtH [] b.length j hj
 rw [List.nil_append,← ha] at h1
 rw [List.nil_append,← hb] at h2
 have h0:valB ([]:List Bool)=0:=rfl
 rw [h0,Nat.zero_mul,Nat.zero_add] at h1 h2
 have hij:i=j:=by rw [← h1,← h2]; exact hv
 exact ha.trans (by rw [hij]; exact hb.symm)
theorem QGy {α:Type} {a b:List α} {x y:α}:(a++x :: b).set a.length y=a++y :: b:=by
 rw [List.set_append_right _ _ (Nat.le_refl _),Nat.sub_self]; rfl
theorem Qz5 {p:List Bool} {f j:Nat} (hl:p.length+f≤1048576) (hj:j<2 ^ f):Qgc (p++QjU f j) (lenI p)=some (if j+1<2 ^ f then (p++QjU f (j+1),true) else ([],false)):=by
 apply post.eq
 unfold Qgc
 have hlen:(p++QjU f j).length=p.length+f:=by rw [List.length_append,QuO]
 refine QbG (QeN (by rw [hlen]; omega)) ?_
 have hst:subK .i64 (lenI (p++QjU f j)) 1=((p.length+f:Nat):Int)-1:=by unfold lenI; rw [hlen,subI (by omega) (by omega)]
 rw [hst]
 refine Qbc (R:=fun e=>e=if j+1<2 ^ f then .inr (p++QjU f (j+1),true) else .inl ()) ?_ ?_
 ·refine QeM (fun s=>∃ g q d:Nat,f=g+d∧j+1=(q+1)*2 ^ d∧q<2 ^ g∧s=(p++(QjU g q++List.replicate d false),((p.length+g:Nat):Int)-1)) (fun s=>(s.2+1-p.length).toNat) ⟨f,j,0,rfl,by simp,hj,by simp⟩ (by simp; omega) ?_
  rintro _ ⟨g,q,d,hf,hq,hqg,rfl⟩
  show post (Qfg (lenI p) (p++(QjU g q++List.replicate d false)) (((p.length+g:Nat):Int)-1)) _
  unfold Qfg
  refine Qa0 (fun hb=>?_) (fun hb=>QdT ?_)
  ·simp only [Qs7,lenI] at hb
   obtain ⟨g,rfl⟩:∃ g',g=g'+1:=⟨g-1,by omega⟩
   have hi:((p.length+(g+1):Nat):Int)-1=((p.length+g:Nat):Int):=by omega
   have hsplit:p++(QjU (g+1) q++List.replicate d false)=(p++QjU g (q / 2))++decide (q % 2=1) :: List.replicate d false:=by
    rw [QjU]; simp
   have hpl:(p++QjU g (q / 2)).length=p.length+g:=by rw [List.length_append,QuO]
   have hget:((p++QjU g (q / 2))++decide (q % 2=1) :: List.replicate d false)[p.length+g]?=some (decide (q % 2=1)):=by
    rw [List.getElem?_append_right (by omega),hpl,Nat.sub_self]; rfl
   have hset:∀ y,setI ((p++QjU g (q / 2))++decide (q % 2=1) :: List.replicate d false) ((p.length+g:Nat):Int) y=(p++QjU g (q / 2))++y :: List.replicate d false:=fun y=>by
    unfold setI; rw [Int.toNat_natCast,← hpl,QGy]
   rw [hi,hsplit,QaX hget,Qaj,hset,hset]
   refine Qa0 (fun h1=>Qhj ⟨⟨g,q / 2,d+1,by omega,?_,by rw [Nat.pow_succ] at hqg; omega,?_⟩,?_⟩) (fun h1=>QdT ?_)
   ·have h2:=of_decide_eq_true h1
    rw [hq,Nat.pow_succ,show q+1=(q / 2+1)*2 by omega,Nat.mul_assoc,Nat.mul_comm 2]
   ·rw [subI (by omega) (by omega)]
    simp [List.replicate_succ]
   ·rw [subI (by omega) (by omega)]; simp only; omega
   ·have h2:=of_decide_eq_false h1
    rw [Nat.pow_succ] at hqg
    have h3:q+1<2 ^ (g+1):=by rw [Nat.pow_succ]; omega
    have h4:j+1<2 ^ f:=by
     rw [hq,hf,Nat.pow_add]
     exact Nat.mul_lt_mul_of_pos_right h3 (Nat.pow_pos (by omega))
    rw [if_pos h4,hq,hf,QtN,QjU,show (q+1) / 2=q / 2 by omega,decide_eq_true (show (q+1) % 2=1 by omega)]
    simp
  ·simp only [QCz,lenI] at hb
   obtain rfl:g=0:=by omega
   have:q=0:=by simpa using hqg
   subst this
   have h4:¬ j+1<2 ^ f:=by rw [hq,hf]; simp
   rw [if_neg h4]
 ·rintro e rfl
  split
  ·rw [Qjn]; exact QaH.2 rfl
  ·rw [Qgh]; exact QaH.2 rfl
section
variable {n : Qam} {t : Qal} {stops : List Qaw} {start : Int} {rests : List Bool}
theorem QCa (b:List Bool):runS n t stops start b=if (preB n t stops start b).2≠0 then (QqE,(preB n t stops start b).2) else ((lbB n t stops start b).sheet,0):=rfl
theorem QwT {b:List Bool} (h:okB n t stops start b):runS n t stops start b=((lbB n t stops start b).sheet,0):=by rw [QCa,if_neg (show ¬ (preB n t stops start b).2≠0 from fun hh=>hh h)]
theorem QxE {b:List Bool} (h:¬ okB n t stops start b):(runS n t stops start b).2≠0∧runS n t stops start b=(QqE,(runS n t stops start b).2):=by
 rw [QCa,if_pos (show (preB n t stops start b).2≠0 from h)]; exact ⟨h,rfl⟩
theorem QA2 {f j:Nat}:folB rests (rests++QjU f j):=fun i x hx=>by
 unfold chB
 rcases Nat.lt_or_ge i rests.length with hi|hi
 ·rw [List.getElem?_append_left hi] at hx
  rw [hx]; simp
 ·rw [List.getElem?_eq_none hi]
  cases x <;> simp
theorem QDU {b:List Bool} {f:Nat} (hl:b.length=rests.length+f) (h:folB rests b):∃ j,j<2 ^ f∧b=rests++QjU f j:=by
 obtain ⟨j,hj,hb⟩:=Qwp f (b.drop rests.length) (by rw [List.length_drop]; omega)
 refine ⟨j,hj,?_⟩
 rw [← hb]
 have htk:b.take rests.length=rests:=by
  apply List.ext_getElem?
  intro i
  rcases Nat.lt_or_ge i rests.length with hi|hi
  ·rw [List.getElem?_take_of_lt hi]
   have e1:b[i]?=some (b[i]'(by omega)):=List.getElem?_eq_getElem _
   have:=h i _ e1
   unfold chB at this
   rw [List.getElem?_eq_getElem hi] at this
   rw [e1,List.getElem?_eq_getElem hi]
   simpa using this
  ·rw [List.getElem?_eq_none (by rw [List.length_take]; omega),List.getElem?_eq_none hi]
 conv=>lhs; rw [← List.take_append_drop rests.length b,htk]
end
def BstB (n:Qam) (t:Qal) (stops:List Qaw) (start:Int) (rests:List Bool) (f j:Nat) (sh:Qap) (found:Bool):Prop :=
 (found=false→∀ i,i<j→¬ okB n t stops start (rests++QjU f i)) ∧
 (found=true→∃ i,i<j∧okB n t stops start (rests++QjU f i)∧sh=(lbB n t stops start (rests++QjU f i)).sheet∧∀ i',i'<j→okB n t stops start (rests++QjU f i') →
  endB n t stops start (rests++QjU f i)≤endB n t stops start (rests++QjU f i')∧(endB n t stops start (rests++QjU f i')=endB n t stops start (rests++QjU f i)→i≤i'))
theorem QxC {x:Qac} {r:Qad} (hx:QbW x) (hR:QmN r) (h9:¬ (9<r.visits.length∧r.visits.length≤20)) :
  post (Qgb x r) fun res=>(¬ (QuG x r=true∧r.rests.length≤r.visits.length+1)∧res=(QqE,2)) ∨
   ((QuG x r=true∧r.rests.length≤r.visits.length+1)∧((∃ b,QAj x.net (typS x r) (QaB x r) r.start r.rests b∧minB x.net (typS x r) (QaB x r) r.start r.rests b∧res=((lbB x.net (typS x r) (QaB x r) r.start b).sheet,0)) ∨
    ((∀ b,¬ QAj x.net (typS x r) (QaB x r) r.start r.rests b)∧res=runS x.net (typS x r) (QaB x r) r.start (r.rests++List.replicate (r.visits.length+1-r.rests.length) false)))):=by
 have hv:=hR.visits
 have hr:=hR.rests
 unfold Qgb
 show post (bnd (Qdj x r) _) _
 have hadd:addK .i64 (lenI r.visits) 1=((r.visits.length+1:Nat):Int):=by unfold lenI; rw [addI (by omega) (by omega)]; omega
 rw [QEc,Qaj,hadd]
 by_cases hp:QuG x r=true
 ·have h5:=of_decide_eq_true (QpM hp)
  have hsl:=QmT (x:=x) (r:=r)
  by_cases hc:r.rests.length≤r.visits.length+1
  ·rw [hp,QaO (by simp only [Bool.not_true,Bool.false_or,QvR,lenI]; omega)]
   have hmk:mkI ((r.visits.length+1:Nat):Int) ((r.visits.length+1:Nat):Int) 1 false=some (List.replicate (r.visits.length+1) false):=by
    unfold mkI; rw [if_pos (by omega)]; simp
   obtain ⟨f,hf⟩:∃ f,f=r.visits.length+1-r.rests.length:=⟨_,rfl⟩
   have hf2:2 ^ f≤1024:=Nat.le_trans (Nat.pow_le_pow_right (by omega) (show f≤10 by omega)) (by omega)
   have hf1:1≤2 ^ f:=Nat.one_le_two_pow
   have hcpy:cpyL (List.replicate (r.visits.length+1) false) r.rests=r.rests++QjU f 0:=by
    rw [Qs8]
    unfold cpyL cpyN
    rw [List.length_replicate,Nat.min_eq_left hc,List.take_length,List.drop_replicate,← hf]
   have hB:∀ j,(r.rests++QjU f j).length=r.visits.length+1:=fun j=>by rw [List.length_append,QuO]; omega
   have hrun:∀ j,QeV x r (r.rests++QjU f j)=some (runS x.net (typS x r) (QaB x r) r.start (r.rests++QjU f j)):=fun j=>by
    rw [QB2 hx hv]; unfold runR; rw [if_pos ⟨hp,hB j⟩]
   have hnx:∀ j,j<2 ^ f→Qgc (r.rests++QjU f j) (lenI r.rests)=some (if j+1<2 ^ f then (r.rests++QjU f (j+1),true) else ([],false)):=fun j hj=>Qz5 (by omega) hj
   rw [hmk,Qaj,hcpy,← hf,← Qs8]
   show post (bnd (QeV x r (r.rests++QjU f 0)) _) _
   rw [hrun,Qaj,hnx 0 (by omega),Qaj]
   -- the first list
   have hB0:BstB x.net (typS x r) (QaB x r) r.start r.rests f 1 (runS x.net (typS x r) (QaB x r) r.start (r.rests++QjU f 0)).1 (eqI (runS x.net (typS x r) (QaB x r) r.start (r.rests++QjU f 0)).2 0):=by
    refine ⟨fun h i hi hok=>?_,fun h=>⟨0,by omega,?_,?_,fun i hi _=>?_⟩⟩
    ·obtain rfl:i=0:=by omega
     rw [QwT hok] at h; simp [eqI] at h
    ·exact Classical.byContradiction fun hn=>(QxE hn).1 (by simpa using h)
    ·have hok:okB x.net (typS x r) (QaB x r) r.start (r.rests++QjU f 0):=Classical.byContradiction fun hn=>(QxE hn).1 (by simpa using h)
     rw [QwT hok]
    ·obtain rfl:i=0:=by omega
     exact ⟨Int.le_refl _,fun _=>Nat.le_refl _⟩
   refine Qbc (R:=fun e=>BstB x.net (typS x r) (QaB x r) r.start r.rests f (2 ^ f) e.1 e.2) ?_ ?_
   ·refine QHb (fun m s=>∃ j:Nat,1≤j∧j≤2 ^ f∧s.1=r.rests∧(s.2.2.2.2=true→j<2 ^ f∧s.2.2.1=r.rests++QjU f j)∧(s.2.2.2.2=false→j=2 ^ f)∧BstB x.net (typS x r) (QaB x r) r.start r.rests f j s.2.1 s.2.2.2.1∧m=2 ^ f-j+(if s.2.2.2.2=true then 1 else 0)) (2 ^ f-1+(if 0+1<2 ^ f then 1 else 0))
     ⟨1,Nat.le_refl _,hf1,rfl,fun h=>?_,fun h=>?_,hB0,?_⟩ (by split <;> omega) ?_
    ·by_cases h1:0+1<2 ^ f
     ·rw [if_pos h1] at h ⊢; exact ⟨by omega,rfl⟩
     ·rw [if_neg h1] at h; cases h
    ·by_cases h1:0+1<2 ^ f
     ·rw [if_pos h1] at h; cases h
     ·omega
    ·by_cases h1:0+1<2 ^ f
     ·rw [if_pos h1,if_pos h1]; rfl
     ·rw [if_neg h1,if_neg h1]; rfl
    rintro m ⟨rs,sh,cur,found,more⟩ ⟨j,hj1,hj2,hrs,hmt,hmf,hbst,hm⟩
    simp only at hrs hmt hmf hbst hm
    subst hrs
    show post (Qff x r _ _ r.rests sh cur found more) _
    unfold Qff Qgx
    cases more with
    | false =>
     have:=hmf rfl
     subst this
     exact ⟨_,rfl,fun _ h=>by (cases h),fun e he=>by cases he; exact hbst⟩
    | true =>
     obtain ⟨hjl,hcur⟩:=hmt rfl
     subst hcur
     rw [QjV]
     show post (bnd (QeV x r (r.rests++QjU f j)) _) _
     rw [hrun,Qaj,hnx j hjl]
     have leaf:∀ (sh':Qap) (fd:Bool),BstB x.net (typS x r) (QaB x r) r.start r.rests f (j+1) sh' fd →
       post (bnd (some (if j+1<2 ^ f then (r.rests++QjU f (j+1),true) else ([],false))) fun r5=>some (Sum.inl (r.rests,sh',r5.1,fd,r5.2):(List Bool×Qap×List Bool×Bool×Bool)⊕(Qap×Bool))) fun y=>(∀ s',y=.inl s'→∃ m',m'<m∧∃ j:Nat,1≤j∧j≤2 ^ f∧s'.1=r.rests∧(s'.2.2.2.2=true→j<2 ^ f∧s'.2.2.1=r.rests++QjU f j)∧(s'.2.2.2.2=false→j=2 ^ f)∧BstB x.net (typS x r) (QaB x r) r.start r.rests f j s'.2.1 s'.2.2.2.1∧m'=2 ^ f-j+(if s'.2.2.2.2=true then 1 else 0))∧∀ e,y=.inr e→BstB x.net (typS x r) (QaB x r) r.start r.rests f (2 ^ f) e.1 e.2:=by
      intro sh' fd hb'
      rw [Qaj]
      refine ⟨_,rfl,fun s' hs'=>?_,fun _ h=>by cases h⟩
      cases hs'
      simp only [if_true] at hm
      by_cases h1:j+1<2 ^ f
      ·simp only [if_pos h1]
       exact ⟨2 ^ f-(j+1)+1,by omega,j+1,by omega,by omega,trivial,fun _=>⟨h1,rfl⟩,fun h=>(by cases h),hb',by simp⟩
      ·simp only [if_neg h1]
       exact ⟨0,by omega,j+1,by omega,by omega,trivial,fun h=>(by cases h),fun _=>by omega,hb',by simp; omega⟩
     by_cases hok:okB x.net (typS x r) (QaB x r) r.start (r.rests++QjU f j)
     ·rw [QwT hok]
      refine Qa0 (fun hcond=>leaf _ _ ⟨fun h=>by (cases h),fun _=>⟨j,by omega,hok,rfl,fun i hi hoi=>?_⟩⟩) (fun hcond=>leaf _ _ ?_)
      ·rcases Nat.lt_or_ge i j with hij|hij
       ·simp only [andT,orT,ntT,Qsh] at hcond
        cases hfd:found with
        | false=>exact absurd hoi (hbst.1 hfd i hij)
        | true =>
         obtain ⟨i0,k1,k2,k3,k4⟩:=hbst.2 hfd
         rcases hcond.2 with h|h
         ·rw [hfd] at h; cases h
         ·rw [k3] at h
          have:=(k4 i hij hoi).1
          unfold endB at this ⊢
          exact ⟨by omega,fun he=>by omega⟩
       ·obtain rfl:i=j:=by omega
        exact ⟨Int.le_refl _,fun _=>Nat.le_refl _⟩
      ·have h0:eqI (((lbB x.net (typS x r) (QaB x r) r.start (r.rests++QjU f j)).sheet,0):Qap×Int).2 0=true:=rfl
       rw [h0,Bool.true_and] at hcond
       simp only [orF,ntF,QsA] at hcond
       obtain ⟨hfd,hle⟩:=hcond
       refine ⟨fun h=>by (rw [hfd] at h; cases h),fun _=>?_⟩
       obtain ⟨i0,k1,k2,k3,k4⟩:=hbst.2 hfd
       refine ⟨i0,by omega,k2,k3,fun i hi hoi=>?_⟩
       rcases Nat.lt_or_ge i j with hij|hij
       ·exact k4 i hij hoi
       ·obtain rfl:i=j:=by omega
        rw [k3] at hle
        exact ⟨hle,fun _=>by omega⟩
     ·have hno:=QxE hok
      refine Qa0 (fun hcond=>?_) (fun _=>leaf _ _ ⟨fun h i hi=>?_,fun h=>?_⟩)
      ·simp only [andT,QvW] at hcond
       exact absurd hcond.1 hno.1
      ·rcases Nat.lt_or_ge i j with hij|hij
       ·exact hbst.1 h i hij
       ·obtain rfl:i=j:=by omega
        exact hok
      ·obtain ⟨i0,k1,k2,k3,k4⟩:=hbst.2 h
       refine ⟨i0,by omega,k2,k3,fun i hi hoi=>?_⟩
       rcases Nat.lt_or_ge i j with hij|hij
       ·exact k4 i hij hoi
       ·obtain rfl:i=j:=by omega
        exact absurd hoi hok
   ·rintro ⟨sh,found⟩ hbst
    have hall:∀ b,QAj x.net (typS x r) (QaB x r) r.start r.rests b→∃ j,j<2 ^ f∧b=r.rests++QjU f j:=fun b hb=>QDU (by rw [hb.1]; omega) hb.2.1
    show post (br found _ _) _
    cases hfd:found with
    | true =>
     rw [QjV]
     obtain ⟨i0,k1,k2,k3,k4⟩:=hbst.2 hfd
     refine QaH.2 (.inr ⟨⟨rfl,hc⟩,.inl ⟨r.rests++QjU f i0,⟨by rw [hB]; omega,QA2,k2⟩,fun q hq=>?_,by rw [← k3]⟩⟩)
     obtain ⟨j,hj,rfl⟩:=hall q hq
     have:=k4 j hj hq.2.2
     refine ⟨this.1,fun h=>?_⟩
     rw [QtH _ _ _ k1,QtH _ _ _ hj]
     have:=this.2 h
     omega
    | false =>
     rw [Qhg]
     have hnone:∀ b,¬ QAj x.net (typS x r) (QaB x r) r.start r.rests b:=fun b hb=>by
      obtain ⟨j,hj,rfl⟩:=hall b hb
      exact hbst.1 hfd j hj hb.2.2
     refine QaH.2 (.inr ⟨⟨rfl,hc⟩,.inr ⟨hnone,?_⟩⟩)
     have hno:¬ okB x.net (typS x r) (QaB x r) r.start (r.rests++QjU f 0):=hbst.1 hfd 0 (by omega)
     rw [← Qs8]
     exact (QxE hno).2.symm
  ·rw [QaY (by simp only [orT,QyZ,lenI]; right; omega)]
   exact QaH.2 (.inl ⟨fun h=>hc h.2,rfl⟩)
 ·rw [QaY (by simp [hp])]
  exact QaH.2 (.inl ⟨fun h=>hp h.1,rfl⟩)
end Go.Proofs.YtpkkaboonnedfaaGreatDoor
namespace Go.Proofs.YtpkkaboonnedfaaGreatDoor
set_option linter.unusedSimpArgs false
set_option linter.unusedVariables false
set_option linter.unusedSectionVars false
theorem QFa {n:Qam} {t:Qal} {stops:List Qaw} {start:Int} {rests a b:List Bool} (ha:QAj n t stops start rests a) (hb:QAj n t stops start rests b) (ma:minB n t stops start rests a) (mb:minB n t stops start rests b):a=b:=by
 have h1:=ma b hb
 have h2:=mb a ha
 have he:endB n t stops start b=endB n t stops start a:=by omega
 exact QFr (by rw [ha.1,hb.1]) (by have:=h1.2 he; have:=h2.2 he.symm; omega)
theorem QEY {n:Qam} {t:Qal} {stops:List Qaw} {start:Int} {b:List Bool}:(lbB n t stops start b).sheet.times.length≤b.length:=by
 have:=QxD (n:=n) (t:=t) (stops:=stops) b 0 (begS t start)
 have h0:(begS t start).sheet.times.length=0:=rfl
 rw [h0,Nat.zero_add] at this
 exact this
theorem QB6 {x:Qac} {r:Qad} (hx:QbW x) (hp:QuG x r=true) {b:List Bool} (hl:b.length=(QaB x r).length+1) (hok:okB x.net (typS x r) (QaB x r) r.start b) :
  Qvw (lbB x.net (typS x r) (QaB x r) r.start b).sheet=b∧(lbB x.net (typS x r) (QaB x r) r.start b).sheet.times.length=(QaB x r).length:=by
 have h5:=of_decide_eq_true (QpM hp)
 have hrs:=QwT hok
 obtain ⟨o1,o2⟩:=QGm (QDE hx hp) ⟨h5.2.2.1,h5.2.2.2.1⟩ hl (by rw [hrs])
 rw [hrs] at o2
 simp only at o2
 obtain ⟨f1,f2,f3⟩:=Okay.final o1
 obtain ⟨q1,q2⟩:=Okay.headr o1 (k:=(QaB x r).length) (Nat.le_refl _)
 rw [← o1.len] at q1
 rw [o2]
 refine ⟨?_,f1⟩
 unfold Qvw
 apply List.ext_getElem?
 intro i
 cases i with
 | zero =>
  rw [List.getElem?_cons_zero,q1,QA8 (by omega)]
 | succ i =>
  rw [List.getElem?_cons_succ,List.getElem?_map]
  rcases Nat.lt_or_ge i (QaB x r).length with hi|hi
  ·rw [f2 i hi,QA8 (by omega)]; rfl
  ·rw [List.getElem?_eq_none (by omega),List.getElem?_eq_none (by omega)]; rfl
theorem QEA {rests b:List Bool} (h:folB rests b) (hl:rests.length≤b.length):b.take rests.length=rests:=by
 obtain ⟨j,_,hb⟩:=QDU (rests:=rests) (b:=b) (f:=b.length-rests.length) (by omega) h
 rw [hb,List.take_left]
theorem QG6 {rests b:List Bool} (h:∀ i,i<rests.length→rests[i]?=b[i]?):folB rests b:=fun i y hy=>by
 unfold chB
 rcases Nat.lt_or_ge i rests.length with hi|hi
 ·rw [h i hi,hy]; simp
 ·rw [List.getElem?_eq_none hi]
  cases y <;> simp
end Go.Proofs.YtpkkaboonnedfaaGreatDoor
