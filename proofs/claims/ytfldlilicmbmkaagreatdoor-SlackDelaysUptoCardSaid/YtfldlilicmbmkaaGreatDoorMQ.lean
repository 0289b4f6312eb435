/- Part MQ of the proof: texts Zqm Zqn Zqo ZqoT Zqv Zsa Zsb Zsc Zsd Zqz Zqzd. -/
import Derived.Test.YtfldlilicmbmkaaGreatDoorMP
import Derived.Test.YtfldlilicmbmkaaGreatDoorMT
namespace Go.Proofs.YtfldlilicmbmkaaGreatDoor
set_option linter.unusedSimpArgs false
set_option linter.unusedVariables false
set_option linter.unusedSectionVars false
section
variable (n : T_api_Network) (t : T_api_Type) (stops : List T_api_Stop)
/-- The labels for a list of rests, from a label on. -/
noncomputable def runK : List Bool → Nat → T_drive_label → T_drive_label × Int
  | [], _, l => (l, 0)
  | b :: r, k, l => if (nxt n t stops l k b).2 ≠ 0 then (zLab, (nxt n t stops l k b).2) else runK r (k + 1) (nxt n t stops l k b).1
/-- The driving times at the arrivals. -/
noncomputable def runD : List Bool → Nat → T_drive_label → List Int
  | [], _, _ => []
  | b :: r, k, l => (nxt n t stops l k b).1.since :: runD r (k + 1) (nxt n t stops l k b).1
def begS (start : Int) : T_drive_label := T_drive_label.mk (max t.open_ start) 0 zSheet
/-- A schedule, or why there is none. -/
noncomputable def runS (start : Int) (rests : List Bool) : T_api_Sheet × Int :=
  if (runK n t stops rests 0 (begS t start)).2 ≠ 0 then (zSheet, (runK n t stops rests 0 (begS t start)).2) else ((runK n t stops rests 0 (begS t start)).1.sheet, 0)
end
section
variable {n : T_api_Network} {t : T_api_Type} {stops : List T_api_Stop} {l : T_drive_label} {k : Nat} {b : Bool}
theorem beg_lab (h : TripOK n t stops) {start : Int} (hs : 0 ≤ start ∧ start ≤ 4096) : LabI 0 (begS t start) := by
  have h1 := h.opn; have h2 := h.close
  refine ⟨?_, ?_, Int.le_refl _, by show (0 : Int) ≤ 4096; omega, Int.le_refl _, Int.le_refl _, rfl⟩
  · show 0 ≤ max t.open_ start; omega
  · show max t.open_ start ≤ 8192; omega
theorem run_eq {p : T_drive_trip} (h : TripOK p.x.net p.t p.stops) (hs : 0 ≤ p.r.start ∧ p.r.start ≤ 4096) {rests : List Bool} (hr : rests.length = p.stops.length + 1) : drive_trip_run p rests = some (runS p.x.net p.t p.stops p.r.start rests) := by
  have hfew := h.few
  apply post.eq
  unfold drive_trip_run
  have hbeg : drive_trip_begin p = some (begS p.t p.r.start) := by
    unfold drive_trip_begin begS; rw [maxI_eq]; rfl
  show post (bnd (drive_trip_begin p) _) _
  rw [hbeg, bnd_some]
  refine post_bnd (R := fun e : T_drive_label ⊕ (T_api_Sheet × Int) => e = (if (runK p.x.net p.t p.stops rests 0 (begS p.t p.r.start)).2 ≠ 0 then .inr (zSheet, (runK p.x.net p.t p.stops rests 0 (begS p.t p.r.start)).2) else .inl (runK p.x.net p.t p.stops rests 0 (begS p.t p.r.start)).1)) ?_ ?_
  · refine post_loop (fun s => ∃ (k : Nat) (l : T_drive_label), k ≤ rests.length ∧ s = (p.t.rest_, l, (k : Int)) ∧ (k ≤ p.stops.length → LabI k l) ∧ runK p.x.net p.t p.stops (rests.drop k) k l = runK p.x.net p.t p.stops rests 0 (begS p.t p.r.start)) (fun s => rests.length - s.2.2.toNat) ⟨0, _, Nat.zero_le _, rfl, fun _ => beg_lab h hs, rfl⟩ (by simp; omega) ?_
    rintro _ ⟨k, l, hk, rfl, hL, hf⟩
    show post (drive_trip_run_L1 p rests _ p.t.rest_ l (k : Int)) _
    unfold drive_trip_run_L1
    refine post_br (fun hb => ?_) (fun hb => post_inr ?_)
    · simp only [ltI_t, lenI] at hb
      have hk' : k < rests.length := by omega
      have e1 : rests[k]? = some rests[k] := List.getElem?_eq_getElem hk'
      rw [getI_nat e1, bnd_some, inc hk' (by omega)]
      rw [List.drop_eq_getElem_cons hk'] at hf
      simp only [runK] at hf
      show post (bnd (drive_trip_next p l (k : Int) rests[k]) _) _
      rw [next_eq h (hL (by omega)) (by omega), bnd_some]
      generalize rests[k] = b at *
      refine post_br (fun hc => post_inr ?_) (fun hc => post_inl ⟨⟨k + 1, (nxt p.x.net p.t p.stops l k b).1, by omega, rfl, fun h' => ?_, ?_⟩, by simp; omega⟩)
      · simp only [neI_t] at hc
        rw [if_pos hc] at hf
        rw [← hf, if_pos hc]; rfl
      · simp only [neI_f] at hc
        exact nxt_lab h (hL (by omega)) (by omega) hc
      · simp only [neI_f] at hc
        rwa [if_neg (by simpa using hc)] at hf
    · simp only [ltI_f, lenI] at hb
      rw [List.drop_eq_nil_of_le (by omega)] at hf
      simp only [runK] at hf
      rw [← hf, if_neg (by simp)]
  · rintro e rfl
    unfold runS
    split
    · rw [sel_inr]; exact post_some.2 rfl
    · rw [sel_inl]; exact post_some.2 rfl
theorem step_eq {x : T_api_Instance} {s : T_lorryref18_state} (hn : NetOK x.net) (ht : inT s.time) (hd : 0 ≤ s.driven ∧ s.driven ≤ 4096) (hm : 0 ≤ s.miles ∧ s.miles ≤ 1000000) (to_ close late : Int) :
    lorryref18_step x t s to_ close late = some (if (goN x.net t.profile s.place to_ s.time).2.2 ≠ 0 then (s, 12) else if close < (goN x.net t.profile s.place to_ s.time).1 then (s, late)
      else if t.drive < s.driven + (goN x.net t.profile s.place to_ s.time).1 - s.time then (s, 16)
      else (T_lorryref18_state.mk to_ (goN x.net t.profile s.place to_ s.time).1 (s.driven + (goN x.net t.profile s.place to_ s.time).1 - s.time) (s.miles + (goN x.net t.profile s.place to_ s.time).2.1), 0)) := by
  unfold lorryref18_step lorryref18_Way
  show bnd (bnd (lorryref09_Go x.net t.profile s.place to_ s.time) _) _ = _
  rw [ref09_Go_eq hn _ _ _ ht, bnd_some, bnd_some]
  by_cases h0 : (goN x.net t.profile s.place to_ s.time).2.2 = 0
  · have hb := goN_bd hn ht h0
    unfold inT at ht
    rw [br_pos (by simpa using h0), if_neg (by simpa using h0)]
    simp (disch := omega) only [addI, subI, br_if, gtI_t]
    split
    · rfl
    · split <;> rfl
  · rw [br_neg (by simpa using h0), if_pos h0]
/-- The reference's state at a departure. -/
def stS (t : T_api_Type) (stops : List T_api_Stop) (l : T_drive_label) (k : Nat) (b : Bool) : T_lorryref18_state := T_lorryref18_state.mk (fromP t stops k) (depS t l b) (sinS l b) l.sheet.miles
theorem patch_last {ts : List T_api_Time} {a m d : Int} {e : Bool} {dep : Int} : patch (ts ++ [T_api_Time.mk a m d e]) ts.length dep b = ts ++ [T_api_Time.mk a m dep b] := by
  unfold patch
  rw [List.getElem?_append_right (Nat.le_refl _), Nat.sub_self]
  show (ts ++ [T_api_Time.mk a m d e]).set ts.length (T_api_Time.mk a m dep b) = _
  rw [List.set_append_right _ _ (Nat.le_refl _), Nat.sub_self]
  rfl
theorem stop_at {x : T_api_Instance} {r : T_api_Route} (hp : possS x r = true) (hk : k < r.visits.length) : ∃ v, r.visits[k]? = some v ∧ lorryref18_stop x v = some (stopK t (stopsOf x r) k, true) := by
  obtain ⟨v, h1, h2⟩ := stops_at hp (stopK_lt (t := t) (by rw [stops_len]; exact hk))
  exact ⟨v, h1, by rw [ref_stop_eq, h2]⟩
/-- A step of the reference is the program's. -/
theorem step_nxt {x : T_api_Instance} {to_ close late : Int} (hx : InstOK x) (hT : TripOK x.net t stops) (hL : LabI k l) (hk : k ≤ 20) (h1 : (stopK t stops k).place = to_) (h2 : (stopK t stops k).close = close) (h3 : (if k < stops.length then 14 else 15) = late) :
    ∃ X, lorryref18_step x t (stS t stops l k b) to_ close late = some X ∧ X.2 = (nxt x.net t stops l k b).2 ∧
      ((nxt x.net t stops l k b).2 = 0 → X = (T_lorryref18_state.mk to_ (goN x.net t.profile (fromP t stops k) (stopK t stops k).place (depS t l b)).1 (sinS l b + (goN x.net t.profile (fromP t stops k) (stopK t stops k).place (depS t l b)).1 - depS t l b) (l.sheet.miles + (goN x.net t.profile (fromP t stops k) (stopK t stops k).place (depS t l b)).2.1), 0)) := by
  have hin := dep_in (rest := b) hT hL
  have hsn : 0 ≤ sinS l b ∧ sinS l b ≤ 4096 := by have := hL.since0; have := hL.since1; unfold sinS; split <;> omega
  have hm0 := hL.miles0; have hm1 := hL.miles1
  have hstep := step_eq (t := t) (s := stS t stops l k b) hx.net hin hsn ⟨hm0, by show l.sheet.miles ≤ 1000000; omega⟩ to_ close late
  subst h1 h2 h3
  refine ⟨_, hstep, ?_, fun h0 => ?_⟩
  · unfold nxt nxtD
    show (if (goN x.net t.profile (fromP t stops k) (stopK t stops k).place (depS t l b)).2.2 ≠ 0 then _ else if (stopK t stops k).close < (goN x.net t.profile (fromP t stops k) (stopK t stops k).place (depS t l b)).1 then _ else if t.drive < sinS l b + (goN x.net t.profile (fromP t stops k) (stopK t stops k).place (depS t l b)).1 - depS t l b then _ else _ : T_lorryref18_state × Int).2 = _
    split
    · rfl
    · split
      · rfl
      · split <;> rfl
  · obtain ⟨g0, g1, g2, g3⟩ := nxt_ok hT hL h0
    show (if (goN x.net t.profile (fromP t stops k) (stopK t stops k).place (depS t l b)).2.2 ≠ 0 then _ else if (stopK t stops k).close < (goN x.net t.profile (fromP t stops k) (stopK t stops k).place (depS t l b)).1 then _ else if t.drive < sinS l b + (goN x.net t.profile (fromP t stops k) (stopK t stops k).place (depS t l b)).1 - depS t l b then _ else _ : T_lorryref18_state × Int) = _
    rw [if_neg (by simpa using g0), if_neg (by omega), if_neg (by omega)]
    rfl
theorem ref_run_eq {x : T_api_Instance} {r : T_api_Route} {rests : List Bool} (hx : InstOK x) (hv : r.visits.length ≤ 1048576) : lorryref18_run x r rests = some (if possS x r = true ∧ rests.length = r.visits.length + 1 then
      ((runS x.net (typS x r) (stopsOf x r) r.start rests).1, if (runS x.net (typS x r) (stopsOf x r) r.start rests).2 = 0 then runD x.net (typS x r) (stopsOf x r) rests 0 (begS (typS x r) r.start) else [], (runS x.net (typS x r) (stopsOf x r) r.start rests).2) else (zSheet, [], 2)) := by
  unfold lorryref18_run
  show bnd (lorryref18_Possible x r) _ = _
  rw [poss_eq, bnd_some]
  have hadd : addK .i64 (lenI r.visits) 1 = (r.visits.length : Int) + 1 := by unfold lenI; exact addI (by omega) (by omega)
  rw [hadd]
  by_cases hc : possS x r = true ∧ rests.length = r.visits.length + 1
  · obtain ⟨hp, hr⟩ := hc
    have h5 := of_decide_eq_true (poss_pre hp)
    have hT := tripOK hx hp
    rw [if_pos ⟨hp, hr⟩, hp, br_neg (by simp only [Bool.not_true, Bool.false_or, neI_f, lenI]; omega), (typ_get (poss_pre hp)).1, bnd_some]
    have e0 : rests[0]? = some (rests[0]'(by omega)) := List.getElem?_eq_getElem _
    rw [show getI rests 0 = some (rests[0]'(by omega)) from getI_nat (k := 0) e0, bnd_some]
    have hL0 := beg_lab hT ⟨h5.2.2.1, h5.2.2.2.1⟩
    have hrest : ∀ (s : T_lorryref18_state) (b : Bool), 0 ≤ s.time ∧ s.time ≤ 20000 → lorryref18_rest (typS x r) s b = some (T_lorryref18_state.mk s.place (s.time + (if b = true then (typS x r).rest_ else 0)) (if b = true then 0 else s.driven) s.miles) := by
      intro s b hs
      have := hT.rest
      unfold lorryref18_rest
      cases b with
      | true => rw [br_true, addI (by omega) (by omega)]; rfl
      | false => rw [br_false]; simp
    have hmx : maxI (typS x r).open_ r.start = (begS (typS x r) r.start).ready := by rw [maxI_eq]; rfl
    rw [hmx, hrest _ _ ⟨hL0.ready0, by have := hL0.ready1; show (begS (typS x r) r.start).ready ≤ 20000; omega⟩, bnd_some]
    generalize hb0 : rests[0]'(by omega) = b0 at e0
    have hst0 : T_lorryref18_state.mk (typS x r).from_ ((begS (typS x r) r.start).ready + (if b0 = true then (typS x r).rest_ else 0)) (if b0 = true then 0 else 0) 0 = stS (typS x r) (stopsOf x r) (begS (typS x r) r.start) 0 b0 := rfl
    show bnd (loopF _ ([], [], T_lorryref18_state.mk (typS x r).from_ ((begS (typS x r) r.start).ready + (if b0 = true then (typS x r).rest_ else 0)) (if b0 = true then 0 else 0) 0, depS (typS x r) (begS (typS x r) r.start) b0, 0)) _ = _
    rw [hst0]
    apply post.eq
    have hsl := stops_len (x := x) (r := r)
    -- what the loop over the visits comes to
    refine post_bnd (R := fun e : (List Int × List T_api_Time × T_lorryref18_state × Int) ⊕ (T_api_Sheet × List Int × Int) =>
      (∃ err, err ≠ 0 ∧ e = .inr (zSheet, [], err) ∧ (runK x.net (typS x r) (stopsOf x r) rests 0 (begS (typS x r) r.start)).2 = err) ∨
      (∃ (l : T_drive_label) (b : Bool) (dr : List Int) (dep : Int), LabI r.visits.length l ∧ e = .inl (dr, timesS l r.visits.length (depS (typS x r) l b) b, stS (typS x r) (stopsOf x r) l r.visits.length b, dep) ∧ dr.length = r.visits.length ∧
        (if r.visits.length = 0 then b else l.sheet.rest_) = b0 ∧ (if r.visits.length = 0 then depS (typS x r) l b else l.sheet.depart) = dep ∧
        runK x.net (typS x r) (stopsOf x r) [b] r.visits.length l = runK x.net (typS x r) (stopsOf x r) rests 0 (begS (typS x r) r.start) ∧
        dr ++ runD x.net (typS x r) (stopsOf x r) [b] r.visits.length l = runD x.net (typS x r) (stopsOf x r) rests 0 (begS (typS x r) r.start))) ?_ ?_
    · refine post_loop (fun s => ∃ (k : Nat) (l : T_drive_label) (b : Bool) (dr : List Int) (dep : Int), k ≤ r.visits.length ∧ LabI k l ∧ rests[k]? = some b ∧ s = (dr, timesS l k (depS (typS x r) l b) b, stS (typS x r) (stopsOf x r) l k b, dep, (k : Int)) ∧ dr.length = k ∧
        (if k = 0 then b else l.sheet.rest_) = b0 ∧ (if k = 0 then depS (typS x r) l b else l.sheet.depart) = dep ∧
        runK x.net (typS x r) (stopsOf x r) (rests.drop k) k l = runK x.net (typS x r) (stopsOf x r) rests 0 (begS (typS x r) r.start) ∧
        dr ++ runD x.net (typS x r) (stopsOf x r) (rests.drop k) k l = runD x.net (typS x r) (stopsOf x r) rests 0 (begS (typS x r) r.start)) (fun s => r.visits.length - s.2.2.2.2.toNat)
        ⟨0, _, b0, [], _, Nat.zero_le _, hL0, e0, rfl, rfl, rfl, rfl, rfl, rfl⟩ (by simp; omega) ?_
      rintro _ ⟨k, l, b, dr, dep, hk, hL, hbk, rfl, hdr, hq1, hq2, hf, hfd⟩
      show post (lorryref18_run_L1 x r rests (typS x r) b0 dr (timesS l k (depS (typS x r) l b) b) (stS (typS x r) (stopsOf x r) l k b) dep (k : Int)) _
      unfold lorryref18_run_L1
      have hkr : k < rests.length := (List.getElem?_eq_some_iff.1 hbk).1
      have hcons : rests.drop k = b :: rests.drop (k + 1) := by
        rw [List.drop_eq_getElem_cons hkr]; congr 1; rw [List.getElem?_eq_getElem hkr] at hbk; exact Option.some.inj hbk
      refine post_br (fun hb => ?_) (fun hb => post_inr (.inr ?_))
      · simp only [ltI_t, lenI] at hb
        have hk' : k < r.visits.length := by omega
        obtain ⟨v, hv1, hv2⟩ := stop_at (t := typS x r) hp hk'
        rw [hcons] at hf hfd
        simp only [runK, runD] at hf hfd
        rw [getI_nat hv1, bnd_some]
        show post (bnd (lorryref18_stop x v) fun r3 => bnd (lorryref18_step x (typS x r) (stS (typS x r) (stopsOf x r) l k b) r3.1.place r3.1.close 14) _) _
        have hin := dep_in (rest := b) hT hL
        have hsn : 0 ≤ sinS l b ∧ sinS l b ≤ 4096 := by have := hL.since0; have := hL.since1; unfold sinS; split <;> omega
        have hm0 := hL.miles0; have hm1 := hL.miles1
        obtain ⟨X, hX1, hX2, hX3⟩ := step_nxt (b := b) hx hT hL (by have := h5.2.2.2.2; omega) (to_ := (stopK (typS x r) (stopsOf x r) k).place) (close := (stopK (typS x r) (stopsOf x r) k).close) (late := 14) rfl rfl (by rw [if_pos (by rw [hsl]; exact hk')])
        rw [hv2, bnd_some, hX1, bnd_some]
        by_cases h0 : (nxt x.net (typS x r) (stopsOf x r) l k b).2 = 0
        · obtain ⟨g0, g1, g2, g3⟩ := nxt_ok hT hL h0
          have hL' := nxt_lab hT hL (by rw [hsl]; exact hk') h0
          have hX4 := hX3 h0
          rw [if_neg (by simpa using h0)] at hf
          have hb1 : rests[k + 1]? = some (rests[k + 1]'(by omega)) := List.getElem?_eq_getElem _
          have hgb := goN_bd hx.net hin g0
          have hS := hT.stopK k
          have h51 := hS.open0; have h52 := hS.open1; have h53 := hS.close; have h54 := hS.serv0; have h55 := hS.serv1
          have hin' := hin
          unfold inT at hin'
          rw [br_neg (by rw [hX2]; simpa using h0), hX4]
          simp only
          have hkl : k < (stopsOf x r).length := by rw [hsl]; exact hk'
          have hplace : fromP (typS x r) (stopsOf x r) (k + 1) = (stopK (typS x r) (stopsOf x r) k).place := by
            show ((stopsOf x r).getD k zStop).place = ((stopsOf x r).getD k (endS (typS x r))).place
            rw [List.getD_eq_getElem?_getD, List.getD_eq_getElem?_getD, List.getElem?_eq_getElem hkl]; rfl
          generalize hgg : goN x.net (typS x r).profile (fromP (typS x r) (stopsOf x r) k) (stopK (typS x r) (stopsOf x r) k).place (depS (typS x r) l b) = g at *
          generalize hl' : (nxt x.net (typS x r) (stopsOf x r) l k b).1 = l' at *
          have hdrl : (dr ++ [sinS l b + g.1 - depS (typS x r) l b]).length = k + 1 := by rw [List.length_append, hdr]; rfl
          refine post_chk (okN_of (by rw [hdrl]; omega)) ?_
          rw [inc (n := r.visits.length) hk' (by omega), show (k : Int) + 1 = ((k + 1 : Nat) : Int) by omega, getI_nat hb1, bnd_some]
          generalize rests[k + 1]'(by omega) = b' at hb1
          rw [maxI_eq, addI (by omega) (by omega), hrest _ _ ⟨by show 0 ≤ max g.1 _ + _; omega, by show max g.1 _ + _ ≤ 20000; omega⟩, bnd_some]
          refine post_chk (okN_of (by rw [List.length_append, timesS_len, hL.times]; simp; omega)) (post_inl ⟨⟨k + 1, l', b', dr ++ [sinS l b + g.1 - depS (typS x r) l b], dep, by omega, hL', hb1, ?_, hdrl, ?_, ?_, hf, ?_⟩, by simp; omega⟩)
          · rw [g3]
            have ht1 : (timesS l k (depS (typS x r) l b) b).length = k := by rw [timesS_len, hL.times]
            have ht2 : timesS (T_drive_label.mk (max g.1 (stopK (typS x r) (stopsOf x r) k).open_ + (stopK (typS x r) (stopsOf x r) k).service) (sinS l b + g.1 - depS (typS x r) l b) (shS (typS x r) (stopsOf x r) l k b (depS (typS x r) l b) g)) (k + 1) (max g.1 (stopK (typS x r) (stopsOf x r) k).open_ + (stopK (typS x r) (stopsOf x r) k).service + (if b' = true then (typS x r).rest_ else 0)) b' =
                timesS l k (depS (typS x r) l b) b ++ [T_api_Time.mk g.1 (max g.1 (stopK (typS x r) (stopsOf x r) k).open_) (max g.1 (stopK (typS x r) (stopsOf x r) k).open_ + (stopK (typS x r) (stopsOf x r) k).service + (if b' = true then (typS x r).rest_ else 0)) b'] := by
              show patch (if k < (stopsOf x r).length then timesS l k (depS (typS x r) l b) b ++ [T_api_Time.mk g.1 (max g.1 (stopK (typS x r) (stopsOf x r) k).open_) 0 false] else _) k _ b' = _
              rw [if_pos hkl]
              have := patch_last (b := b') (ts := timesS l k (depS (typS x r) l b) b) (a := g.1) (m := max g.1 (stopK (typS x r) (stopsOf x r) k).open_) (d := 0) (e := false) (dep := max g.1 (stopK (typS x r) (stopsOf x r) k).open_ + (stopK (typS x r) (stopsOf x r) k).service + (if b' = true then (typS x r).rest_ else 0))
              rw [ht1] at this
              exact this
            show (_, _, _, _, _) = (_, timesS _ (k + 1) (max g.1 (stopK (typS x r) (stopsOf x r) k).open_ + (stopK (typS x r) (stopsOf x r) k).service + (if b' = true then (typS x r).rest_ else 0)) b', _, _, _)
            rw [ht2]
            unfold stS
            rw [hplace]
            rfl
          · rw [if_neg (by omega), g3]; exact hq1
          · rw [if_neg (by omega), g3]; exact hq2
          · rw [← hfd, List.append_assoc, g3]; rfl
        · rw [br_pos (by rw [hX2]; simpa using h0), hX2]
          rw [if_pos h0] at hf
          exact post_inr (.inl ⟨_, h0, rfl, by rw [← hf]⟩)
      · simp only [ltI_f, lenI] at hb
        have hkv : k = r.visits.length := by omega
        subst hkv
        have hd1 : rests.drop (r.visits.length + 1) = [] := List.drop_eq_nil_of_le (by omega)
        rw [hcons, hd1] at hf hfd
        exact ⟨l, b, dr, dep, hL, rfl, hdr, hq1, hq2, hf, hfd⟩
    · unfold runS
      rintro e (⟨err, h1, rfl, h2⟩ | ⟨l, b, dr, dep, hL, rfl, hdr, hq1, hq2, hf, hfd⟩)
      · rw [sel_inr, h2, if_pos h1]
        refine post_some.2 ?_
        simp only
        rw [if_neg h1]
      · rw [sel_inl]
        obtain ⟨X, hX1, hX2, hX3⟩ := step_nxt (b := b) hx hT hL (by have := h5.2.2.2.2; omega) (to_ := (typS x r).to_) (close := (typS x r).close) (late := 15) (by rw [stopK_end (by rw [hsl]; omega)]; rfl) (by rw [stopK_end (by rw [hsl]; omega)]; rfl) (by rw [if_neg (by rw [hsl]; omega)])
        show post (bnd (lorryref18_step x (typS x r) (stS (typS x r) (stopsOf x r) l r.visits.length b) (typS x r).to_ (typS x r).close 15) _) _
        rw [hX1, bnd_some]
        simp only [runK, runD] at hf hfd
        by_cases h0 : (nxt x.net (typS x r) (stopsOf x r) l r.visits.length b).2 = 0
        · obtain ⟨g0, g1, g2, g3⟩ := nxt_ok hT hL h0
          rw [if_neg (by simpa using h0)] at hf
          rw [br_neg (by rw [hX2]; simpa using h0), hX3 h0, ← hf, ← hfd]
          refine post_chk (okN_of (by simp; omega)) (post_some.2 ?_)
          simp only [ne_eq, not_true_eq_false, if_false, if_true]
          rw [g3]
          unfold shS
          have hnl : ¬ r.visits.length < (stopsOf x r).length := by rw [hsl]; omega
          rw [hq1, hq2, if_neg hnl, if_neg hnl]
        · rw [if_pos h0] at hf
          rw [br_pos (by rw [hX2]; simpa using h0), ← hf, hX2]
          refine post_some.2 ?_
          simp only
          rw [if_pos h0, if_neg h0]; rfl
  · rw [if_neg hc]
    rw [br_pos]
    · rfl
    · by_cases hp : possS x r = true
      · simp only [hp, Bool.not_true, Bool.false_or, neI_t, lenI]
        intro h; exact hc ⟨hp, by omega⟩
      · simp [hp]
end
end Go.Proofs.YtfldlilicmbmkaaGreatDoor
namespace Go.Proofs.YtfldlilicmbmkaaGreatDoor
set_option linter.unusedSimpArgs false
set_option linter.unusedVariables false
set_option linter.unusedSectionVars false
section
variable (n : T_api_Network) (t : T_api_Type) (stops : List T_api_Stop) (start : Int) (rests : List Bool)
/-- The label after k departures. -/
noncomputable def labK : Nat → T_drive_label
  | 0 => begS t start
  | k + 1 => (nxt n t stops (labK k) k (rests.getD k false)).1
/-- Departure k. -/
noncomputable def depK (k : Nat) : Int := depS t (labK n t stops start rests k) (rests.getD k false)
/-- The way behind departure k. -/
noncomputable def goK (k : Nat) : Int × Int × Int := goN n t.profile (fromP t stops k) (stopK t stops k).place (depK n t stops start rests k)
end
section
variable {n : T_api_Network} {t : T_api_Type} {stops : List T_api_Stop} {start : Int} {rests : List Bool}
theorem runK_lab : ∀ (m k : Nat), m + k = rests.length → (runK n t stops (rests.drop k) k (labK n t stops start rests k)).2 = 0 →
    (∀ j, k ≤ j → j < rests.length → (nxt n t stops (labK n t stops start rests j) j (rests.getD j false)).2 = 0) ∧ runK n t stops (rests.drop k) k (labK n t stops start rests k) = (labK n t stops start rests rests.length, 0)
  | 0, k, hm, h => by
    have hk : k = rests.length := by omega
    subst hk
    rw [List.drop_length]
    exact ⟨fun j h1 h2 => by omega, rfl⟩
  | m + 1, k, hm, h => by
    have hk : k < rests.length := by omega
    have hg : rests.getD k false = rests[k] := by rw [List.getD_eq_getElem?_getD, List.getElem?_eq_getElem hk]; rfl
    rw [List.drop_eq_getElem_cons hk] at h ⊢
    simp only [runK] at h ⊢
    rw [← hg] at h ⊢
    by_cases h0 : (nxt n t stops (labK n t stops start rests k) k (rests.getD k false)).2 = 0
    · rw [if_neg (by simpa using h0)] at h ⊢
      obtain ⟨h1, h2⟩ := runK_lab m (k + 1) (by omega) h
      refine ⟨fun j hj hj' => ?_, h2⟩
      rcases Nat.lt_or_ge k j with h' | h'
      · exact h1 j h' hj'
      · obtain rfl : j = k := by omega
        exact h0
    · rw [if_pos h0] at h; exact absurd h h0
/-- A schedule that is there. -/
structure Okay (n : T_api_Network) (t : T_api_Type) (stops : List T_api_Stop) (start : Int) (rests : List Bool) : Prop where
  trip : TripOK n t stops
  st : 0 ≤ start ∧ start ≤ 4096
  len : rests.length = stops.length + 1
  all : ∀ j, j < rests.length → (nxt n t stops (labK n t stops start rests j) j (rests.getD j false)).2 = 0
theorem okay_of (hT : TripOK n t stops) (hs : 0 ≤ start ∧ start ≤ 4096) (hl : rests.length = stops.length + 1) (h : (runS n t stops start rests).2 = 0) :
    Okay n t stops start rests ∧ (runS n t stops start rests).1 = (labK n t stops start rests rests.length).sheet := by
  unfold runS at h ⊢
  split at h
  · rename_i h1; exact absurd h h1
  · rename_i h1
    rw [if_neg h1]
    have h2 : (runK n t stops rests 0 (begS t start)).2 = 0 := by simpa using h1
    obtain ⟨h3, h4⟩ := runK_lab rests.length 0 (by omega) h2
    refine ⟨⟨hT, hs, hl, fun j hj => h3 j (Nat.zero_le _) hj⟩, ?_⟩
    have h5 : runK n t stops rests 0 (begS t start) = (labK n t stops start rests rests.length, 0) := h4
    rw [h5]
section
variable (h : Okay n t stops start rests)
include h
theorem Okay.lab : ∀ k, k ≤ stops.length → LabI k (labK n t stops start rests k)
  | 0, _ => beg_lab h.trip h.st
  | k + 1, hk => nxt_lab h.trip (Okay.lab k (by omega)) (by omega) (h.all k (by rw [h.len]; omega))
theorem Okay.step {k : Nat} (hk : k ≤ stops.length) :
    (goK n t stops start rests k).2.2 = 0 ∧ (goK n t stops start rests k).1 ≤ (stopK t stops k).close ∧
    labK n t stops start rests (k + 1) = T_drive_label.mk (max (goK n t stops start rests k).1 (stopK t stops k).open_ + (stopK t stops k).service) (sinS (labK n t stops start rests k) (rests.getD k false) + (goK n t stops start rests k).1 - depK n t stops start rests k)
      (shS t stops (labK n t stops start rests k) k (rests.getD k false) (depK n t stops start rests k) (goK n t stops start rests k)) := by
  obtain ⟨g0, g1, g2, g3⟩ := nxt_ok h.trip (Okay.lab h k hk) (h.all k (by rw [h.len]; omega))
  exact ⟨g0, g1, g3⟩
theorem Okay.dep {k : Nat} (hk : k ≤ stops.length) : inT (depK n t stops start rests k) := dep_in h.trip (Okay.lab h k hk)
theorem Okay.go {k : Nat} (hk : k ≤ stops.length) : depK n t stops start rests k ≤ (goK n t stops start rests k).1 := (goN_bd h.trip.net (Okay.dep h hk) (Okay.step h hk).1).1
theorem Okay.ready {k : Nat} (hk : k ≤ stops.length) : (labK n t stops start rests (k + 1)).ready = max (goK n t stops start rests k).1 (stopK t stops k).open_ + (stopK t stops k).service := by rw [(Okay.step h hk).2.2]
theorem Okay.since {k : Nat} (hk : k ≤ stops.length) : (labK n t stops start rests (k + 1)).since = sinS (labK n t stops start rests k) (rests.getD k false) + (goK n t stops start rests k).1 - depK n t stops start rests k := by rw [(Okay.step h hk).2.2]
theorem Okay.miles {k : Nat} (hk : k ≤ stops.length) : (labK n t stops start rests (k + 1)).sheet.miles = (labK n t stops start rests k).sheet.miles + (goK n t stops start rests k).2.1 := by rw [(Okay.step h hk).2.2]; rfl
theorem Okay.headr : ∀ {k : Nat}, k ≤ stops.length → (labK n t stops start rests (k + 1)).sheet.rest_ = rests.getD 0 false ∧ (labK n t stops start rests (k + 1)).sheet.depart = depK n t stops start rests 0
  | 0, hk => by rw [(Okay.step h hk).2.2]; exact ⟨rfl, rfl⟩
  | k + 1, hk => by
    have := Okay.headr (k := k) (by omega)
    rw [(Okay.step h hk).2.2]
    exact this
theorem Okay.patched (k : Nat) (hk : k ≤ stops.length) (ih : ∀ i, i < k →
    (labK n t stops start rests k).sheet.times[i]? = some (if i + 1 < k then T_api_Time.mk (goK n t stops start rests i).1 (max (goK n t stops start rests i).1 (stopK t stops i).open_) (depK n t stops start rests (i + 1)) (rests.getD (i + 1) false)
      else T_api_Time.mk (goK n t stops start rests i).1 (max (goK n t stops start rests i).1 (stopK t stops i).open_) 0 false)) (i : Nat) (hi : i < k) :
    (timesS (labK n t stops start rests k) k (depK n t stops start rests k) (rests.getD k false))[i]? = some (T_api_Time.mk (goK n t stops start rests i).1 (max (goK n t stops start rests i).1 (stopK t stops i).open_) (depK n t stops start rests (i + 1)) (rests.getD (i + 1) false)) := by
    have hlen := (Okay.lab h k hk).times
    unfold timesS patch
    rw [if_neg (by omega)]
    have hl := ih (k - 1) (by omega)
    rw [if_neg (by omega)] at hl
    rw [hl]
    simp only
    rw [List.getElem?_set]
    by_cases hc : k - 1 = i
    · rw [if_pos hc, if_pos (by omega)]
      subst hc
      rw [show k - 1 + 1 = k by omega]
    · rw [if_neg hc, ih i hi, if_pos (by omega)]
/-- The entry of visit i as it is written first, and as it stays. -/
theorem Okay.entries : ∀ {k : Nat}, k ≤ stops.length → ∀ i, i < k →
    (labK n t stops start rests k).sheet.times[i]? = some (if i + 1 < k then T_api_Time.mk (goK n t stops start rests i).1 (max (goK n t stops start rests i).1 (stopK t stops i).open_) (depK n t stops start rests (i + 1)) (rests.getD (i + 1) false)
      else T_api_Time.mk (goK n t stops start rests i).1 (max (goK n t stops start rests i).1 (stopK t stops i).open_) 0 false)
  | 0, _, i, hi => by omega
  | k + 1, hk, i, hi => by
    have hlen := (Okay.lab h k (by omega)).times
    have htl : (timesS (labK n t stops start rests k) k (depK n t stops start rests k) (rests.getD k false)).length = k := by rw [timesS_len, hlen]
    have e : (labK n t stops start rests (k + 1)).sheet.times = timesS (labK n t stops start rests k) k (depK n t stops start rests k) (rests.getD k false) ++ [T_api_Time.mk (goK n t stops start rests k).1 (max (goK n t stops start rests k).1 (stopK t stops k).open_) 0 false] := by
      rw [(Okay.step h (by omega)).2.2]
      show (if k < stops.length then _ else _ : List T_api_Time) = _
      rw [if_pos (by omega)]
    rw [e]
    by_cases hik : i < k
    · rw [List.getElem?_append_left (by omega), if_pos (by omega)]
      exact Okay.patched h k (by omega) (Okay.entries (by omega)) i hik
    · obtain rfl : i = k := by omega
      rw [List.getElem?_append_right (by omega), htl, Nat.sub_self, if_neg (by omega)]; rfl
/-- The schedule's entries. -/
theorem Okay.final : (labK n t stops start rests rests.length).sheet.times.length = stops.length ∧ (∀ i, i < stops.length → (labK n t stops start rests rests.length).sheet.times[i]? = some (T_api_Time.mk (goK n t stops start rests i).1 (max (goK n t stops start rests i).1 (stopK t stops i).open_) (depK n t stops start rests (i + 1)) (rests.getD (i + 1) false))) ∧
    (labK n t stops start rests rests.length).sheet.end_ = (goK n t stops start rests stops.length).1 := by
  have hst := (Okay.step h (k := stops.length) (Nat.le_refl _)).2.2
  have hlab := Okay.lab h stops.length (Nat.le_refl _)
  rw [h.len, hst]
  have hn : ¬ stops.length < stops.length := Nat.lt_irrefl _
  refine ⟨?_, fun i hi => ?_, ?_⟩
  · show (if stops.length < stops.length then _ else _ : List T_api_Time).length = _
    rw [if_neg hn, timesS_len, hlab.times]
  · show (if stops.length < stops.length then _ else _ : List T_api_Time)[i]? = _
    rw [if_neg hn]
    exact Okay.patched h stops.length (Nat.le_refl _) (fun i hi => Okay.entries h (Nat.le_refl _) i hi) i hi
  · show (if stops.length < stops.length then _ else _ : Int) = _
    rw [if_neg hn]
end
end
end Go.Proofs.YtfldlilicmbmkaaGreatDoor
namespace Go.Proofs.YtfldlilicmbmkaaGreatDoor
set_option linter.unusedSimpArgs false
set_option linter.unusedVariables false
set_option linter.unusedSectionVars false
theorem same18_refl {a : T_api_Sheet} (h : a.times.length ≤ 1048576) : lorryref18_Same a a = some true := by
  unfold lorryref18_Same
  rw [br_neg (by simp [neI, eqB])]
  have l1 : loopF (fun s => lorryref18_Same_L1 a a s) 0 = some (.inl ()) := by
    refine all_loop (fun _ => true) _ (Sum.inr false) h (fun _ _ => rfl) (fun i x hx => ?_) ?_
    · show lorryref18_Same_L1 a a (i : Int) = _
      unfold lorryref18_Same_L1
      have := (List.getElem?_eq_some_iff.1 hx).1
      rw [br_pos (by simp [lenI]; omega), getI_nat hx, bnd_some, bnd_some]
      simp [eqI, eqB]
    · show lorryref18_Same_L1 a a (a.times.length : Int) = _
      unfold lorryref18_Same_L1
      rw [br_neg (by simp [lenI])]
  rw [l1, bnd_some, sel_inl]
/-- A run of a route. -/
noncomputable def runR (x : T_api_Instance) (r : T_api_Route) (rests : List Bool) : T_api_Sheet × Int := if possS x r = true ∧ rests.length = r.visits.length + 1 then runS x.net (typS x r) (stopsOf x r) r.start rests else (zSheet, 2)
end Go.Proofs.YtfldlilicmbmkaaGreatDoor
namespace Go.Proofs.YtfldlilicmbmkaaGreatDoor
set_option linter.unusedSimpArgs false
set_option linter.unusedVariables false
set_option linter.unusedSectionVars false
/-- Two lists compared. -/
theorem eq_loop {α : Type} [DecidableEq α] {l m : List α} (hl : l.length ≤ 1048576) (hm : l.length = m.length) {B : Int → Option (Int ⊕ (Unit ⊕ Bool))}
    (hB : ∀ (i : Nat) (x y : α), l[i]? = some x → m[i]? = some y → B i = br (decide (x = y)) (some (.inl (addK .i64 i 1))) (some (.inr (.inr false)))) (hE : B l.length = some (.inr (.inl ()))) :
    loopF B 0 = some (if l = m then .inl () else .inr false) := by
  apply post.eq
  refine post_scan l.length _ (fun i => l[i]? = m[i]?) (by omega) (fun i hi => ?_) ?_
  · have e1 : l[i]? = some l[i] := List.getElem?_eq_getElem hi
    have e2 : m[i]? = some (m[i]'(by omega)) := List.getElem?_eq_getElem _
    rw [hB i _ _ e1 e2]
    refine post_br (fun h => post_some.2 (.inl ⟨by rw [inc hi hl], by rw [e1, e2, of_decide_eq_true h]⟩)) (fun h => post_some.2 (.inr ⟨_, rfl, ?_⟩))
    rw [if_neg]
    rintro rfl
    exact of_decide_eq_false h rfl
  · rw [hE]
    refine post_some.2 ⟨_, rfl, fun h => ?_⟩
    rw [if_pos]
    apply List.ext_getElem?
    intro i
    rcases Nat.lt_or_ge i l.length with hi | hi
    · exact h i hi
    · rw [List.getElem?_eq_none hi, List.getElem?_eq_none (by omega)]
theorem time_dec (x y : T_api_Time) : (eqI x.arrive y.arrive && (eqI x.begin y.begin && (eqI x.depart y.depart && (eqB x.rest_ y.rest_ && true)))) = decide (x = y) := by
  rw [Bool.eq_iff_iff, decide_eq_true_iff]
  cases x; cases y
  simp [eqI, eqB]
theorem times_eq {a b : List T_api_Time} (h : a.length ≤ 1048576) : slices_Equal___api_Time_api_Time_ a b = some (decide (a = b)) := by
  unfold slices_Equal___api_Time_api_Time_
  by_cases hl : a.length = b.length
  · rw [br_neg (by simp only [neI_f, lenI]; omega)]
    have := eq_loop (l := a) (m := b) h hl (B := fun s => slices_Equal___api_Time_api_Time__L1 a b s) (fun i x y hx hy => by
      show slices_Equal___api_Time_api_Time__L1 a b (i : Int) = _
      unfold slices_Equal___api_Time_api_Time__L1
      have := (List.getElem?_eq_some_iff.1 hx).1
      rw [br_pos (by simp [lenI]; omega), getI_nat hx, bnd_some, getI_nat hy, bnd_some, time_dec]) (by
      show slices_Equal___api_Time_api_Time__L1 a b (a.length : Int) = _
      unfold slices_Equal___api_Time_api_Time__L1
      rw [br_neg (by simp [lenI])])
    rw [this, bnd_some]
    by_cases he : a = b
    · rw [if_pos he, sel_inl, decide_eq_true he]
    · rw [if_neg he, sel_inr, decide_eq_false he]
  · rw [br_pos (by simp only [neI_t, lenI]; omega), decide_eq_false (fun e => hl (by rw [e]))]
theorem sheet_dec {a b : T_api_Sheet} : a = b ↔ a.rest_ = b.rest_ ∧ a.depart = b.depart ∧ a.times = b.times ∧ a.end_ = b.end_ ∧ a.miles = b.miles := by
  cases a; cases b; simp
theorem dsame_eq {a b : T_api_Sheet} (h : a.times.length ≤ 1048576) : drive_same a b = some (decide (a = b)) := by
  unfold drive_same
  rw [times_eq h, bnd_some]
  by_cases hc : a.rest_ = b.rest_ ∧ a.depart = b.depart ∧ a.end_ = b.end_ ∧ a.miles = b.miles
  · rw [br_pos (by simp only [andT, eqB_t, eqI_t]; exact ⟨⟨⟨hc.1, hc.2.1⟩, hc.2.2.1⟩, hc.2.2.2⟩)]
    congr 1
    rw [Bool.eq_iff_iff, decide_eq_true_iff, decide_eq_true_iff, sheet_dec]
    exact ⟨fun h => ⟨hc.1, hc.2.1, h, hc.2.2⟩, fun h => h.2.2.1⟩
  · rw [br_neg (by
      rw [Bool.eq_false_iff]
      simp only [ne_eq, andT, eqB_t, eqI_t]
      exact fun h => hc ⟨h.1.1.1, h.1.1.2, h.1.2, h.2⟩), decide_eq_false (fun e => hc (by rw [e]; exact ⟨rfl, rfl, rfl, rfl⟩))]
theorem same18_eq {a b : T_api_Sheet} (h : a.times.length ≤ 1048576) : lorryref18_Same a b = some (decide (a = b)) := by
  by_cases he : a = b
  · rw [decide_eq_true he, ← he, same18_refl h]
  · rw [decide_eq_false he]
    unfold lorryref18_Same
    by_cases hl : a.times.length = b.times.length
    · refine (?_ : br _ _ _ = _)
      cases hb : (((((!eqB a.rest_ b.rest_) || (neI a.depart b.depart)) || (neI a.end_ b.end_)) || (neI a.miles b.miles)) || (neI (lenI a.times) (lenI b.times))) with
      | true => rfl
      | false =>
        rw [br_false]
        have := eq_loop (l := a.times) (m := b.times) h hl (B := fun s => lorryref18_Same_L1 a b s) (fun i x y hx hy => by
          show lorryref18_Same_L1 a b (i : Int) = _
          unfold lorryref18_Same_L1
          have := (List.getElem?_eq_some_iff.1 hx).1
          rw [br_pos (by simp [lenI]; omega), getI_nat hx, bnd_some, getI_nat hy, bnd_some, time_dec]) (by
          show lorryref18_Same_L1 a b (a.times.length : Int) = _
          unfold lorryref18_Same_L1
          rw [br_neg (by simp [lenI])])
        rw [this, bnd_some, if_neg, sel_inr]
        intro ht
        simp only [orF, ntF, eqB_t, neI_f] at hb
        exact he (sheet_dec.2 ⟨hb.1.1.1.1, hb.1.1.1.2, ht, hb.1.1.2, hb.1.2⟩)
    · rw [br_pos (by simp only [orT, neI_t, lenI]; right; omega)]
/-- The rests of a schedule. -/
def restsOf (s : T_api_Sheet) : List Bool := s.rest_ :: s.times.map (·.rest_)
theorem rests_loop {s0 : T_api_Sheet} (h : s0.times.length ≤ 1048576) {B : List Bool × Int → Option ((List Bool × Int) ⊕ List Bool)}
    (hB : ∀ l v, B (l, v) = br (ltI v (lenI s0.times)) (bnd (getI s0.times v) fun x0 => chk (okN (l ++ [x0.rest_]).length 1) (some (.inl ((l ++ [x0.rest_]), (addK .i64 v 1))))) (some (.inr l))) : loopF B ([s0.rest_], 0) = some (restsOf s0) := by
  have e : loopF B ((fun i : Nat => (s0.rest_ :: (s0.times.take i).map (·.rest_), (i : Int))) 0) = some (restsOf s0) := by
    refine loop_for s0.times.length (fun i : Nat => (s0.rest_ :: (s0.times.take i).map (·.rest_), (i : Int))) (by omega) (fun i hi => ?_) ?_
    · have e1 : s0.times[i]? = some s0.times[i] := List.getElem?_eq_getElem hi
      show B (_, _) = some (.inl (_, _))
      rw [hB, br_pos (by simp [lenI]; exact hi), getI_nat e1, bnd_some, chk_pos (okN_of (by simp; omega)), inc hi h, List.take_add_one, e1, List.map_append]
      simp
    · show B (_, _) = _
      rw [hB, br_neg (by simp [lenI]), List.take_length]
      rfl
  simpa using e
theorem drive_rests_eq {s : T_api_Sheet} (h : s.times.length ≤ 1048576) : drive_rests s = some (restsOf s) := by
  unfold drive_rests
  rw [rests_loop h (fun _ _ => rfl), bnd_some]
theorem ref_rests_eq {s : T_api_Sheet} (h : s.times.length ≤ 1048576) : lorryref18_Rests s = some (restsOf s) := by
  unfold lorryref18_Rests
  rw [rests_loop h (fun _ _ => rfl), bnd_some]
theorem bools_eq {a b : List Bool} (h : a.length ≤ 1048576) : slices_Equal___bool_bool_ a b = some (decide (a = b)) := by
  unfold slices_Equal___bool_bool_
  by_cases hl : a.length = b.length
  · rw [br_neg (by simp only [neI_f, lenI]; omega)]
    have := eq_loop (l := a) (m := b) h hl (B := fun s => slices_Equal___bool_bool__L1 a b s) (fun i x y hx hy => by
      show slices_Equal___bool_bool__L1 a b (i : Int) = _
      unfold slices_Equal___bool_bool__L1
      have := (List.getElem?_eq_some_iff.1 hx).1
      rw [br_pos (by simp [lenI]; omega), getI_nat hx, bnd_some, getI_nat hy, bnd_some]
      rfl) (by
      show slices_Equal___bool_bool__L1 a b (a.length : Int) = _
      unfold slices_Equal___bool_bool__L1
      rw [br_neg (by simp [lenI])])
    rw [this, bnd_some]
    by_cases he : a = b
    · rw [if_pos he, sel_inl, decide_eq_true he]
    · rw [if_neg he, sel_inr, decide_eq_false he]
  · rw [br_pos (by simp only [neI_t, lenI]; omega), decide_eq_false (fun e => hl (by rw [e]))]
/-- Is a schedule that of a route? -/
noncomputable def validS (x : T_api_Instance) (r : T_api_Route) (s : T_api_Sheet) : Int :=
  if possS x r = true ∧ r.rests.length ≤ r.visits.length + 1 ∧ s.times.length = r.visits.length then
    if (restsOf s).take r.rests.length = r.rests then
      if (runR x r (restsOf s)).2 ≠ 0 then (runR x r (restsOf s)).2 else if s = (runR x r (restsOf s)).1 then 0 else 9
    else 9
  else 2
section
variable {x : T_api_Instance} {r : T_api_Route} {s : T_api_Sheet}
theorem restsOf_len : (restsOf s).length = s.times.length + 1 := by simp [restsOf]
theorem valid_eq (hx : InstOK x) (hv : r.visits.length ≤ 1048576) (hr : r.rests.length ≤ 1048576) (hs : s.times.length ≤ 1048576) : drive_Valid x r s = some (validS x r s) := by
  unfold drive_Valid validS
  show bnd (drive_plan x r) _ = _
  have hadd : addK .i64 (lenI r.visits) 1 = (r.visits.length : Int) + 1 := by unfold lenI; exact addI (by omega) (by omega)
  rw [plan_eq, bnd_some, hadd]
  by_cases hp : possS x r = true
  · rw [if_pos hp]
    by_cases hc : r.rests.length ≤ r.visits.length + 1 ∧ s.times.length = r.visits.length
    · rw [if_pos ⟨hp, hc⟩, br_neg (by simp only [Bool.not_true, Bool.false_or, orF, gtI_f, neI_f, lenI]; omega), drive_rests_eq hs, bnd_some]
      have hsl : slcI (restsOf s) 0 (lenI r.rests) = some ((restsOf s).take r.rests.length) := by
        unfold slcI lenI
        rw [if_pos ⟨by omega, by omega, by rw [restsOf_len]; omega⟩]
        simp
      rw [hsl, bnd_some, bools_eq (by rw [List.length_take, restsOf_len]; omega), bnd_some]
      by_cases ht : (restsOf s).take r.rests.length = r.rests
      · rw [if_pos ht, decide_eq_true ht, br_true]
        have h5 := of_decide_eq_true (poss_pre hp)
        have hrun : drive_trip_run (T_drive_trip.mk x (typS x r) r (stopsOf x r)) (restsOf s) = some (runR x r (restsOf s)) := by
          have hl : (restsOf s).length = r.visits.length + 1 := by rw [restsOf_len, hc.2]
          unfold runR
          rw [if_pos ⟨hp, hl⟩]
          exact run_eq (p := T_drive_trip.mk x (typS x r) r (stopsOf x r)) (tripOK hx hp) ⟨h5.2.2.1, h5.2.2.2.1⟩ (by rw [hl]; show _ = (stopsOf x r).length + 1; rw [stops_len])
        show bnd (drive_trip_run (T_drive_trip.mk x (typS x r) r (stopsOf x r)) (restsOf s)) _ = _
        rw [hrun, bnd_some]
        by_cases h0 : (runR x r (restsOf s)).2 = 0
        · rw [br_neg (by simpa using h0), if_neg (by simpa using h0), dsame_eq hs, bnd_some]
          by_cases he : s = (runR x r (restsOf s)).1
          · rw [if_pos he, decide_eq_true he]; rfl
          · rw [if_neg he, decide_eq_false he]; rfl
        · rw [br_pos (by simpa using h0), if_pos h0]
      · rw [if_neg ht, decide_eq_false ht]; rfl
    · rw [if_neg (fun h => hc h.2), br_pos (by simp only [Bool.not_true, Bool.false_or, orT, gtI_t, neI_t, lenI]; omega)]
  · rw [if_neg hp, if_neg (fun h => hp h.1), br_pos (by simp [zTrip])]
/-- The driving times of a schedule that is valid. -/
noncomputable def sinceS (x : T_api_Instance) (r : T_api_Route) (s : T_api_Sheet) : List Int := if validS x r s = 0 then runD x.net (typS x r) (stopsOf x r) (restsOf s) 0 (begS (typS x r) r.start) else []
theorem v2 (h : ¬ (possS x r = true ∧ r.rests.length ≤ r.visits.length + 1 ∧ s.times.length = r.visits.length)) : validS x r s = 2 := if_neg h
theorem v9 (h : possS x r = true ∧ r.rests.length ≤ r.visits.length + 1 ∧ s.times.length = r.visits.length) (ht : ¬ (restsOf s).take r.rests.length = r.rests) : validS x r s = 9 := by unfold validS; rw [if_pos h, if_neg ht]
theorem vE (h : possS x r = true ∧ r.rests.length ≤ r.visits.length + 1 ∧ s.times.length = r.visits.length) (ht : (restsOf s).take r.rests.length = r.rests) (h0 : (runR x r (restsOf s)).2 ≠ 0) : validS x r s = (runR x r (restsOf s)).2 := by unfold validS; rw [if_pos h, if_pos ht, if_pos h0]
theorem vS_eq (h : possS x r = true ∧ r.rests.length ≤ r.visits.length + 1 ∧ s.times.length = r.visits.length) (ht : (restsOf s).take r.rests.length = r.rests) (h0 : (runR x r (restsOf s)).2 = 0) : validS x r s = if s = (runR x r (restsOf s)).1 then 0 else 9 := by unfold validS; rw [if_pos h, if_pos ht, if_neg (by simpa using h0)]
theorem since_no (h : validS x r s ≠ 0) : sinceS x r s = [] := if_neg h
theorem since_yes (h : validS x r s = 0) : sinceS x r s = runD x.net (typS x r) (stopsOf x r) (restsOf s) 0 (begS (typS x r) r.start) := if_pos h
theorem ref_check_eq (hx : InstOK x) (hv : r.visits.length ≤ 1048576) (hr : r.rests.length ≤ 1048576) (hs : s.times.length ≤ 1048576) : lorryref18_check x r s = some (sinceS x r s, validS x r s) := by
  unfold lorryref18_check
  show bnd (lorryref18_Possible x r) _ = _
  have hadd : addK .i64 (lenI r.visits) 1 = (r.visits.length : Int) + 1 := by unfold lenI; exact addI (by omega) (by omega)
  rw [poss_eq, bnd_some, hadd]
  by_cases hp : possS x r = true
  · rw [hp]
    by_cases hc : r.rests.length ≤ r.visits.length + 1 ∧ s.times.length = r.visits.length
    · rw [br_neg (by simp only [Bool.not_true, Bool.false_or, orF, gtI_f, neI_f, lenI]; omega), ref_rests_eq hs, bnd_some]
      have hrl := restsOf_len (s := s)
      have hloop : loopF (fun s' => lorryref18_check_L1 x r s (restsOf s) s') 0 = some (if (restsOf s).take r.rests.length = r.rests then .inl () else .inr ([], 9)) := by
        apply post.eq
        refine post_scan (B := fun s' => lorryref18_check_L1 x r s (restsOf s) s') r.rests.length _ (fun i => r.rests[i]? = (restsOf s)[i]?) (by omega) (fun i hi => ?_) ?_
        · show post (lorryref18_check_L1 x r s (restsOf s) (i : Int)) _
          unfold lorryref18_check_L1
          have e1 : r.rests[i]? = some r.rests[i] := List.getElem?_eq_getElem hi
          have e2 : (restsOf s)[i]? = some ((restsOf s)[i]'(by omega)) := List.getElem?_eq_getElem _
          rw [br_pos (by simp [lenI]; exact hi), getI_nat e1, bnd_some, getI_nat e2, bnd_some]
          refine post_br (fun h => post_some.2 (.inl ⟨by rw [inc hi (by omega)], by rw [e1, e2, eqB_t.1 h]⟩)) (fun h => post_some.2 (.inr ⟨_, rfl, ?_⟩))
          rw [if_neg (c := (restsOf s).take r.rests.length = r.rests)]
          intro ht
          have e3 : ((restsOf s).take r.rests.length)[i]? = some ((restsOf s)[i]'(by omega)) := by rw [List.getElem?_take_of_lt hi]; exact e2
          rw [ht, e1] at e3
          exact eqB_f.1 h (Option.some.inj e3)
        · show post (lorryref18_check_L1 x r s (restsOf s) (r.rests.length : Int)) _
          unfold lorryref18_check_L1
          rw [br_neg (by simp [lenI])]
          refine post_some.2 ⟨_, rfl, fun h => ?_⟩
          rw [if_pos]
          apply List.ext_getElem?
          intro i
          rcases Nat.lt_or_ge i r.rests.length with hi | hi
          · rw [List.getElem?_take_of_lt hi, h i hi]
          · rw [List.getElem?_eq_none hi, List.getElem?_eq_none (by rw [List.length_take]; omega)]
      rw [hloop, bnd_some]
      by_cases ht : (restsOf s).take r.rests.length = r.rests
      · rw [if_pos ht, sel_inl]
        show bnd (lorryref18_run x r (restsOf s)) _ = _
        have hl : (restsOf s).length = r.visits.length + 1 := by rw [hrl, hc.2]
        rw [ref_run_eq hx hv, bnd_some, if_pos ⟨hp, hl⟩]
        have hR : runR x r (restsOf s) = runS x.net (typS x r) (stopsOf x r) r.start (restsOf s) := by unfold runR; rw [if_pos ⟨hp, hl⟩]
        rw [← hR]
        by_cases h0 : (runR x r (restsOf s)).2 = 0
        · have hvs := vS_eq ⟨hp, hc⟩ ht h0
          rw [if_pos h0, br_neg (by simpa using h0), same18_eq hs, bnd_some]
          by_cases he : s = (runR x r (restsOf s)).1
          · rw [if_pos he] at hvs
            rw [decide_eq_true he, since_yes hvs, hvs]; rfl
          · rw [if_neg he] at hvs
            rw [decide_eq_false he, since_no (by rw [hvs]; decide), hvs]; rfl
        · have hvs := vE ⟨hp, hc⟩ ht h0
          rw [br_pos (by simpa using h0), since_no (by rw [hvs]; exact h0), hvs]
      · have hvs := v9 ⟨hp, hc⟩ ht
        rw [if_neg ht, sel_inr, since_no (by rw [hvs]; decide), hvs]
    · have hvs := v2 (x := x) (r := r) (s := s) (fun h => hc h.2)
      rw [br_pos (by simp only [Bool.not_true, Bool.false_or, orT, gtI_t, neI_t, lenI]; omega), since_no (by rw [hvs]; decide), hvs]
  · have hvs := v2 (x := x) (r := r) (s := s) (fun h => hp h.1)
    rw [br_pos (by simp [hp]), since_no (by rw [hvs]; decide), hvs]
end
end Go.Proofs.YtfldlilicmbmkaaGreatDoor
namespace Go.Proofs.YtfldlilicmbmkaaGreatDoor
set_option linter.unusedSimpArgs false
set_option linter.unusedVariables false
set_option linter.unusedSectionVars false
section
variable (n : T_api_Network) (t : T_api_Type) (stops : List T_api_Stop) (rests : List Bool)
/-- The time at a visit, for an arrival. -/
def lateT (i : Nat) (b : Bool) (arr : Int) : T_api_Time :=
  T_api_Time.mk arr (max arr (stopK t stops i).open_) (max arr (stopK t stops i).open_ + (stopK t stops i).service + (if b = true then t.rest_ else 0)) b
/-- The times from visit i on and the end, for an arrival there; or why there are none. -/
noncomputable def lateF : Nat → Nat → Int → Int → Int → (List T_api_Time × Int) × Int
  | 0, _, sn, dep, arr => if t.close < arr then (([], 0), 15) else if t.drive < sn + arr - dep then (([], 0), 16) else (([], arr), 0)
  | m + 1, i, sn, dep, arr =>
    if (stopK t stops i).close < arr then (([], 0), 14) else if t.drive < sn + arr - dep then (([], 0), 16) else
    if (goN n t.profile (stopK t stops i).place (stopK t stops (i + 1)).place (lateT t stops i (rests.getD (i + 1) false) arr).depart).2.2 ≠ 0 then (([], 0), (goN n t.profile (stopK t stops i).place (stopK t stops (i + 1)).place (lateT t stops i (rests.getD (i + 1) false) arr).depart).2.2) else
    if (lateF m (i + 1) (if rests.getD (i + 1) false = true then 0 else sn + arr - dep) (lateT t stops i (rests.getD (i + 1) false) arr).depart (goN n t.profile (stopK t stops i).place (stopK t stops (i + 1)).place (lateT t stops i (rests.getD (i + 1) false) arr).depart).1).2 ≠ 0 then
      (([], 0), (lateF m (i + 1) (if rests.getD (i + 1) false = true then 0 else sn + arr - dep) (lateT t stops i (rests.getD (i + 1) false) arr).depart (goN n t.profile (stopK t stops i).place (stopK t stops (i + 1)).place (lateT t stops i (rests.getD (i + 1) false) arr).depart).1).2) else
    ((lateT t stops i (rests.getD (i + 1) false) arr :: (lateF m (i + 1) (if rests.getD (i + 1) false = true then 0 else sn + arr - dep) (lateT t stops i (rests.getD (i + 1) false) arr).depart (goN n t.profile (stopK t stops i).place (stopK t stops (i + 1)).place (lateT t stops i (rests.getD (i + 1) false) arr).depart).1).1.1,
      (lateF m (i + 1) (if rests.getD (i + 1) false = true then 0 else sn + arr - dep) (lateT t stops i (rests.getD (i + 1) false) arr).depart (goN n t.profile (stopK t stops i).place (stopK t stops (i + 1)).place (lateT t stops i (rests.getD (i + 1) false) arr).depart).1).1.2), 0)
end
/-- A schedule of times and an end. -/
def lateR (s : T_api_Sheet) (pre : List T_api_Time) (q : (List T_api_Time × Int) × Int) : T_api_Sheet × Int :=
  if q.2 ≠ 0 then (zSheet, q.2) else (T_api_Sheet.mk s.rest_ s.depart (pre ++ q.1.1) q.1.2 s.miles, 0)
/-- What is known of a schedule that is valid. -/
structure Sl (x : T_api_Instance) (r : T_api_Route) (s : T_api_Sheet) : Prop where
  inst : InstOK x
  poss : possS x r = true
  len : s.times.length = r.visits.length
  ok : Okay x.net (typS x r) (stopsOf x r) r.start (restsOf s)
  dep : s.depart = depK x.net (typS x r) (stopsOf x r) r.start (restsOf s) 0
  tim : ∀ i, i < r.visits.length → s.times[i]? = some (T_api_Time.mk (goK x.net (typS x r) (stopsOf x r) r.start (restsOf s) i).1 (max (goK x.net (typS x r) (stopsOf x r) r.start (restsOf s) i).1 (stopK (typS x r) (stopsOf x r) i).open_)
    (depK x.net (typS x r) (stopsOf x r) r.start (restsOf s) (i + 1)) ((restsOf s).getD (i + 1) false))
  fin : s.end_ = (goK x.net (typS x r) (stopsOf x r) r.start (restsOf s) r.visits.length).1
section
variable {x : T_api_Instance} {r : T_api_Route} {s : T_api_Sheet}
theorem sl_of (hx : InstOK x) (h : validS x r s = 0) : Sl x r s := by
  have hc : possS x r = true ∧ r.rests.length ≤ r.visits.length + 1 ∧ s.times.length = r.visits.length := Classical.byContradiction fun hh => by have := v2 hh; omega
  have ht : (restsOf s).take r.rests.length = r.rests := Classical.byContradiction fun hh => by have := v9 hc hh; omega
  have h0 : (runR x r (restsOf s)).2 = 0 := Classical.byContradiction fun hh => by have := vE hc ht hh; omega
  have hs := vS_eq hc ht h0
  have he : s = (runR x r (restsOf s)).1 := Classical.byContradiction fun hh => by rw [if_neg hh] at hs; omega
  have hl : (restsOf s).length = r.visits.length + 1 := by rw [restsOf_len, hc.2.2]
  have hR : runR x r (restsOf s) = runS x.net (typS x r) (stopsOf x r) r.start (restsOf s) := by unfold runR; rw [if_pos ⟨hc.1, hl⟩]
  rw [hR] at h0 he
  have h5 := of_decide_eq_true (poss_pre hc.1)
  have hsl := stops_len (x := x) (r := r)
  obtain ⟨o1, o2⟩ := okay_of (tripOK hx hc.1) ⟨h5.2.2.1, h5.2.2.2.1⟩ (by rw [hl, hsl]) h0
  rw [o2] at he
  obtain ⟨f1, f2, f3⟩ := Okay.final o1
  have hh := Okay.headr o1 (k := (stopsOf x r).length) (Nat.le_refl _)
  rw [show (stopsOf x r).length + 1 = (restsOf s).length by rw [hl, hsl]] at hh
  refine ⟨hx, hc.1, hc.2.2, o1, ?_, fun i hi => ?_, ?_⟩
  · have := hh.2; rw [← he] at this; exact this
  · have := f2 i (by rw [hsl]; exact hi); rw [← he] at this; exact this
  · rw [← he, hsl] at f3; exact f3
namespace Sl
variable (h : Sl x r s)
include h
theorem few : r.visits.length ≤ 20 := (of_decide_eq_true (poss_pre h.poss)).2.2.2.2
theorem typ : getI x.types r.type_ = some (typS x r) := (typ_get (poss_pre h.poss)).1
theorem trip : TripOK x.net (typS x r) (stopsOf x r) := h.ok.trip
theorem rlen : (restsOf s).length = r.visits.length + 1 := by rw [restsOf_len, h.len]
theorem num {k : Nat} (hk : k ≤ r.visits.length) : 0 ≤ sinS (labK x.net (typS x r) (stopsOf x r) r.start (restsOf s) k) ((restsOf s).getD k false) ∧ sinS (labK x.net (typS x r) (stopsOf x r) r.start (restsOf s) k) ((restsOf s).getD k false) ≤ 4096 ∧
    0 ≤ depK x.net (typS x r) (stopsOf x r) r.start (restsOf s) k ∧ depK x.net (typS x r) (stopsOf x r) r.start (restsOf s) k ≤ 20000 ∧
    depK x.net (typS x r) (stopsOf x r) r.start (restsOf s) k ≤ (goK x.net (typS x r) (stopsOf x r) r.start (restsOf s) k).1 ∧ (goK x.net (typS x r) (stopsOf x r) r.start (restsOf s) k).1 ≤ (stopK (typS x r) (stopsOf x r) k).close ∧
    (stopK (typS x r) (stopsOf x r) k).close ≤ 4096 := by
  have hk' : k ≤ (stopsOf x r).length := by rw [stops_len]; exact hk
  have hL := Okay.lab h.ok k hk'
  have hd := Okay.dep h.ok hk'
  have hg := Okay.go h.ok hk'
  have hst := Okay.step h.ok hk'
  have hr := h.trip.rest
  refine ⟨?_, ?_, hd.1, ?_, hg, hst.2.1, (h.trip.stopK k).close⟩
  · unfold sinS; split; omega; exact hL.since0
  · unfold sinS; split; omega; exact hL.since1
  · have := hL.ready1; unfold depK depS; split <;> omega
/-- The stop of a visit, in the program. -/
theorem stop_w {w : T_slack_walker} (h1 : w.x = x) (h2 : w.r = r) {i : Nat} (hi : i < r.visits.length) : slack_walker_stop w (i : Int) = some (stopK (typS x r) (stopsOf x r) i) := by
  obtain ⟨v, g1, g2⟩ := stops_at h.poss (stopK_lt (t := typS x r) (by rw [stops_len]; exact hi))
  unfold slack_walker_stop
  rw [h1, h2, getI_nat g1, bnd_some, order_Stop_eq, bnd_some, g2]
theorem place_w {w : T_slack_walker} (h1 : w.x = x) (h2 : w.r = r) (h3 : w.kind = typS x r) {i : Nat} (hi : i ≤ r.visits.length) : slack_walker_place w (i : Int) = some (stopK (typS x r) (stopsOf x r) i).place := by
  unfold slack_walker_place
  rw [br_neg (by simp), h2]
  by_cases hl : i = r.visits.length
  · rw [br_pos (by simp [lenI, hl]), h3, stopK_end (by rw [stops_len]; omega)]; rfl
  · rw [br_neg (by simp [lenI]; omega), h.stop_w h1 h2 (by omega), bnd_some]
theorem ahead {at_ : Nat} (ha : at_ ≤ r.visits.length) : slack_walker_ahead (T_slack_walker.mk x r s (typS x r) 0 0) (at_ : Int) =
    some (T_slack_walker.mk x r s (typS x r) (sinS (labK x.net (typS x r) (stopsOf x r) r.start (restsOf s) at_) ((restsOf s).getD at_ false)) (depK x.net (typS x r) (stopsOf x r) r.start (restsOf s) at_)) := by
  have hfew := h.few
  unfold slack_walker_ahead
  have key : loopF (fun s' => slack_walker_ahead_L1 (T_slack_walker.mk x r s (typS x r) 0 0) (at_ : Int) s'.1 s'.2.1 s'.2.2.1 s'.2.2.2)
      ((fun k : Nat => (s.depart, sinS (labK x.net (typS x r) (stopsOf x r) r.start (restsOf s) k) ((restsOf s).getD k false), depK x.net (typS x r) (stopsOf x r) r.start (restsOf s) k, (k : Int))) 0) =
      some (s.depart, sinS (labK x.net (typS x r) (stopsOf x r) r.start (restsOf s) at_) ((restsOf s).getD at_ false), depK x.net (typS x r) (stopsOf x r) r.start (restsOf s) at_) := by
    refine loop_for at_ (fun k : Nat => (s.depart, sinS (labK x.net (typS x r) (stopsOf x r) r.start (restsOf s) k) ((restsOf s).getD k false), depK x.net (typS x r) (stopsOf x r) r.start (restsOf s) k, (k : Int))) (by omega) (fun k hk => ?_) ?_
    · show slack_walker_ahead_L1 (T_slack_walker.mk x r s (typS x r) 0 0) (at_ : Int) s.depart _ _ (k : Int) = _
      unfold slack_walker_ahead_L1
      have hn := h.num (k := k) (by omega)
      have hs1 := Okay.since h.ok (k := k) (by rw [stops_len]; omega)
      rw [br_pos (by simp; omega)]
      show bnd (getI s.times (k : Int)) _ = _
      rw [getI_nat (h.tim k (by omega)), bnd_some]
      have hrest : slack_walker_rests (T_slack_walker.mk x r (T_api_Sheet.mk s.rest_ s.depart s.times s.end_ s.miles) (typS x r) (addK .i64 (sinS (labK x.net (typS x r) (stopsOf x r) r.start (restsOf s) k) ((restsOf s).getD k false)) (subK .i64 (goK x.net (typS x r) (stopsOf x r) r.start (restsOf s) k).1 (depK x.net (typS x r) (stopsOf x r) r.start (restsOf s) k))) (depK x.net (typS x r) (stopsOf x r) r.start (restsOf s) (k + 1))) (k : Int) = some ((restsOf s).getD (k + 1) false) := by
        unfold slack_walker_rests
        rw [br_neg (by simp)]
        show bnd (getI s.times (k : Int)) _ = _
        rw [getI_nat (h.tim k (by omega)), bnd_some]
      show bnd (slack_walker_rests (T_slack_walker.mk x r (T_api_Sheet.mk s.rest_ s.depart s.times s.end_ s.miles) (typS x r) (addK .i64 (sinS (labK x.net (typS x r) (stopsOf x r) r.start (restsOf s) k) ((restsOf s).getD k false)) (subK .i64 (goK x.net (typS x r) (stopsOf x r) r.start (restsOf s) k).1 (depK x.net (typS x r) (stopsOf x r) r.start (restsOf s) k))) (depK x.net (typS x r) (stopsOf x r) r.start (restsOf s) (k + 1))) (k : Int)) _ = _
      rw [hrest, bnd_some, inc (n := at_) hk (by omega)]
      have hsin : sinS (labK x.net (typS x r) (stopsOf x r) r.start (restsOf s) (k + 1)) ((restsOf s).getD (k + 1) false) = if (restsOf s).getD (k + 1) false = true then 0 else sinS (labK x.net (typS x r) (stopsOf x r) r.start (restsOf s) k) ((restsOf s).getD k false) + (goK x.net (typS x r) (stopsOf x r) r.start (restsOf s) k).1 - depK x.net (typS x r) (stopsOf x r) r.start (restsOf s) k := by
        rw [← hs1]; rfl
      show br _ (some (Sum.inl (s.depart, (0 : Int), depK x.net (typS x r) (stopsOf x r) r.start (restsOf s) (k + 1), (k : Int) + 1))) _ = some (Sum.inl (s.depart, sinS (labK x.net (typS x r) (stopsOf x r) r.start (restsOf s) (k + 1)) ((restsOf s).getD (k + 1) false), _, _))
      rw [hsin]
      cases hb : (restsOf s).getD (k + 1) false with
      | true => rw [br_true, if_pos rfl]; rfl
      | false =>
        rw [br_false, if_neg (by decide)]
        have hdr : addK .i64 (sinS (labK x.net (typS x r) (stopsOf x r) r.start (restsOf s) k) ((restsOf s).getD k false)) (subK .i64 (goK x.net (typS x r) (stopsOf x r) r.start (restsOf s) k).1 (depK x.net (typS x r) (stopsOf x r) r.start (restsOf s) k)) =
            sinS (labK x.net (typS x r) (stopsOf x r) r.start (restsOf s) k) ((restsOf s).getD k false) + (goK x.net (typS x r) (stopsOf x r) r.start (restsOf s) k).1 - depK x.net (typS x r) (stopsOf x r) r.start (restsOf s) k := by
          rw [subI (by omega) (by omega), addI (by omega) (by omega)]; omega
        exact congrArg (fun z : Int => (some (Sum.inl (s.depart, z, depK x.net (typS x r) (stopsOf x r) r.start (restsOf s) (k + 1), (k : Int) + 1)) : Option ((Int × Int × Int × Int) ⊕ (Int × Int × Int)))) hdr
    · show slack_walker_ahead_L1 (T_slack_walker.mk x r s (typS x r) 0 0) (at_ : Int) s.depart _ _ (at_ : Int) = _
      unfold slack_walker_ahead_L1
      rw [br_neg (by simp)]
  have e0 : (s.depart, (0 : Int), s.depart, (0 : Int)) = (fun k : Nat => (s.depart, sinS (labK x.net (typS x r) (stopsOf x r) r.start (restsOf s) k) ((restsOf s).getD k false), depK x.net (typS x r) (stopsOf x r) r.start (restsOf s) k, (k : Int))) 0 := by
    show _ = (s.depart, sinS (begS (typS x r) r.start) _, depK x.net (typS x r) (stopsOf x r) r.start (restsOf s) 0, ((0 : Nat) : Int))
    rw [← h.dep]
    have : sinS (begS (typS x r) r.start) ((restsOf s).getD 0 false) = 0 := by unfold sinS; split <;> rfl
    rw [this]; rfl
  show bnd (loopF (fun s' => slack_walker_ahead_L1 (T_slack_walker.mk x r s (typS x r) 0 0) (at_ : Int) s'.1 s'.2.1 s'.2.2.1 s'.2.2.2) (s.depart, (0 : Int), s.depart, (0 : Int))) _ = _
  rw [e0, key, bnd_some]
/-- An arrival at a visit, in the program. -/
theorem arrive {i : Nat} (hi : i < r.visits.length) {sn dep arr en : Int} {ts : List T_api_Time} (hl : ts.length ≤ 100) (h1 : 0 ≤ sn ∧ sn ≤ 4096) (h2 : 0 ≤ dep ∧ dep ≤ 20000) (h3 : 0 ≤ arr ∧ arr ≤ 200000) :
    post (slack_walker_arrive (T_slack_walker.mk x r s (typS x r) sn dep) (T_api_Sheet.mk s.rest_ s.depart ts en s.miles) (i : Int) arr) fun q =>
      if (stopK (typS x r) (stopsOf x r) i).close < arr then q.1 = 14 else if (typS x r).drive < sn + arr - dep then q.1 = 16 else
      q = (0, T_slack_walker.mk x r s (typS x r) (if (restsOf s).getD (i + 1) false = true then 0 else sn + arr - dep) (lateT (typS x r) (stopsOf x r) i ((restsOf s).getD (i + 1) false) arr).depart,
        T_api_Sheet.mk s.rest_ s.depart (ts ++ [lateT (typS x r) (stopsOf x r) i ((restsOf s).getD (i + 1) false) arr]) en s.miles) := by
  have hS := h.trip.stopK i
  have := hS.open0; have := hS.open1; have := hS.close; have := hS.serv0; have := hS.serv1
  have hrt := h.trip.rest
  unfold slack_walker_arrive
  rw [br_neg (by simp [lenI]; omega)]
  show post (bnd (slack_walker_stop _ (i : Int)) _) _
  rw [h.stop_w rfl rfl hi, bnd_some]
  have hdr : addK .i64 sn (subK .i64 arr dep) = sn + arr - dep := by rw [subI (by omega) (by omega), addI (by omega) (by omega)]; omega
  have hb : window_Begin (stopK (typS x r) (stopsOf x r) i) arr = some (if (stopK (typS x r) (stopsOf x r) i).close < arr then (0, 14) else (max arr (stopK (typS x r) (stopsOf x r) i).open_, 0)) := by
    unfold window_Begin
    rw [maxI_eq]
    by_cases hc : (stopK (typS x r) (stopsOf x r) i).close < arr
    · rw [br_pos (by simp; omega), if_pos hc]
    · rw [br_neg (by simp; omega), if_neg hc]
  rw [hb, bnd_some]
  by_cases hc : (stopK (typS x r) (stopsOf x r) i).close < arr
  · simp only [if_pos hc]
    rw [br_pos (by decide)]; exact post_some.2 rfl
  · simp only [if_neg hc]
    rw [br_neg (by simp [neI])]
    show post (br (gtI (addK .i64 sn (subK .i64 arr dep)) (typS x r).drive) _ _) _
    rw [hdr]
    by_cases hd : (typS x r).drive < sn + arr - dep
    · simp only [if_pos hd]
      rw [br_pos (by simpa using hd)]; exact post_some.2 rfl
    · simp only [if_neg hd]
      rw [br_neg (by simpa using hd)]
      rw [bnd_some]
      have hrest : slack_walker_rests (T_slack_walker.mk x r s (typS x r) (sn + arr - dep) dep) (i : Int) = some ((restsOf s).getD (i + 1) false) := by
        unfold slack_walker_rests
        rw [br_neg (by simp)]
        show bnd (getI s.times (i : Int)) _ = _
        rw [getI_nat (h.tim i (by omega)), bnd_some]
      show post (bnd (slack_walker_rests (T_slack_walker.mk x r s (typS x r) (sn + arr - dep) dep) (i : Int)) _) _
      rw [hrest, bnd_some]
      unfold slack_walker_arrive_J1
      unfold lateT
      simp only
      have ha : addK .i64 (max arr (stopK (typS x r) (stopsOf x r) i).open_) (stopK (typS x r) (stopsOf x r) i).service = max arr (stopK (typS x r) (stopsOf x r) i).open_ + (stopK (typS x r) (stopsOf x r) i).service := addI (by omega) (by omega)
      rw [ha, addI (by omega) (by omega)]
      cases hbb : (restsOf s).getD (i + 1) false with
      | true => rw [br_true, chk_pos (okN_of (by simp; omega))]; exact post_some.2 (by simp)
      | false => rw [br_false, chk_pos (okN_of (by simp; omega))]; exact post_some.2 (by simp)
theorem arrive_end {sn dep arr en : Int} {ts : List T_api_Time} (h1 : 0 ≤ sn ∧ sn ≤ 4096) (h2 : 0 ≤ dep ∧ dep ≤ 20000) (h3 : 0 ≤ arr ∧ arr ≤ 200000) :
    post (slack_walker_arrive (T_slack_walker.mk x r s (typS x r) sn dep) (T_api_Sheet.mk s.rest_ s.depart ts en s.miles) (r.visits.length : Int) arr) fun q =>
      if (typS x r).close < arr then q.1 = 15 else if (typS x r).drive < sn + arr - dep then q.1 = 16 else q.1 = 0 ∧ q.2.2 = T_api_Sheet.mk s.rest_ s.depart ts arr s.miles := by
  unfold slack_walker_arrive
  have hdr : addK .i64 sn (subK .i64 arr dep) = sn + arr - dep := by rw [subI (by omega) (by omega), addI (by omega) (by omega)]; omega
  rw [br_pos (by simp [lenI])]
  simp only [hdr]
  by_cases hc : (typS x r).close < arr
  · simp only [if_pos hc]
    rw [br_pos (by simpa using hc)]; exact post_some.2 rfl
  · simp only [if_neg hc]
    rw [br_neg (by simpa using hc)]
    by_cases hd : (typS x r).drive < sn + arr - dep
    · simp only [if_pos hd]
      rw [br_pos (by simpa using hd)]; exact post_some.2 rfl
    · simp only [if_neg hd]
      rw [br_neg (by simpa using hd)]; exact post_some.2 ⟨rfl, rfl⟩
end Sl
end
end Go.Proofs.YtfldlilicmbmkaaGreatDoor
namespace Go.Proofs.YtfldlilicmbmkaaGreatDoor
set_option linter.unusedSimpArgs false
set_option linter.unusedVariables false
set_option linter.unusedSectionVars false
theorem lateR_cons {s : T_api_Sheet} {ts : List T_api_Time} {T : T_api_Time} {q : (List T_api_Time × Int) × Int} :
    lateR s ts (if q.2 ≠ 0 then (([], 0), q.2) else ((T :: q.1.1, q.1.2), 0)) = lateR s (ts ++ [T]) q := by
  unfold lateR
  by_cases h : q.2 = 0
  · rw [if_neg (c := q.2 ≠ 0) (by simpa using h), if_neg (by simp), if_neg (c := q.2 ≠ 0) (by simpa using h)]; simp
  · rw [if_pos (c := q.2 ≠ 0) h, if_pos h, if_pos (c := q.2 ≠ 0) h]
theorem lateR_no {s : T_api_Sheet} {ts : List T_api_Time} {e : Int} (h : e ≠ 0) : lateR s ts (([], 0), e) = (zSheet, e) := if_pos h
theorem lateR_yes {s : T_api_Sheet} {ts more : List T_api_Time} {en : Int} : lateR s ts ((more, en), 0) = (T_api_Sheet.mk s.rest_ s.depart (ts ++ more) en s.miles, 0) := if_neg (by simp)
theorem lateR_2 {s : T_api_Sheet} {ts : List T_api_Time} {q : (List T_api_Time × Int) × Int} : (lateR s ts q).2 = q.2 := by
  unfold lateR
  by_cases h : q.2 = 0
  · rw [if_neg (by simpa using h)]; exact h.symm
  · rw [if_pos h]
section
variable {x : T_api_Instance} {r : T_api_Route} {s : T_api_Sheet}
/-- The times and the end for a delay at a visit. -/
noncomputable def lateQ (x : T_api_Instance) (r : T_api_Route) (s : T_api_Sheet) (at_ : Nat) (ticks : Int) : (List T_api_Time × Int) × Int :=
  lateF x.net (typS x r) (stopsOf x r) (restsOf s) (r.visits.length - at_) at_ (sinS (labK x.net (typS x r) (stopsOf x r) r.start (restsOf s) at_) ((restsOf s).getD at_ false)) (depK x.net (typS x r) (stopsOf x r) r.start (restsOf s) at_)
    ((goK x.net (typS x r) (stopsOf x r) r.start (restsOf s) at_).1 + ticks)
noncomputable def lateS (x : T_api_Instance) (r : T_api_Route) (s : T_api_Sheet) (at_ : Nat) (ticks : Int) : T_api_Sheet × Int := lateR s (s.times.take at_) (lateQ x r s at_ ticks)
namespace Sl
variable (h : Sl x r s)
include h
theorem dep_num {i : Nat} {b : Bool} {arr : Int} (ha : 0 ≤ arr) (hc : arr ≤ (stopK (typS x r) (stopsOf x r) i).close) : 0 ≤ (lateT (typS x r) (stopsOf x r) i b arr).depart ∧ (lateT (typS x r) (stopsOf x r) i b arr).depart ≤ 20000 := by
  have hS := h.trip.stopK i
  have := hS.open0; have := hS.open1; have := hS.close; have := hS.serv0; have := hS.serv1
  have hrt := h.trip.rest
  unfold lateT
  simp only
  split <;> omega
theorem late_J1 {at_ : Nat} (ha : at_ ≤ r.visits.length) {sn dep arr : Int} {pre : List T_api_Time} (hpre : pre.length = at_) (h1 : 0 ≤ sn ∧ sn ≤ 4096) (h2 : 0 ≤ dep ∧ dep ≤ 20000) (h3 : dep ≤ arr ∧ arr ≤ 200000) :
    slack_late_J1 x r s (at_ : Int) (T_slack_walker.mk x r s (typS x r) sn dep) pre arr = some (lateR s pre (lateF x.net (typS x r) (stopsOf x r) (restsOf s) (r.visits.length - at_) at_ sn dep arr)) := by
  have hfew := h.few
  have hT := h.trip
  apply post.eq
  unfold slack_late_J1
  refine post_bnd (R := fun e => e = lateR s pre (lateF x.net (typS x r) (stopsOf x r) (restsOf s) (r.visits.length - at_) at_ sn dep arr)) ?_ fun e he => post_some.2 he
  refine post_loop (fun st => ∃ (k m : Nat) (ts : List T_api_Time) (sn' dep' arr' : Int), k + m = r.visits.length ∧ ts.length = k ∧ st = (ts, x, r, T_slack_walker.mk x r s (typS x r) sn' dep', s.rest_, s.depart, 0, s.miles, arr', (k : Int)) ∧
      (0 ≤ sn' ∧ sn' ≤ 4096) ∧ (0 ≤ dep' ∧ dep' ≤ 20000) ∧ (dep' ≤ arr' ∧ arr' ≤ 200000) ∧
      lateR s ts (lateF x.net (typS x r) (stopsOf x r) (restsOf s) m k sn' dep' arr') = lateR s pre (lateF x.net (typS x r) (stopsOf x r) (restsOf s) (r.visits.length - at_) at_ sn dep arr))
    (fun st => r.visits.length - st.2.2.2.2.2.2.2.2.2.toNat)
    ⟨at_, r.visits.length - at_, pre, sn, dep, arr, by omega, hpre, rfl, h1, h2, h3, rfl⟩ (by simp; omega) ?_
  rintro _ ⟨k, m, ts, sn', dep', arr', hk, hts, rfl, b1, b2, b3, hR⟩
  show post (slack_late_L1 pre ts x r (T_slack_walker.mk x r s (typS x r) sn' dep') s.rest_ s.depart 0 s.miles arr' (k : Int)) _
  unfold slack_late_L1
  cases m with
  | zero =>
    obtain rfl : k = r.visits.length := by omega
    rw [lateF] at hR
    refine post_bnd (h.arrive_end b1 b2 ⟨by omega, b3.2⟩) fun q hq => ?_
    by_cases c1 : (typS x r).close < arr'
    · simp only [if_pos c1] at hq
      rw [if_pos c1, lateR_no (by decide)] at hR
      rw [br_pos (by rw [hq]; decide), hq]
      exact post_inr hR
    · simp only [if_neg c1] at hq
      rw [if_neg c1] at hR
      by_cases c2 : (typS x r).drive < sn' + arr' - dep'
      · simp only [if_pos c2] at hq
        rw [if_pos c2, lateR_no (by decide)] at hR
        rw [br_pos (by rw [hq]; decide), hq]
        exact post_inr hR
      · simp only [if_neg c2] at hq
        rw [if_neg c2, lateR_yes, List.append_nil] at hR
        rw [br_neg (by rw [hq.1]; decide), br_pos (by simp [lenI]), hq.2]
        exact post_inr hR
  | succ m =>
    have hkn : k < r.visits.length := by omega
    have hS := hT.stopK k
    rw [lateF] at hR
    refine post_bnd (h.arrive hkn (by omega) b1 b2 ⟨by omega, b3.2⟩) fun q hq => ?_
    by_cases c1 : (stopK (typS x r) (stopsOf x r) k).close < arr'
    · simp only [if_pos c1] at hq
      rw [if_pos c1, lateR_no (by decide)] at hR
      rw [br_pos (by rw [hq]; decide), hq]
      exact post_inr hR
    · simp only [if_neg c1] at hq
      rw [if_neg c1] at hR
      by_cases c2 : (typS x r).drive < sn' + arr' - dep'
      · simp only [if_pos c2] at hq
        rw [if_pos c2, lateR_no (by decide)] at hR
        rw [br_pos (by rw [hq]; decide), hq]
        exact post_inr hR
      · simp only [if_neg c2] at hq
        rw [if_neg c2] at hR
        subst hq
        have hd := h.dep_num (i := k) (b := (restsOf s).getD (k + 1) false) (arr := arr') (by omega) (by omega)
        rw [br_neg (by simp), br_neg (by simp [lenI]; omega)]
        show post (bnd (slack_walker_place (T_slack_walker.mk x r s (typS x r) _ (lateT (typS x r) (stopsOf x r) k ((restsOf s).getD (k + 1) false) arr').depart) (k : Int)) _) _
        rw [h.place_w rfl rfl rfl (by omega), bnd_some, inc hkn (by omega)]
        show post (bnd (slack_walker_place (T_slack_walker.mk x r s (typS x r) _ (lateT (typS x r) (stopsOf x r) k ((restsOf s).getD (k + 1) false) arr').depart) ((k + 1 : Nat) : Int)) _) _
        rw [h.place_w rfl rfl rfl (by omega), bnd_some]
        show post (bnd (network_Go x.net (typS x r).profile (stopK (typS x r) (stopsOf x r) k).place (stopK (typS x r) (stopsOf x r) (k + 1)).place (lateT (typS x r) (stopsOf x r) k ((restsOf s).getD (k + 1) false) arr').depart) _) _
        have hin : inT (lateT (typS x r) (stopsOf x r) k ((restsOf s).getD (k + 1) false) arr').depart := ⟨hd.1, by omega⟩
        rw [go_eq hT.net _ _ _ hin, bnd_some]
        generalize hg : goN x.net (typS x r).profile (stopK (typS x r) (stopsOf x r) k).place (stopK (typS x r) (stopsOf x r) (k + 1)).place (lateT (typS x r) (stopsOf x r) k ((restsOf s).getD (k + 1) false) arr').depart = g at *
        by_cases c3 : g.2.2 = 0
        · rw [if_neg (c := g.2.2 ≠ 0) (by simpa using c3), lateR_cons] at hR
          have hb := goN_bd hT.net hin (by rw [hg]; exact c3)
          rw [hg] at hb
          rw [br_neg (by simpa using c3)]
          have hdr := hT.drive
          refine post_inl ⟨⟨k + 1, m, ts ++ [lateT (typS x r) (stopsOf x r) k ((restsOf s).getD (k + 1) false) arr'], _, _, g.1, by omega, by simp [hts], rfl, ?_, hd, ⟨hb.1, by omega⟩, hR⟩, by simp; omega⟩
          split <;> omega
        · rw [if_pos (c := g.2.2 ≠ 0) c3, lateR_no c3] at hR
          rw [br_pos (by simpa using c3)]
          exact post_inr hR
theorem late_eq {at_ : Nat} (ha : at_ ≤ r.visits.length) {ticks : Int} (ht : 0 ≤ ticks ∧ ticks ≤ 100000) : slack_late x r s (at_ : Int) ticks = some (lateS x r s at_ ticks) := by
  have hfew := h.few
  have hn := h.num ha
  unfold slack_late
  rw [h.typ, bnd_some, h.ahead ha, bnd_some]
  have hsl : slcI s.times 0 (at_ : Int) = some (s.times.take at_) := by
    unfold slcI
    rw [if_pos ⟨by omega, by omega, by rw [h.len]; omega⟩]
    simp
  rw [hsl, bnd_some, chk_pos (okN_of (by rw [List.length_take]; omega))]
  have key := h.late_J1 ha (pre := s.times.take at_) (by rw [List.length_take, h.len]; omega) (sn := sinS (labK x.net (typS x r) (stopsOf x r) r.start (restsOf s) at_) ((restsOf s).getD at_ false)) (dep := depK x.net (typS x r) (stopsOf x r) r.start (restsOf s) at_)
    (arr := (goK x.net (typS x r) (stopsOf x r) r.start (restsOf s) at_).1 + ticks) (by omega) (by omega) (by omega)
  by_cases hl : at_ < r.visits.length
  · rw [br_pos (by simp [lenI]; omega), getI_nat (h.tim at_ hl), bnd_some]
    show slack_late_J1 x r s (at_ : Int) _ _ (addK .i64 (goK x.net (typS x r) (stopsOf x r) r.start (restsOf s) at_).1 ticks) = _
    rw [addI (by omega) (by omega)]; exact key
  · obtain rfl : at_ = r.visits.length := by omega
    rw [br_neg (by simp [lenI]), h.fin, addI (by omega) (by omega)]; exact key
/-- A delay of nothing leaves the schedule as it is. -/
theorem late0 : ∀ (m k : Nat), k + m = r.visits.length → lateF x.net (typS x r) (stopsOf x r) (restsOf s) m k (sinS (labK x.net (typS x r) (stopsOf x r) r.start (restsOf s) k) ((restsOf s).getD k false)) (depK x.net (typS x r) (stopsOf x r) r.start (restsOf s) k) (goK x.net (typS x r) (stopsOf x r) r.start (restsOf s) k).1 =
    ((s.times.drop k, s.end_), 0)
  | m, k, hk => by
    have hkl : k ≤ (stopsOf x r).length := by rw [stops_len]; omega
    have hall := h.ok.all k (by rw [h.rlen]; omega)
    obtain ⟨g0, g1, g2, g3⟩ := nxt_ok h.trip (Okay.lab h.ok k hkl) hall
    have g1' : ¬ (stopK (typS x r) (stopsOf x r) k).close < (goK x.net (typS x r) (stopsOf x r) r.start (restsOf s) k).1 := by
      show ¬ _ < (goN x.net (typS x r).profile (fromP (typS x r) (stopsOf x r) k) (stopK (typS x r) (stopsOf x r) k).place (depS (typS x r) (labK x.net (typS x r) (stopsOf x r) r.start (restsOf s) k) ((restsOf s).getD k false))).1
      omega
    have g2' : ¬ (typS x r).drive < sinS (labK x.net (typS x r) (stopsOf x r) r.start (restsOf s) k) ((restsOf s).getD k false) + (goK x.net (typS x r) (stopsOf x r) r.start (restsOf s) k).1 - depK x.net (typS x r) (stopsOf x r) r.start (restsOf s) k := by
      show ¬ _ < _ + (goN x.net (typS x r).profile (fromP (typS x r) (stopsOf x r) k) (stopK (typS x r) (stopsOf x r) k).place (depS (typS x r) (labK x.net (typS x r) (stopsOf x r) r.start (restsOf s) k) ((restsOf s).getD k false))).1 - depS (typS x r) (labK x.net (typS x r) (stopsOf x r) r.start (restsOf s) k) ((restsOf s).getD k false)
      omega
    cases m with
    | zero =>
      have hkn : k = r.visits.length := by omega
      rw [lateF]
      rw [stopK_end (by rw [stops_len]; omega)] at g1'
      have g1'' : ¬ (typS x r).close < (goK x.net (typS x r) (stopsOf x r) r.start (restsOf s) k).1 := g1'
      rw [if_neg g1'', if_neg g2', List.drop_eq_nil_of_le (by rw [h.len]; omega), h.fin, hkn]
    | succ m =>
      have hkn : k < r.visits.length := by omega
      have hst := Okay.step h.ok (k := k) hkl
      have hst1 := Okay.step h.ok (k := k + 1) (by rw [stops_len]; omega)
      have hsn := Okay.since h.ok (k := k) hkl
      have hrd := Okay.ready h.ok (k := k) hkl
      have hT : lateT (typS x r) (stopsOf x r) k ((restsOf s).getD (k + 1) false) (goK x.net (typS x r) (stopsOf x r) r.start (restsOf s) k).1 =
          T_api_Time.mk (goK x.net (typS x r) (stopsOf x r) r.start (restsOf s) k).1 (max (goK x.net (typS x r) (stopsOf x r) r.start (restsOf s) k).1 (stopK (typS x r) (stopsOf x r) k).open_) (depK x.net (typS x r) (stopsOf x r) r.start (restsOf s) (k + 1)) ((restsOf s).getD (k + 1) false) := by
        unfold lateT depK depS
        rw [hrd]
      have hf : (stopK (typS x r) (stopsOf x r) k).place = fromP (typS x r) (stopsOf x r) (k + 1) := by
        show ((stopsOf x r).getD k (endS (typS x r))).place = ((stopsOf x r).getD k zStop).place
        rw [List.getD_eq_getElem?_getD, List.getD_eq_getElem?_getD, List.getElem?_eq_getElem (show k < (stopsOf x r).length by rw [stops_len]; exact hkn)]; rfl
      have hgo : goN x.net (typS x r).profile (stopK (typS x r) (stopsOf x r) k).place (stopK (typS x r) (stopsOf x r) (k + 1)).place (depK x.net (typS x r) (stopsOf x r) r.start (restsOf s) (k + 1)) = goK x.net (typS x r) (stopsOf x r) r.start (restsOf s) (k + 1) := by
        rw [hf]; rfl
      have hsin : (if (restsOf s).getD (k + 1) false = true then 0 else sinS (labK x.net (typS x r) (stopsOf x r) r.start (restsOf s) k) ((restsOf s).getD k false) + (goK x.net (typS x r) (stopsOf x r) r.start (restsOf s) k).1 - depK x.net (typS x r) (stopsOf x r) r.start (restsOf s) k) =
          sinS (labK x.net (typS x r) (stopsOf x r) r.start (restsOf s) (k + 1)) ((restsOf s).getD (k + 1) false) := by
        rw [← hsn]; rfl
      rw [lateF, if_neg g1', if_neg g2', hT, hsin]
      simp only
      rw [hgo, if_neg (c := (goK x.net (typS x r) (stopsOf x r) r.start (restsOf s) (k + 1)).2.2 ≠ 0) (by simpa using hst1.1), late0 m (k + 1) (by omega), if_neg (by simp)]
      have hdrop : s.times.drop k = T_api_Time.mk (goK x.net (typS x r) (stopsOf x r) r.start (restsOf s) k).1 (max (goK x.net (typS x r) (stopsOf x r) r.start (restsOf s) k).1 (stopK (typS x r) (stopsOf x r) k).open_) (depK x.net (typS x r) (stopsOf x r) r.start (restsOf s) (k + 1)) ((restsOf s).getD (k + 1) false) :: s.times.drop (k + 1) := by
        have hlt : k < s.times.length := by rw [h.len]; exact hkn
        rw [List.drop_eq_getElem_cons hlt]
        congr 1
        have := h.tim k hkn
        rw [List.getElem?_eq_getElem hlt] at this
        exact Option.some.inj this
      rw [hdrop]
theorem lateS_zero {at_ : Nat} (ha : at_ ≤ r.visits.length) : lateS x r s at_ 0 = (s, 0) := by
  unfold lateS lateQ
  rw [Int.add_zero, h.late0 _ _ (by omega), lateR_yes, List.take_append_drop]
/-- With a delay the arrival is within its window. -/
theorem late_bd {at_ : Nat} (ha : at_ ≤ r.visits.length) {ticks : Int} (h0 : (lateQ x r s at_ ticks).2 = 0) : (goK x.net (typS x r) (stopsOf x r) r.start (restsOf s) at_).1 + ticks ≤ 4096 := by
  unfold lateQ at h0
  have h1 := h.trip.close
  have h2 := (h.trip.stopK at_).close
  cases hm : r.visits.length - at_ with
  | zero =>
    rw [hm, lateF] at h0
    split at h0
    · simp at h0
    · omega
  | succ m =>
    rw [hm, lateF] at h0
    split at h0
    · simp at h0
    · omega
/-- A visit that goes well. -/
theorem late_ok {m k : Nat} {sn dep arr : Int} (e : (lateF x.net (typS x r) (stopsOf x r) (restsOf s) (m + 1) k sn dep arr).2 = 0) :
    arr ≤ (stopK (typS x r) (stopsOf x r) k).close ∧ (goN x.net (typS x r).profile (stopK (typS x r) (stopsOf x r) k).place (stopK (typS x r) (stopsOf x r) (k + 1)).place (lateT (typS x r) (stopsOf x r) k ((restsOf s).getD (k + 1) false) arr).depart).2.2 = 0 ∧
    ∃ sn', (lateF x.net (typS x r) (stopsOf x r) (restsOf s) m (k + 1) sn' (lateT (typS x r) (stopsOf x r) k ((restsOf s).getD (k + 1) false) arr).depart (goN x.net (typS x r).profile (stopK (typS x r) (stopsOf x r) k).place (stopK (typS x r) (stopsOf x r) (k + 1)).place (lateT (typS x r) (stopsOf x r) k ((restsOf s).getD (k + 1) false) arr).depart).1).2 = 0 ∧
      lateF x.net (typS x r) (stopsOf x r) (restsOf s) (m + 1) k sn dep arr = ((lateT (typS x r) (stopsOf x r) k ((restsOf s).getD (k + 1) false) arr :: (lateF x.net (typS x r) (stopsOf x r) (restsOf s) m (k + 1) sn' (lateT (typS x r) (stopsOf x r) k ((restsOf s).getD (k + 1) false) arr).depart (goN x.net (typS x r).profile (stopK (typS x r) (stopsOf x r) k).place (stopK (typS x r) (stopsOf x r) (k + 1)).place (lateT (typS x r) (stopsOf x r) k ((restsOf s).getD (k + 1) false) arr).depart).1).1.1,
        (lateF x.net (typS x r) (stopsOf x r) (restsOf s) m (k + 1) sn' (lateT (typS x r) (stopsOf x r) k ((restsOf s).getD (k + 1) false) arr).depart (goN x.net (typS x r).profile (stopK (typS x r) (stopsOf x r) k).place (stopK (typS x r) (stopsOf x r) (k + 1)).place (lateT (typS x r) (stopsOf x r) k ((restsOf s).getD (k + 1) false) arr).depart).1).1.2), 0) := by
  rw [lateF] at e ⊢
  generalize (if (restsOf s).getD (k + 1) false = true then (0 : Int) else sn + arr - dep) = sn2 at *
  by_cases c1 : (stopK (typS x r) (stopsOf x r) k).close < arr
  · rw [if_pos c1] at e; simp at e
  · rw [if_neg c1] at e ⊢
    by_cases c2 : (typS x r).drive < sn + arr - dep
    · rw [if_pos c2] at e; simp at e
    · rw [if_neg c2] at e ⊢
      by_cases c3 : (goN x.net (typS x r).profile (stopK (typS x r) (stopsOf x r) k).place (stopK (typS x r) (stopsOf x r) (k + 1)).place (lateT (typS x r) (stopsOf x r) k ((restsOf s).getD (k + 1) false) arr).depart).2.2 ≠ 0
      · rw [if_pos c3] at e; exact absurd e c3
      · rw [if_neg c3] at e ⊢
        refine ⟨by omega, by simpa using c3, sn2, ?_⟩
        by_cases c4 : (lateF x.net (typS x r) (stopsOf x r) (restsOf s) m (k + 1) sn2 (lateT (typS x r) (stopsOf x r) k ((restsOf s).getD (k + 1) false) arr).depart (goN x.net (typS x r).profile (stopK (typS x r) (stopsOf x r) k).place (stopK (typS x r) (stopsOf x r) (k + 1)).place (lateT (typS x r) (stopsOf x r) k ((restsOf s).getD (k + 1) false) arr).depart).1).2 ≠ 0
        · rw [if_pos c4] at e; exact absurd e c4
        · rw [if_neg c4]
          exact ⟨by simpa using c4, rfl⟩
theorem late_end {k : Nat} {sn dep arr : Int} (e : (lateF x.net (typS x r) (stopsOf x r) (restsOf s) 0 k sn dep arr).2 = 0) : lateF x.net (typS x r) (stopsOf x r) (restsOf s) 0 k sn dep arr = (([], arr), 0) := by
  rw [lateF] at e ⊢
  by_cases c1 : (typS x r).close < arr
  · rw [if_pos c1] at e; simp at e
  · rw [if_neg c1] at e ⊢
    by_cases c2 : (typS x r).drive < sn + arr - dep
    · rw [if_pos c2] at e; simp at e
    · rw [if_neg c2]
/-- A later arrival makes no time earlier. -/
theorem late_mono : ∀ (m k : Nat) (sn sn' dep dep' arr arr' : Int), k + m = r.visits.length → 0 ≤ arr → arr ≤ arr' → (lateF x.net (typS x r) (stopsOf x r) (restsOf s) m k sn dep arr).2 = 0 → (lateF x.net (typS x r) (stopsOf x r) (restsOf s) m k sn' dep' arr').2 = 0 →
    (lateF x.net (typS x r) (stopsOf x r) (restsOf s) m k sn dep arr).1.2 ≤ (lateF x.net (typS x r) (stopsOf x r) (restsOf s) m k sn' dep' arr').1.2 ∧
    (lateF x.net (typS x r) (stopsOf x r) (restsOf s) m k sn dep arr).1.1.length = m ∧ (lateF x.net (typS x r) (stopsOf x r) (restsOf s) m k sn' dep' arr').1.1.length = m ∧
    ∀ (i : Nat) (p q : T_api_Time), (lateF x.net (typS x r) (stopsOf x r) (restsOf s) m k sn dep arr).1.1[i]? = some p → (lateF x.net (typS x r) (stopsOf x r) (restsOf s) m k sn' dep' arr').1.1[i]? = some q → p.arrive ≤ q.arrive ∧ p.begin ≤ q.begin ∧ p.depart ≤ q.depart ∧ p.rest_ = q.rest_
  | 0, k, sn, sn', dep, dep', arr, arr', hk, h0, ha, e1, e2 => by
    rw [h.late_end e1, h.late_end e2]
    exact ⟨ha, rfl, rfl, fun i p q hp => by simp at hp⟩
  | m + 1, k, sn, sn', dep, dep', arr, arr', hk, h0, ha, e1, e2 => by
    have hdm : (lateT (typS x r) (stopsOf x r) k ((restsOf s).getD (k + 1) false) arr).depart ≤ (lateT (typS x r) (stopsOf x r) k ((restsOf s).getD (k + 1) false) arr').depart := by
      unfold lateT; simp only; omega
    obtain ⟨c1, c3, sn2, c4, c5⟩ := h.late_ok e1
    obtain ⟨d1, d3, sn3, d4, d5⟩ := h.late_ok e2
    rw [c5, d5]
    have hd := h.dep_num (i := k) (b := (restsOf s).getD (k + 1) false) (arr := arr) h0 c1
    have hin : inT (lateT (typS x r) (stopsOf x r) k ((restsOf s).getD (k + 1) false) arr).depart := ⟨hd.1, by omega⟩
    have hb := goN_bd h.trip.net hin c3
    have hgm := goN_mono h.trip.net hdm c3
    have ih := late_mono m (k + 1) _ _ _ _ _ _ (by omega) (by omega) hgm.2.1 c4 d4
    refine ⟨ih.1, by simp only [List.length_cons]; rw [ih.2.1], by simp only [List.length_cons]; rw [ih.2.2.1], fun i p q hp hq => ?_⟩
    cases i with
    | zero =>
      simp only [List.getElem?_cons_zero, Option.some.injEq] at hp hq
      subst hp hq
      refine ⟨ha, ?_, hdm, rfl⟩
      unfold lateT; simp only; omega
    | succ i =>
      simp only [List.getElem?_cons_succ] at hp hq
      exact ih.2.2.2 i p q hp hq
end Sl
end
end Go.Proofs.YtfldlilicmbmkaaGreatDoor
namespace Go.Proofs.YtfldlilicmbmkaaGreatDoor
set_option linter.unusedSimpArgs false
set_option linter.unusedVariables false
set_option linter.unusedSectionVars false
section
variable {x : T_api_Instance} {r : T_api_Route} {s : T_api_Sheet}
noncomputable def afterS (x : T_api_Instance) (r : T_api_Route) (s : T_api_Sheet) (at_ ticks : Int) : T_api_Sheet × Int :=
  if validS x r s ≠ 0 then (zSheet, validS x r s) else if 0 ≤ at_ ∧ at_ ≤ r.visits.length ∧ 0 ≤ ticks ∧ ticks ≤ 4096 then lateS x r s at_.toNat ticks else (zSheet, 2)
theorem after_eq (hx : InstOK x) (hR : RouteI r) (hs : s.times.length ≤ 1048576) (at_ ticks : Int) : slack_After x r s at_ ticks = some (afterS x r s at_ ticks) := by
  unfold slack_After afterS
  rw [valid_eq hx hR.visits hR.rests hs, bnd_some]
  by_cases h0 : validS x r s = 0
  · have hS := sl_of hx h0
    rw [br_neg (by simpa using h0), if_neg (by simpa using h0)]
    by_cases hc : 0 ≤ at_ ∧ at_ ≤ r.visits.length ∧ 0 ≤ ticks ∧ ticks ≤ 4096
    · rw [br_neg (by simp only [orF, ltI_f, gtI_f, lenI]; omega), if_pos hc]
      have := hS.late_eq (at_ := at_.toNat) (by omega) (ticks := ticks) (by omega)
      rw [show ((at_.toNat : Nat) : Int) = at_ by omega] at this
      rw [this, bnd_some]
    · rw [br_pos (by simp only [orT, ltI_t, gtI_t, lenI]; omega), if_neg hc]; rfl
  · rw [br_pos (by simpa using h0), if_pos h0]; rfl
/-- Is a delay possible? -/
def okD (x : T_api_Instance) (r : T_api_Route) (s : T_api_Sheet) (at_ : Nat) (k : Nat) : Prop := (lateQ x r s at_ k).2 = 0
/-- The slack of an arrival. -/
def SlackN (x : T_api_Instance) (r : T_api_Route) (s : T_api_Sheet) (at_ m : Nat) : Prop := m ≤ 4096 ∧ (∀ j, 1 ≤ j → j ≤ m → okD x r s at_ j) ∧ ¬ okD x r s at_ (m + 1)
theorem SlackN.one {at_ m m' : Nat} (h : SlackN x r s at_ m) (h' : SlackN x r s at_ m') : m = m' := by
  rcases Nat.lt_trichotomy m m' with c | c | c
  · exact absurd (h'.2.1 (m + 1) (by omega) (by omega)) h.2.2
  · exact c
  · exact absurd (h.2.1 (m' + 1) (by omega) (by omega)) h'.2.2
def SlkL (x : T_api_Instance) (r : T_api_Route) (s : T_api_Sheet) (l : List Int) : Prop := l.length = r.visits.length + 1 ∧ ∀ i, i ≤ r.visits.length → ∃ m : Nat, l[i]? = some (m : Int) ∧ SlackN x r s i m
theorem SlkL.one {l l' : List Int} (h : SlkL x r s l) (h' : SlkL x r s l') : l = l' := by
  apply List.ext_getElem?
  intro i
  rcases Nat.lt_or_ge i (r.visits.length + 1) with hi | hi
  · obtain ⟨m, h1, h2⟩ := h.2 i (by omega)
    obtain ⟨m', h3, h4⟩ := h'.2 i (by omega)
    rw [h1, h3, h2.one h4]
  · rw [List.getElem?_eq_none (by rw [h.1]; exact hi), List.getElem?_eq_none (by rw [h'.1]; exact hi)]
theorem Sl.okD_bd (h : Sl x r s) {at_ k : Nat} (ha : at_ ≤ r.visits.length) (hk : okD x r s at_ k) : k ≤ 4096 := by
  have h1 := h.late_bd ha hk
  have h2 := h.num ha
  omega
/-- The loop over delays. -/
theorem slk_loop (h : Sl x r s) {at_ : Nat} (ha : at_ ≤ r.visits.length) {B : Int → Option (Int ⊕ Int)}
    (hB : ∀ m : Nat, m ≤ 4096 → B (m : Int) = br (neI (lateS x r s at_ ((m + 1 : Nat) : Int)).2 0) (some (.inr (m : Int))) (some (.inl ((m + 1 : Nat) : Int)))) : post (loopF B 0) fun e => ∃ m : Nat, e = (m : Int) ∧ SlackN x r s at_ m := by
  refine post_loop (fun st => ∃ m : Nat, st = (m : Int) ∧ m ≤ 4096 ∧ ∀ j, 1 ≤ j → j ≤ m → okD x r s at_ j) (fun st => 4097 - st.toNat) ⟨0, rfl, by omega, fun j h1 h2 => by omega⟩ (by simp) ?_
  rintro _ ⟨m, rfl, hm, hj⟩
  rw [hB m hm]
  have e2 : (lateS x r s at_ ((m + 1 : Nat) : Int)).2 = (lateQ x r s at_ ((m + 1 : Nat) : Int)).2 := lateR_2
  rw [e2]
  refine post_br (fun hb => post_inr ⟨m, rfl, hm, hj, fun hk => ?_⟩) (fun hb => ?_)
  · simp only [neI_t] at hb; exact hb hk
  · simp only [neI_f] at hb
    have hok : okD x r s at_ (m + 1) := hb
    have := h.okD_bd ha hok
    refine post_inl ⟨⟨m + 1, rfl, this, fun j h1 h2 => ?_⟩, by omega⟩
    rcases Nat.lt_or_ge j (m + 1) with c | c
    · exact hj j h1 (by omega)
    · obtain rfl : j = m + 1 := by omega
      exact hok
/-- The loop over visits. -/
theorem slk_list {B : List Int × Int → Option ((List Int × Int) ⊕ List Int)} {L : List Int → Int → Int → Option (Int ⊕ Int)} (hv : r.visits.length ≤ 100) (h : Sl x r s)
    (hB : ∀ l v, B (l, v) = br (ltI v (addK .i64 (lenI r.visits) 1)) (bnd (loopF (fun t => L l v t) 0) (fun n1 => chk (okN (l ++ [n1]).length 8) (some (.inl ((l ++ [n1]), (addK .i64 v 1)))))) (some (.inr l)))
    (hL : ∀ (l : List Int) (at_ m : Nat), at_ ≤ r.visits.length → m ≤ 4096 → L l at_ m = br (neI (lateS x r s at_ ((m + 1 : Nat) : Int)).2 0) (some (.inr (m : Int))) (some (.inl ((m + 1 : Nat) : Int)))) : post (loopF B ([], 0)) (SlkL x r s) := by
  refine post_loop (fun st => ∃ (k : Nat) (l : List Int), st = (l, (k : Int)) ∧ k ≤ r.visits.length + 1 ∧ l.length = k ∧ ∀ i, i < k → ∃ m : Nat, l[i]? = some (m : Int) ∧ SlackN x r s i m) (fun st => r.visits.length + 1 - st.2.toNat) ⟨0, [], rfl, by omega, rfl, fun i hi => by omega⟩ (by simp; omega) ?_
  rintro _ ⟨k, l, rfl, hk, hl, hi⟩
  have hadd : addK .i64 (lenI r.visits) 1 = (r.visits.length : Int) + 1 := by unfold lenI; exact addI (by omega) (by omega)
  rw [hB, hadd]
  refine post_br (fun hb => ?_) (fun hb => post_inr ?_)
  · simp only [ltI_t] at hb
    refine post_bnd (slk_loop h (at_ := k) (by omega) fun m hm => hL l k m (by omega) hm) fun n1 hn => ?_
    obtain ⟨m, rfl, hm⟩ := hn
    refine post_chk (okN_of (by simp; omega)) ?_
    rw [inc (n := r.visits.length + 1) (by omega) (by omega)]
    refine post_inl ⟨⟨k + 1, l ++ [(m : Int)], rfl, by omega, by simp [hl], fun i hik => ?_⟩, by simp; omega⟩
    rcases Nat.lt_or_ge i k with c | c
    · obtain ⟨m', h1, h2⟩ := hi i c
      exact ⟨m', by rw [List.getElem?_append_left (by omega)]; exact h1, h2⟩
    · obtain rfl : i = k := by omega
      exact ⟨m, by rw [List.getElem?_append_right (by omega), hl, Nat.sub_self]; rfl, hm⟩
  · simp only [ltI_f] at hb
    obtain rfl : k = r.visits.length + 1 := by omega
    exact ⟨hl, fun i hii => hi i (by omega)⟩
theorem slack_step (h : Sl x r s) (l : List Int) (at_ m : Nat) (ha : at_ ≤ r.visits.length) (hm : m ≤ 4096) :
    slack_Slack_L2 x r s l at_ m = br (neI (lateS x r s at_ ((m + 1 : Nat) : Int)).2 0) (some (.inr (m : Int))) (some (.inl ((m + 1 : Nat) : Int))) := by
  unfold slack_Slack_L2
  have e : addK .i64 (m : Int) 1 = ((m + 1 : Nat) : Int) := by rw [addI (by omega) (by omega)]; omega
  rw [e, h.late_eq ha (by omega), bnd_some]
theorem slack_post (hx : InstOK x) (hR : RouteI r) (hs : s.times.length ≤ 1048576) : post (slack_Slack x r s) fun q => q.2 = validS x r s ∧ (validS x r s ≠ 0 → q.1 = []) ∧ (validS x r s = 0 → SlkL x r s q.1) := by
  unfold slack_Slack
  rw [valid_eq hx hR.visits hR.rests hs, bnd_some]
  by_cases h0 : validS x r s = 0
  · have hS := sl_of hx h0
    have hfew := hS.few
    rw [br_neg (by simpa using h0)]
    refine post_bnd (slk_list (L := fun l v t => slack_Slack_L2 x r s l v t) (by omega) hS (fun l v => rfl) fun l at_ m ha hm => slack_step hS l at_ m ha hm) fun l hl => post_some.2 ⟨h0.symm, fun hn => absurd h0 hn, fun _ => hl⟩
  · rw [br_pos (by simpa using h0)]
    exact post_some.2 ⟨rfl, fun _ => rfl, fun h => absurd h h0⟩
theorem few19 {t : T_lorrylaw19_Trip} (hI : InstI t.x) : post (lorrylaw19_few t) fun r => r = true → InstOK t.x := by
  unfold lorrylaw19_few
  refine post_br (fun _ => post_bnd (check13_post hI) fun r hr => post_some.2 fun h => hr ?_) (fun _ => post_some.2 fun h => by cases h)
  simp only [eqI_t, lenI] at h
  exact List.length_eq_zero_iff.1 (by omega)
theorem awake19 : lorrylaw19_awake = some true := by kernel_rfl
theorem sheets_eq {a b : T_api_Sheet} (h : a.times.length ≤ 1048576) : lorrylaw19_sheets a b = some (decide (a = b)) := by
  unfold lorrylaw19_sheets
  by_cases hc : a.rest_ = b.rest_ ∧ a.depart = b.depart ∧ a.end_ = b.end_ ∧ a.miles = b.miles ∧ a.times.length = b.times.length
  · rw [br_neg (by simp only [orF, ntF, eqB_t, neI_f, lenI]; exact ⟨⟨⟨⟨hc.1, hc.2.1⟩, hc.2.2.1⟩, hc.2.2.2.1⟩, by rw [hc.2.2.2.2]⟩)]
    have := eq_loop (l := a.times) (m := b.times) h hc.2.2.2.2 (B := fun s => lorrylaw19_sheets_L1 a b s) (fun i x y hx hy => by
      show lorrylaw19_sheets_L1 a b (i : Int) = _
      unfold lorrylaw19_sheets_L1
      have := (List.getElem?_eq_some_iff.1 hx).1
      rw [br_pos (by simp [lenI]; omega), getI_nat hx, bnd_some, getI_nat hy, bnd_some, time_dec]) (by
      show lorrylaw19_sheets_L1 a b (a.times.length : Int) = _
      unfold lorrylaw19_sheets_L1
      rw [br_neg (by simp [lenI])])
    rw [this, bnd_some]
    by_cases he : a.times = b.times
    · rw [if_pos he, sel_inl, decide_eq_true (sheet_dec.2 ⟨hc.1, hc.2.1, he, hc.2.2.1, hc.2.2.2.1⟩)]
    · rw [if_neg he, sel_inr, decide_eq_false (fun e => he (sheet_dec.1 e).2.2.1)]
  · rw [br_pos (by rw [← Bool.not_eq_false]; simp only [orF, ntF, eqB_t, neI_f, lenI]; exact fun h => hc ⟨h.1.1.1.1, h.1.1.1.2, h.1.1.2, h.1.2, by omega⟩), decide_eq_false (fun e => hc (by rw [e]; exact ⟨rfl, rfl, rfl, rfl, rfl⟩))]
/-- A delay up to the slack is possible. -/
theorem Sl.upto (h : Sl x r s) {at_ m k : Nat} (ha : at_ ≤ r.visits.length) (hm : SlackN x r s at_ m) (hk : k ≤ m) : (lateS x r s at_ (k : Int)).2 = 0 := by
  rcases Nat.eq_zero_or_pos k with c | c
  · subst c
    have := h.lateS_zero ha
    rw [show ((0 : Nat) : Int) = 0 from rfl, this]
  · rw [show (lateS x r s at_ (k : Int)).2 = (lateQ x r s at_ (k : Int)).2 from lateR_2]
    exact hm.2.1 k c hk
end
end Go.Proofs.YtfldlilicmbmkaaGreatDoor
namespace Go.Proofs.YtfldlilicmbmkaaGreatDoor
set_option linter.unusedSimpArgs false
set_option linter.unusedVariables false
set_option linter.unusedSectionVars false
section
variable {x : T_api_Instance} {r : T_api_Route} {s : T_api_Sheet}
theorem ref11_Stop_eq {v : T_api_Visit} {st : T_api_Stop} (hx : InstOK x) (h : stopV x v = some st) : lorryref11_Stop x.orders v = some (st, 0) := by
  have hlen := hx.orders
  unfold stopV at h
  split at h
  · cases h
  · rename_i o ho
    split at ho
    · rename_i h0
      have hlt := (List.getElem?_eq_some_iff.1 ho).1
      unfold lorryref11_Stop
      have hs : subK .i64 (lenI x.orders) 1 = (x.orders.length : Int) - 1 := by unfold lenI; exact subI (by omega) (by omega)
      rw [hs]
      apply post.eq
      refine bnd_in11 ?_
      rw [br_pos (by rw [decide_eq_true_iff]; omega), getI_at h0 (by omega), bnd_some]
      have e : x.orders[v.order.toNat]'(by omega) = o := by rw [List.getElem?_eq_getElem hlt] at ho; exact Option.some.inj ho
      rw [e]
      unfold lorryref11_Stop_J1
      split at h
      · rename_i h1
        cases h
        cases hd : v.drop with
        | true => rw [br_true, atS_t hd] at *; rw [br_neg (by simpa using h1)]; exact post_some.2 rfl
        | false => rw [br_false, atS_f hd] at *; rw [br_neg (by simpa using h1)]; exact post_some.2 rfl
      · cases h
    · cases ho
namespace Sl
variable (h : Sl x r s)
include h
theorem stop_r {i : Nat} (hi : i < r.visits.length) : ∃ v, r.visits[i]? = some v ∧ lorryref11_Stop x.orders v = some (stopK (typS x r) (stopsOf x r) i, 0) := by
  obtain ⟨v, g1, g2⟩ := stops_at h.poss (stopK_lt (t := typS x r) (by rw [stops_len]; exact hi))
  exact ⟨v, g1, ref11_Stop_eq h.inst g2⟩
theorem from_r {i : Nat} (hi : i < r.visits.length) : (stopK (typS x r) (stopsOf x r) i).place = fromP (typS x r) (stopsOf x r) (i + 1) := by
  show ((stopsOf x r).getD i (endS (typS x r))).place = ((stopsOf x r).getD i zStop).place
  rw [List.getD_eq_getElem?_getD, List.getD_eq_getElem?_getD, List.getElem?_eq_getElem (show i < (stopsOf x r).length by rw [stops_len]; exact hi)]; rfl
theorem ahead_r {at_ : Nat} (ha : at_ ≤ r.visits.length) : lorryref19_ahead x r s (at_ : Int) =
    some (T_lorryref19_state.mk (fromP (typS x r) (stopsOf x r) at_) (depK x.net (typS x r) (stopsOf x r) r.start (restsOf s) at_) (sinS (labK x.net (typS x r) (stopsOf x r) r.start (restsOf s) at_) ((restsOf s).getD at_ false))) := by
  have hfew := h.few
  unfold lorryref19_ahead
  rw [h.typ, bnd_some]
  have key : loopF (fun s' => lorryref19_ahead_L1 x r s (at_ : Int) s'.1 s'.2.1 s'.2.2.1 s'.2.2.2.1 s'.2.2.2.2)
      ((fun k : Nat => (s.depart, fromP (typS x r) (stopsOf x r) k, depK x.net (typS x r) (stopsOf x r) r.start (restsOf s) k, sinS (labK x.net (typS x r) (stopsOf x r) r.start (restsOf s) k) ((restsOf s).getD k false), (k : Int))) 0) =
      some (fromP (typS x r) (stopsOf x r) at_, depK x.net (typS x r) (stopsOf x r) r.start (restsOf s) at_, sinS (labK x.net (typS x r) (stopsOf x r) r.start (restsOf s) at_) ((restsOf s).getD at_ false)) := by
    refine loop_for at_ (fun k : Nat => (s.depart, fromP (typS x r) (stopsOf x r) k, depK x.net (typS x r) (stopsOf x r) r.start (restsOf s) k, sinS (labK x.net (typS x r) (stopsOf x r) r.start (restsOf s) k) ((restsOf s).getD k false), (k : Int))) (by omega) (fun k hk => ?_) ?_
    · show lorryref19_ahead_L1 x r s (at_ : Int) s.depart _ _ _ (k : Int) = _
      unfold lorryref19_ahead_L1
      have hn := h.num (k := k) (by omega)
      have hs1 := Okay.since h.ok (k := k) (by rw [stops_len]; omega)
      obtain ⟨v, v1, v2⟩ := h.stop_r (i := k) (by omega)
      rw [br_pos (by simp; omega), getI_nat (h.tim k (by omega)), bnd_some]
      have hJ : ∀ sn : Int, lorryref19_ahead_J1 x r s (at_ : Int) s.depart (fromP (typS x r) (stopsOf x r) k) (depK x.net (typS x r) (stopsOf x r) r.start (restsOf s) k) (k : Int) sn = some (.inl (s.depart, fromP (typS x r) (stopsOf x r) (k + 1), depK x.net (typS x r) (stopsOf x r) r.start (restsOf s) (k + 1), sn, (k : Int) + 1)) := fun sn => by
        unfold lorryref19_ahead_J1 lorryref19_place
        rw [getI_nat v1, bnd_some, v2, bnd_some, bnd_some, getI_nat (h.tim k (by omega)), bnd_some, inc (n := at_) hk (by omega), h.from_r (by omega)]
      rw [hJ, hJ]
      have hsin : sinS (labK x.net (typS x r) (stopsOf x r) r.start (restsOf s) (k + 1)) ((restsOf s).getD (k + 1) false) = if (restsOf s).getD (k + 1) false = true then 0 else sinS (labK x.net (typS x r) (stopsOf x r) r.start (restsOf s) k) ((restsOf s).getD k false) + (goK x.net (typS x r) (stopsOf x r) r.start (restsOf s) k).1 - depK x.net (typS x r) (stopsOf x r) r.start (restsOf s) k := by
        rw [← hs1]; rfl
      have hdr : addK .i64 (sinS (labK x.net (typS x r) (stopsOf x r) r.start (restsOf s) k) ((restsOf s).getD k false)) (subK .i64 (goK x.net (typS x r) (stopsOf x r) r.start (restsOf s) k).1 (depK x.net (typS x r) (stopsOf x r) r.start (restsOf s) k)) =
          sinS (labK x.net (typS x r) (stopsOf x r) r.start (restsOf s) k) ((restsOf s).getD k false) + (goK x.net (typS x r) (stopsOf x r) r.start (restsOf s) k).1 - depK x.net (typS x r) (stopsOf x r) r.start (restsOf s) k := by
        rw [subI (by omega) (by omega), addI (by omega) (by omega)]; omega
      simp only
      rw [hsin, hdr]
      cases hb : (restsOf s).getD (k + 1) false with
      | true => rw [br_true, if_pos rfl]; rfl
      | false => rw [br_false, if_neg (by decide)]; rfl
    · show lorryref19_ahead_L1 x r s (at_ : Int) s.depart _ _ _ (at_ : Int) = _
      unfold lorryref19_ahead_L1
      rw [br_neg (by simp)]
  have e0 : (s.depart, (typS x r).from_, s.depart, (0 : Int), (0 : Int)) = (fun k : Nat => (s.depart, fromP (typS x r) (stopsOf x r) k, depK x.net (typS x r) (stopsOf x r) r.start (restsOf s) k, sinS (labK x.net (typS x r) (stopsOf x r) r.start (restsOf s) k) ((restsOf s).getD k false), (k : Int))) 0 := by
    show _ = (s.depart, (typS x r).from_, depK x.net (typS x r) (stopsOf x r) r.start (restsOf s) 0, sinS (begS (typS x r) r.start) _, ((0 : Nat) : Int))
    rw [← h.dep]
    have : sinS (begS (typS x r) r.start) ((restsOf s).getD 0 false) = 0 := by unfold sinS; split <;> rfl
    rw [this]; rfl
  rw [e0, key, bnd_some]
/-- A visit in the reference. -/
theorem visited {i : Nat} (hi : i < r.visits.length) {sn dep arr pl : Int} (h1 : 0 ≤ sn ∧ sn ≤ 4096) (h2 : 0 ≤ dep ∧ dep ≤ 20000) (h3 : 0 ≤ arr ∧ arr ≤ 200000) :
    post (lorryref19_visited x r (T_api_Sheet.mk s.rest_ s.depart s.times s.end_ s.miles) (i : Int) (T_lorryref19_state.mk pl dep sn) arr) fun q =>
      if (stopK (typS x r) (stopsOf x r) i).close < arr then q.2.2 = 14 else if (typS x r).drive < sn + arr - dep then q.2.2 = 16 else
      q = (lateT (typS x r) (stopsOf x r) i ((restsOf s).getD (i + 1) false) arr, T_lorryref19_state.mk (stopK (typS x r) (stopsOf x r) i).place (lateT (typS x r) (stopsOf x r) i ((restsOf s).getD (i + 1) false) arr).depart (if (restsOf s).getD (i + 1) false = true then 0 else sn + arr - dep), 0) := by
  have hS := h.trip.stopK i
  have := hS.open0; have := hS.open1; have := hS.close; have := hS.serv0; have := hS.serv1
  have hrt := h.trip.rest
  obtain ⟨v, v1, v2⟩ := h.stop_r hi
  unfold lorryref19_visited
  rw [h.typ, bnd_some, getI_nat v1, bnd_some, v2, bnd_some]
  have hb : lorryref08_Begin (stopK (typS x r) (stopsOf x r) i) arr = some (if (stopK (typS x r) (stopsOf x r) i).close < arr then (0, 14) else (max arr (stopK (typS x r) (stopsOf x r) i).open_, 0)) := by
    unfold lorryref08_Begin
    by_cases hc : (stopK (typS x r) (stopsOf x r) i).close < arr
    · rw [br_pos (by simpa using hc), if_pos hc]
    · rw [br_neg (by simpa using hc), if_neg hc]
      by_cases ho : arr < (stopK (typS x r) (stopsOf x r) i).open_
      · rw [br_pos (by simpa using ho)]; congr 2; omega
      · rw [br_neg (by simpa using ho)]; congr 2; omega
  show post (bnd (lorryref08_Begin (stopK (typS x r) (stopsOf x r) i) arr) _) _
  rw [hb, bnd_some]
  have hdr : subK .i64 (addK .i64 sn arr) dep = sn + arr - dep := by rw [addI (by omega) (by omega), subI (by omega) (by omega)]
  by_cases hc : (stopK (typS x r) (stopsOf x r) i).close < arr
  · simp only [if_pos hc]
    rw [br_pos (by decide)]; exact post_some.2 rfl
  · simp only [if_neg hc]
    rw [br_neg (by simp [neI]), hdr]
    by_cases hd : (typS x r).drive < sn + arr - dep
    · simp only [if_pos hd]
      rw [br_pos (by simpa using hd)]; exact post_some.2 rfl
    · simp only [if_neg hd]
      rw [br_neg (by simpa using hd), getI_nat (h.tim i hi), bnd_some]
      unfold lorryref19_visited_J1 lateT
      simp only
      rw [getI_nat (h.tim i hi), bnd_some, bnd_some]
      have ha : addK .i64 (max arr (stopK (typS x r) (stopsOf x r) i).open_) (stopK (typS x r) (stopsOf x r) i).service = max arr (stopK (typS x r) (stopsOf x r) i).open_ + (stopK (typS x r) (stopsOf x r) i).service := addI (by omega) (by omega)
      rw [ha, addI (by omega) (by omega)]
      cases hbb : (restsOf s).getD (i + 1) false with
      | true => rw [br_true]; exact post_some.2 (by simp)
      | false => rw [br_false]; exact post_some.2 (by simp)
theorem arrival_r {i : Nat} (hi : i ≤ r.visits.length) {now : T_lorryref19_state} (hin : inT now.depart) : lorryref19_arrival x r now (i : Int) =
    some ((goN x.net (typS x r).profile now.place (stopK (typS x r) (stopsOf x r) i).place now.depart).1, (goN x.net (typS x r).profile now.place (stopK (typS x r) (stopsOf x r) i).place now.depart).2.2) := by
  unfold lorryref19_arrival
  rw [h.typ, bnd_some]
  have hJ : ∀ to_ : Int, lorryref19_arrival_J1 x now (typS x r) to_ = some ((goN x.net (typS x r).profile now.place to_ now.depart).1, (goN x.net (typS x r).profile now.place to_ now.depart).2.2) := fun to_ => by
    unfold lorryref19_arrival_J1
    rw [ref09_Go_eq h.trip.net _ _ _ hin, bnd_some]
  by_cases hl : i < r.visits.length
  · obtain ⟨v, v1, v2⟩ := h.stop_r hl
    unfold lorryref19_place
    rw [br_pos (by simp [lenI]; omega), getI_nat v1, bnd_some, v2, bnd_some, bnd_some, hJ]
  · rw [br_neg (by simp [lenI]; omega), hJ, stopK_end (by rw [stops_len]; omega)]; rfl
theorem later_J1 {at_ : Nat} (ha : at_ ≤ r.visits.length) {sn dep arr : Int} {pre : List T_api_Time} (hpre : pre.length = at_) (h1 : 0 ≤ sn ∧ sn ≤ 4096) (h2 : 0 ≤ dep ∧ dep ≤ 20000) (h3 : dep ≤ arr ∧ arr ≤ 200000) :
    lorryref19_later_J1 x r s (at_ : Int) (typS x r) pre (T_lorryref19_state.mk (fromP (typS x r) (stopsOf x r) at_) dep sn) arr = some (lateR s pre (lateF x.net (typS x r) (stopsOf x r) (restsOf s) (r.visits.length - at_) at_ sn dep arr)) := by
  have hfew := h.few
  have hT := h.trip
  apply post.eq
  unfold lorryref19_later_J1
  refine post_bnd (R := fun e : (List T_api_Time × Int × T_lorryref19_state × Int) ⊕ (T_api_Sheet × Int) => (∃ (ts : List T_api_Time) (sn' dep' arr' : Int), e = .inl (ts, s.depart, T_lorryref19_state.mk (fromP (typS x r) (stopsOf x r) r.visits.length) dep' sn', arr') ∧ (0 ≤ sn' ∧ sn' ≤ 4096) ∧ (0 ≤ dep' ∧ dep' ≤ 20000) ∧ (dep' ≤ arr' ∧ arr' ≤ 200000) ∧
      lateR s ts (lateF x.net (typS x r) (stopsOf x r) (restsOf s) 0 r.visits.length sn' dep' arr') = lateR s pre (lateF x.net (typS x r) (stopsOf x r) (restsOf s) (r.visits.length - at_) at_ sn dep arr)) ∨
      e = .inr (lateR s pre (lateF x.net (typS x r) (stopsOf x r) (restsOf s) (r.visits.length - at_) at_ sn dep arr))) ?_ ?_
  · refine post_loop (fun st => ∃ (k m : Nat) (ts : List T_api_Time) (sn' dep' arr' : Int), k + m = r.visits.length ∧ ts.length = k ∧ st = (ts, s.depart, s.depart, T_lorryref19_state.mk (fromP (typS x r) (stopsOf x r) k) dep' sn', arr', (k : Int)) ∧
        (0 ≤ sn' ∧ sn' ≤ 4096) ∧ (0 ≤ dep' ∧ dep' ≤ 20000) ∧ (dep' ≤ arr' ∧ arr' ≤ 200000) ∧
        lateR s ts (lateF x.net (typS x r) (stopsOf x r) (restsOf s) m k sn' dep' arr') = lateR s pre (lateF x.net (typS x r) (stopsOf x r) (restsOf s) (r.visits.length - at_) at_ sn dep arr))
      (fun st => r.visits.length - st.2.2.2.2.2.toNat)
      ⟨at_, r.visits.length - at_, pre, sn, dep, arr, by omega, hpre, rfl, h1, h2, h3, rfl⟩ (by simp; omega) ?_
    rintro _ ⟨k, m, ts, sn', dep', arr', hk, hts, rfl, b1, b2, b3, hR⟩
    show post (lorryref19_later_L1 x r s (typS x r) pre ts s.depart s.depart (T_lorryref19_state.mk (fromP (typS x r) (stopsOf x r) k) dep' sn') arr' (k : Int)) _
    unfold lorryref19_later_L1
    cases m with
    | zero =>
      obtain rfl : k = r.visits.length := by omega
      rw [br_neg (by simp [lenI])]
      exact post_inr (.inl ⟨ts, sn', dep', arr', rfl, b1, b2, b3, hR⟩)
    | succ m =>
      have hkn : k < r.visits.length := by omega
      rw [lateF] at hR
      rw [br_pos (by simp [lenI]; omega)]
      refine post_bnd (h.visited hkn b1 b2 ⟨by omega, b3.2⟩) fun q hq => ?_
      by_cases c1 : (stopK (typS x r) (stopsOf x r) k).close < arr'
      · simp only [if_pos c1] at hq
        rw [if_pos c1, lateR_no (by decide)] at hR
        rw [br_pos (by rw [hq]; decide), hq]
        exact post_inr (.inr (congrArg Sum.inr hR))
      · simp only [if_neg c1] at hq
        rw [if_neg c1] at hR
        by_cases c2 : (typS x r).drive < sn' + arr' - dep'
        · simp only [if_pos c2] at hq
          rw [if_pos c2, lateR_no (by decide)] at hR
          rw [br_pos (by rw [hq]; decide), hq]
          exact post_inr (.inr (congrArg Sum.inr hR))
        · simp only [if_neg c2] at hq
          rw [if_neg c2] at hR
          subst hq
          have hd := h.dep_num (i := k) (b := (restsOf s).getD (k + 1) false) (arr := arr') (by omega) (by omega)
          have hin : inT (lateT (typS x r) (stopsOf x r) k ((restsOf s).getD (k + 1) false) arr').depart := ⟨hd.1, by omega⟩
          rw [br_neg (by simp), chk_pos (okN_of (by simp; omega)), inc hkn (by omega)]
          have har := h.arrival_r (i := k + 1) (by omega) (now := T_lorryref19_state.mk (stopK (typS x r) (stopsOf x r) k).place (lateT (typS x r) (stopsOf x r) k ((restsOf s).getD (k + 1) false) arr').depart (if (restsOf s).getD (k + 1) false = true then 0 else sn' + arr' - dep')) hin
          show post (bnd (lorryref19_arrival x r (T_lorryref19_state.mk (stopK (typS x r) (stopsOf x r) k).place (lateT (typS x r) (stopsOf x r) k ((restsOf s).getD (k + 1) false) arr').depart (if (restsOf s).getD (k + 1) false = true then 0 else sn' + arr' - dep')) ((k + 1 : Nat) : Int)) _) _
          rw [har, bnd_some]
          simp only
          generalize hg : goN x.net (typS x r).profile (stopK (typS x r) (stopsOf x r) k).place (stopK (typS x r) (stopsOf x r) (k + 1)).place (lateT (typS x r) (stopsOf x r) k ((restsOf s).getD (k + 1) false) arr').depart = g at *
          by_cases c3 : g.2.2 = 0
          · rw [if_neg (c := g.2.2 ≠ 0) (by simpa using c3), lateR_cons] at hR
            have hb := goN_bd hT.net hin (by rw [hg]; exact c3)
            rw [hg] at hb
            rw [br_neg (by simpa using c3)]
            have hdr := hT.drive
            refine post_inl ⟨⟨k + 1, m, ts ++ [lateT (typS x r) (stopsOf x r) k ((restsOf s).getD (k + 1) false) arr'], _, _, g.1, by omega, by simp [hts], ?_, ?_, hd, ⟨hb.1, by omega⟩, hR⟩, by simp; omega⟩
            · rw [h.from_r hkn]; rfl
            · split <;> omega
          · rw [if_pos (c := g.2.2 ≠ 0) c3, lateR_no c3] at hR
            rw [br_pos (by simpa using c3)]
            exact post_inr (.inr (congrArg Sum.inr hR))
  · rintro e (⟨ts, sn', dep', arr', rfl, b1, b2, b3, hR⟩ | rfl)
    · rw [sel_inl]
      rw [lateF] at hR
      have hdr : subK .i64 (addK .i64 sn' arr') dep' = sn' + arr' - dep' := by rw [addI (by omega) (by omega), subI (by omega) (by omega)]
      simp only
      rw [hdr]
      by_cases c1 : (typS x r).close < arr'
      · rw [if_pos c1, lateR_no (by decide)] at hR
        rw [br_pos (by simpa using c1)]; exact post_some.2 hR
      · rw [if_neg c1] at hR
        rw [br_neg (by simpa using c1)]
        by_cases c2 : (typS x r).drive < sn' + arr' - dep'
        · rw [if_pos c2, lateR_no (by decide)] at hR
          rw [br_pos (by simpa using c2)]; exact post_some.2 hR
        · rw [if_neg c2, lateR_yes, List.append_nil] at hR
          rw [br_neg (by simpa using c2)]; exact post_some.2 hR
    · rw [sel_inr]; exact post_some.2 rfl
theorem later_eq {at_ : Nat} (ha : at_ ≤ r.visits.length) {ticks : Int} (ht : 0 ≤ ticks ∧ ticks ≤ 100000) : lorryref19_later x r s (at_ : Int) ticks = some (lateS x r s at_ ticks) := by
  have hfew := h.few
  have hn := h.num ha
  unfold lorryref19_later
  rw [h.typ, bnd_some]
  have hsl : slcI s.times 0 (at_ : Int) = some (s.times.take at_) := by
    unfold slcI
    rw [if_pos ⟨by omega, by omega, by rw [h.len]; omega⟩]
    simp
  rw [hsl, bnd_some, chk_pos (okN_of (by rw [List.length_take]; omega)), h.ahead_r ha, bnd_some]
  have key := h.later_J1 ha (pre := s.times.take at_) (by rw [List.length_take, h.len]; omega) (sn := sinS (labK x.net (typS x r) (stopsOf x r) r.start (restsOf s) at_) ((restsOf s).getD at_ false)) (dep := depK x.net (typS x r) (stopsOf x r) r.start (restsOf s) at_)
    (arr := (goK x.net (typS x r) (stopsOf x r) r.start (restsOf s) at_).1 + ticks) (by omega) (by omega) (by omega)
  by_cases hl : at_ < r.visits.length
  · rw [br_pos (by simp [lenI]; omega), getI_nat (h.tim at_ hl), bnd_some]
    show lorryref19_later_J1 x r s (at_ : Int) _ _ _ (addK .i64 (goK x.net (typS x r) (stopsOf x r) r.start (restsOf s) at_).1 ticks) = _
    rw [addI (by omega) (by omega)]; exact key
  · obtain rfl : at_ = r.visits.length := by omega
    rw [br_neg (by simp [lenI]), h.fin, addI (by omega) (by omega)]; exact key
end Sl
theorem ref18_Valid_eq (hx : InstOK x) (hR : RouteI r) (hs : s.times.length ≤ 1048576) : lorryref18_Valid x r s = some (validS x r s) := by
  unfold lorryref18_Valid
  show bnd (lorryref18_check x r s) _ = _
  rw [ref_check_eq hx hR.visits hR.rests hs, bnd_some]
theorem refAfter_eq (hx : InstOK x) (hR : RouteI r) (hs : s.times.length ≤ 1048576) (at_ ticks : Int) : lorryref19_After x r s at_ ticks = some (afterS x r s at_ ticks) := by
  unfold lorryref19_After afterS
  rw [ref18_Valid_eq hx hR hs, bnd_some]
  by_cases h0 : validS x r s = 0
  · have hS := sl_of hx h0
    rw [br_neg (by simpa using h0), if_neg (by simpa using h0)]
    by_cases hc : 0 ≤ at_ ∧ at_ ≤ r.visits.length ∧ 0 ≤ ticks ∧ ticks ≤ 4096
    · rw [br_neg (by simp only [orF, ltI_f, gtI_f, lenI]; omega), if_pos hc]
      have := hS.later_eq (at_ := at_.toNat) (by omega) (ticks := ticks) (by omega)
      rw [show ((at_.toNat : Nat) : Int) = at_ by omega] at this
      rw [this, bnd_some]
    · rw [br_pos (by simp only [orT, ltI_t, gtI_t, lenI]; omega), if_neg hc]; rfl
  · rw [br_pos (by simpa using h0), if_pos h0]; rfl
theorem slack_own_post (hx : InstOK x) (hR : RouteI r) (hs : s.times.length ≤ 1048576) : post (slack_Slack_own x r s) fun q => q.2 = validS x r s ∧ (validS x r s ≠ 0 → q.1 = []) ∧ (validS x r s = 0 → SlkL x r s q.1) := slack_post hx hR hs
theorem ref_step (h : Sl x r s) (l : List Int) (at_ m : Nat) (ha : at_ ≤ r.visits.length) (hm : m ≤ 4096) :
    lorryref19_Slack_L2 x r s l at_ m = br (neI (lateS x r s at_ ((m + 1 : Nat) : Int)).2 0) (some (.inr (m : Int))) (some (.inl ((m + 1 : Nat) : Int))) := by
  unfold lorryref19_Slack_L2
  have e : addK .i64 (m : Int) 1 = ((m + 1 : Nat) : Int) := by rw [addI (by omega) (by omega)]; omega
  rw [br_pos (by simp; omega), e, h.later_eq ha (by omega), bnd_some]
theorem ref_slack_post (hx : InstOK x) (hR : RouteI r) (hs : s.times.length ≤ 1048576) : post (lorryref19_Slack x r s) fun q => q.2 = validS x r s ∧ (validS x r s ≠ 0 → q.1 = []) ∧ (validS x r s = 0 → SlkL x r s q.1) := by
  unfold lorryref19_Slack
  rw [ref18_Valid_eq hx hR hs, bnd_some]
  by_cases h0 : validS x r s = 0
  · have hS := sl_of hx h0
    have hfew := hS.few
    rw [br_neg (by simpa using h0)]
    refine post_bnd (slk_list (L := fun l v t => lorryref19_Slack_L2 x r s l v t) (by omega) hS (fun l v => ?_) fun l at_ m ha hm => ref_step hS l at_ m ha hm) fun l hl => post_some.2 ⟨h0.symm, fun hn => absurd h0 hn, fun _ => hl⟩
    show lorryref19_Slack_L1 x r s l v = _
    unfold lorryref19_Slack_L1
    have hadd : addK .i64 (lenI r.visits) 1 = (r.visits.length : Int) + 1 := by unfold lenI; exact addI (by omega) (by omega)
    rw [hadd]
    have : leI v (lenI r.visits) = ltI v ((r.visits.length : Int) + 1) := by
      rw [Bool.eq_iff_iff]; simp [lenI]; omega
    rw [this]
  · rw [br_pos (by simpa using h0)]
    exact post_some.2 ⟨rfl, fun _ => rfl, fun h => absurd h h0⟩
/-- The latest arrivals. -/
def LatL (x : T_api_Instance) (r : T_api_Route) (s : T_api_Sheet) (l : List Int) : Prop := l.length = r.visits.length + 1 ∧ ∀ i, i ≤ r.visits.length → ∃ m : Nat, l[i]? = some ((goK x.net (typS x r) (stopsOf x r) r.start (restsOf s) i).1 + m) ∧ SlackN x r s i m
theorem LatL.one {l l' : List Int} (h : LatL x r s l) (h' : LatL x r s l') : l = l' := by
  apply List.ext_getElem?
  intro i
  rcases Nat.lt_or_ge i (r.visits.length + 1) with hi | hi
  · obtain ⟨m, h1, h2⟩ := h.2 i (by omega)
    obtain ⟨m', h3, h4⟩ := h'.2 i (by omega)
    rw [h1, h3, h2.one h4]
  · rw [List.getElem?_eq_none (by rw [h.1]; exact hi), List.getElem?_eq_none (by rw [h'.1]; exact hi)]
theorem latest_post (hx : InstOK x) (hR : RouteI r) (hs : s.times.length ≤ 1048576) : post (slack_Latest x r s) fun q => q.2 = validS x r s ∧ (validS x r s ≠ 0 → q.1 = []) ∧ (validS x r s = 0 → LatL x r s q.1) := by
  unfold slack_Latest
  refine post_bnd (slack_own_post hx hR hs) fun q hq => ?_
  obtain ⟨q1, q2, q3⟩ := hq
  by_cases h0 : validS x r s = 0
  · have hS := sl_of hx h0
    have hfew := hS.few
    have hl := q3 h0
    rw [br_neg (by rw [q1]; simpa using h0)]
    refine post_bnd (R := LatL x r s) ?_ fun l h => post_some.2 ⟨h0.symm, fun hn => absurd h0 hn, fun _ => h⟩
    refine post_loop (fun st => ∃ (k : Nat) (l : List Int), st = (l, (k : Int)) ∧ k ≤ r.visits.length + 1 ∧ l.length = r.visits.length + 1 ∧ (∀ i, k ≤ i → l[i]? = q.1[i]?) ∧ ∀ i, i < k → ∃ m : Nat, l[i]? = some ((goK x.net (typS x r) (stopsOf x r) r.start (restsOf s) i).1 + m) ∧ SlackN x r s i m)
      (fun st => r.visits.length + 1 - st.2.toNat) ⟨0, q.1, rfl, by omega, hl.1, fun i _ => rfl, fun i hi => by omega⟩ (by simp; omega) ?_
    rintro _ ⟨k, l, rfl, hk, hlen, hrest, hdone⟩
    show post (slack_Latest_L1 s q l (k : Int)) _
    unfold slack_Latest_L1
    refine post_br (fun hb => ?_) (fun hb => post_inr ?_)
    · simp only [ltI_t, lenI] at hb
      rw [hl.1] at hb
      obtain ⟨m, m1, m2⟩ := hl.2 k (by omega)
      have hm := m2.1
      have hn := hS.num (k := k) (by omega)
      have e1 : l[k]? = some (m : Int) := (hrest k (Nat.le_refl _)).trans m1
      have fin : ∀ a : Int, a = (goK x.net (typS x r) (stopsOf x r) r.start (restsOf s) k).1 → post (some (Sum.inl (setI l (k : Int) (addK .i64 (m : Int) a), addK .i64 (k : Int) 1) : (List Int × Int) ⊕ List Int)) fun z => (∀ s', z = .inl s' → (∃ (k : Nat) (l : List Int), s' = (l, (k : Int)) ∧ k ≤ r.visits.length + 1 ∧ l.length = r.visits.length + 1 ∧ (∀ i, k ≤ i → l[i]? = q.1[i]?) ∧ ∀ i, i < k → ∃ m : Nat, l[i]? = some ((goK x.net (typS x r) (stopsOf x r) r.start (restsOf s) i).1 + m) ∧ SlackN x r s i m) ∧ r.visits.length + 1 - s'.2.toNat < r.visits.length + 1 - (l, (k : Int)).2.toNat) ∧ ∀ e, z = .inr e → LatL x r s e := by
        rintro a rfl
        rw [inc (n := r.visits.length + 1) (by omega) (by omega), addI (by omega) (by omega)]
        refine ⟨_, rfl, fun s' hs' => ?_, fun e he => by cases he⟩
        cases hs'
        refine ⟨⟨k + 1, _, rfl, by omega, by simp [setI, hlen], fun i hi => ?_, fun i hi => ?_⟩, by simp; omega⟩
        · unfold setI
          rw [Int.toNat_natCast, List.getElem?_set_ne (by omega)]; exact hrest i (by omega)
        · unfold setI
          rw [Int.toNat_natCast]
          by_cases hik : i = k
          · subst hik
            rw [List.getElem?_set_self (by omega)]
            exact ⟨m, by rw [Int.add_comm], m2⟩
          · rw [List.getElem?_set_ne (fun e => hik e.symm)]
            exact hdone i (by omega)
      refine post_br (fun hb2 => ?_) (fun hb2 => ?_)
      · simp only [ltI_t, lenI] at hb2
        rw [getI_nat e1, bnd_some, getI_nat (hS.tim k (by rw [← hS.len]; omega)), bnd_some]
        exact fin _ rfl
      · simp only [ltI_f, lenI] at hb2
        rw [getI_nat e1, bnd_some]
        have : k = r.visits.length := by rw [← hS.len]; rw [← hS.len] at hb; omega
        exact fin _ (by rw [this]; exact hS.fin)
    · simp only [ltI_f, lenI] at hb
      rw [hl.1] at hb
      exact ⟨hlen, fun i hi => hdone i (by omega)⟩
  · rw [br_pos (by rw [q1]; simpa using h0)]
    exact post_some.2 ⟨q1, fun _ => rfl, fun h => absurd h h0⟩
theorem ref_latest_post (hx : InstOK x) (hR : RouteI r) (hs : s.times.length ≤ 1048576) : post (lorryref19_Latest x r s) fun q => q.2 = validS x r s ∧ (validS x r s ≠ 0 → q.1 = []) ∧ (validS x r s = 0 → LatL x r s q.1) := by
  unfold lorryref19_Latest
  refine post_bnd (ref_slack_post hx hR hs) fun q hq => ?_
  obtain ⟨q1, q2, q3⟩ := hq
  by_cases h0 : validS x r s = 0
  · have hS := sl_of hx h0
    have hfew := hS.few
    have hl := q3 h0
    rw [br_neg (by rw [q1]; simpa using h0)]
    refine post_bnd (R := LatL x r s) ?_ fun l h => post_some.2 ⟨h0.symm, fun hn => absurd h0 hn, fun _ => h⟩
    refine post_loop (fun st => ∃ (k : Nat) (l : List Int), st = (l, (k : Int)) ∧ k ≤ r.visits.length + 1 ∧ l.length = k ∧ ∀ i, i < k → ∃ m : Nat, l[i]? = some ((goK x.net (typS x r) (stopsOf x r) r.start (restsOf s) i).1 + m) ∧ SlackN x r s i m)
      (fun st => r.visits.length + 1 - st.2.toNat) ⟨0, [], rfl, by omega, rfl, fun i hi => by omega⟩ (by simp; omega) ?_
    rintro _ ⟨k, l, rfl, hk, hlen, hdone⟩
    show post (lorryref19_Latest_L1 s q l (k : Int)) _
    unfold lorryref19_Latest_L1
    refine post_br (fun hb => ?_) (fun hb => post_inr ?_)
    · simp only [ltI_t, lenI] at hb
      rw [hl.1] at hb
      obtain ⟨m, m1, m2⟩ := hl.2 k (by omega)
      have hm := m2.1
      have hn := hS.num (k := k) (by omega)
      have fin : ∀ a : Int, a = (goK x.net (typS x r) (stopsOf x r) r.start (restsOf s) k).1 → post (lorryref19_Latest_J1 s q l (k : Int) a) fun z => (∀ s', z = .inl s' → (∃ (k : Nat) (l : List Int), s' = (l, (k : Int)) ∧ k ≤ r.visits.length + 1 ∧ l.length = k ∧ ∀ i, i < k → ∃ m : Nat, l[i]? = some ((goK x.net (typS x r) (stopsOf x r) r.start (restsOf s) i).1 + m) ∧ SlackN x r s i m) ∧ r.visits.length + 1 - s'.2.toNat < r.visits.length + 1 - (l, (k : Int)).2.toNat) ∧ ∀ e, z = .inr e → LatL x r s e := by
        rintro a rfl
        unfold lorryref19_Latest_J1
        rw [getI_nat m1, bnd_some, chk_pos (okN_of (by simp; omega)), inc (n := r.visits.length + 1) (by omega) (by omega), addI (by omega) (by omega)]
        refine ⟨_, rfl, fun s' hs' => ?_, fun e he => by cases he⟩
        cases hs'
        refine ⟨⟨k + 1, _, rfl, by omega, by simp [hlen], fun i hi => ?_⟩, by simp; omega⟩
        rcases Nat.lt_or_ge i k with c | c
        · rw [List.getElem?_append_left (by omega)]; exact hdone i c
        · obtain rfl : i = k := by omega
          rw [List.getElem?_append_right (by omega), hlen, Nat.sub_self]
          exact ⟨m, rfl, m2⟩
      refine post_br (fun hb2 => ?_) (fun hb2 => ?_)
      · simp only [ltI_t, lenI] at hb2
        rw [getI_nat (hS.tim k (by rw [← hS.len]; omega)), bnd_some]
        exact fin _ rfl
      · simp only [ltI_f, lenI] at hb2
        have : k = r.visits.length := by rw [← hS.len]; rw [← hS.len] at hb; omega
        exact fin _ (by rw [this]; exact hS.fin)
    · simp only [ltI_f, lenI] at hb
      rw [hl.1] at hb
      obtain rfl : k = r.visits.length + 1 := by omega
      exact ⟨hlen, fun i hi => hdone i (by omega)⟩
  · rw [br_pos (by rw [q1]; simpa using h0)]
    exact post_some.2 ⟨q1, fun _ => rfl, fun h => absurd h h0⟩
theorem numbers_eq {a b : List Int} (h : a.length ≤ 1048576) : lorrylaw19_numbers a b = some (decide (a = b)) := by
  unfold lorrylaw19_numbers
  by_cases hl : a.length = b.length
  · rw [br_neg (by simp only [neI_f, lenI]; omega)]
    have := eq_loop (l := a) (m := b) h hl (B := fun s => lorrylaw19_numbers_L1 a b s) (fun i x y hx hy => by
      show lorrylaw19_numbers_L1 a b (i : Int) = _
      unfold lorrylaw19_numbers_L1
      have := (List.getElem?_eq_some_iff.1 hx).1
      rw [br_pos (by simp [lenI]; omega), getI_nat hx, bnd_some, getI_nat hy, bnd_some]
      by_cases he : x = y
      · rw [br_neg (by simpa using he), decide_eq_true he]; rfl
      · rw [br_pos (by simpa using he), decide_eq_false he]; rfl) (by
      show lorrylaw19_numbers_L1 a b (a.length : Int) = _
      unfold lorrylaw19_numbers_L1
      rw [br_neg (by simp [lenI])])
    rw [this, bnd_some]
    by_cases he : a = b
    · rw [if_pos he, sel_inl, decide_eq_true he]
    · rw [if_neg he, sel_inr, decide_eq_false he]
  · rw [br_pos (by simp only [neI_t, lenI]; omega), decide_eq_false (fun e => hl (by rw [e]))]
theorem SlackFinds_plain (t : T_lorrylaw19_Trip) (hI : InstI t.x) (hR : RouteI t.r) (hs : t.s.times.length ≤ 1048576) : lorrylaw19_SlackFinds t = some true := by
  apply post.eq
  unfold lorrylaw19_SlackFinds
  rw [awake19]
  refine post_bnd (few19 hI) fun ok hok => post_br (fun h => ?_) (fun _ => post_some.2 rfl)
  have hx := hok h
  have hv := hR.visits
  refine post_bnd (slack_post hx hR hs) fun a ha => post_bnd (ref_slack_post hx hR hs) fun b hb => post_bnd (latest_post hx hR hs) fun c hc => post_bnd (ref_latest_post hx hR hs) fun d hd => ?_
  have e1 : a.1 = b.1 := by
    by_cases h0 : validS t.x t.r t.s = 0
    · exact (ha.2.2 h0).one (hb.2.2 h0)
    · rw [ha.2.1 h0, hb.2.1 h0]
  have e2 : c.1 = d.1 := by
    by_cases h0 : validS t.x t.r t.s = 0
    · exact (hc.2.2 h0).one (hd.2.2 h0)
    · rw [hc.2.1 h0, hd.2.1 h0]
  have l1 : a.1.length ≤ 1048576 := by
    by_cases h0 : validS t.x t.r t.s = 0
    · have := (sl_of hx h0).few; rw [(ha.2.2 h0).1]; omega
    · rw [ha.2.1 h0]; exact Nat.zero_le _
  have l2 : c.1.length ≤ 1048576 := by
    by_cases h0 : validS t.x t.r t.s = 0
    · have := (sl_of hx h0).few; rw [(hc.2.2 h0).1]; omega
    · rw [hc.2.1 h0]; exact Nat.zero_le _
  rw [numbers_eq l1, bnd_some, decide_eq_true e1, br_pos (by simp only [Bool.true_and, eqI_t]; rw [ha.1, hb.1]), numbers_eq l2, bnd_some, decide_eq_true e2, br_pos (by simp only [Bool.true_and, eqI_t]; rw [hc.1, hd.1])]
  exact post_some.2 rfl
theorem SlackDelays_plain (t : T_lorrylaw19_Trip) (hI : InstI t.x) (hR : RouteI t.r) (hs : t.s.times.length ≤ 1048576) (at_ late : Int) : lorrylaw19_SlackDelays t at_ late = some true := by
  apply post.eq
  unfold lorrylaw19_SlackDelays
  rw [awake19]
  refine post_bnd (few19 hI) fun ok hok => post_br (fun h => ?_) (fun _ => post_some.2 rfl)
  have hx := hok h
  rw [after_eq hx hR hs, bnd_some, refAfter_eq hx hR hs, bnd_some]
  have hlen : (afterS t.x t.r t.s at_ late).1.times.length ≤ 1048576 := by
    unfold afterS
    split
    · exact Nat.zero_le _
    · rename_i h0
      split
      · rename_i hc
        have hS := sl_of hx (by simpa using h0)
        have hfew := hS.few
        unfold lateS lateR
        split
        · exact Nat.zero_le _
        · rename_i hk
          have hk' : (lateQ t.x t.r t.s at_.toNat late).2 = 0 := by simpa using hk
          have hnum := hS.num (k := at_.toNat) (by omega)
          have hm := hS.late_mono (t.r.visits.length - at_.toNat) at_.toNat _ _ _ _ _ _ (by omega) (by omega) (Int.le_refl _) hk' hk'
          have : (lateQ t.x t.r t.s at_.toNat late).1.1.length = t.r.visits.length - at_.toNat := hm.2.1
          simp only [List.length_append, List.length_take]
          omega
      · exact Nat.zero_le _
  rw [sheets_eq hlen, bnd_some, decide_eq_true rfl, br_pos (by simp only [Bool.true_and, eqI_t])]
  exact post_some.2 rfl
end
end Go.Proofs.YtfldlilicmbmkaaGreatDoor
namespace Go.Proofs.YtfldlilicmbmkaaGreatDoor
set_option linter.unusedSimpArgs false
set_option linter.unusedVariables false
set_option linter.unusedSectionVars false
theorem netI_of {n : T_api_Network} (h : T_api_Network.ok 1048576 n) : NetI n := by
  obtain ⟨⟨h1, h2⟩, ⟨h3, h4⟩, _⟩ := h
  refine ⟨h1, h3, h2, fun a ha => ?_⟩
  obtain ⟨_, _, _, _, ⟨h5, h6⟩, ⟨h7, h8⟩, _⟩ := h4 a ha
  exact ⟨h5, h7, fun p hp => ⟨(h6 p hp).1, (h6 p hp).2.1⟩, fun p hp => ⟨(h8 p hp).1, (h8 p hp).2.1⟩⟩
end Go.Proofs.YtfldlilicmbmkaaGreatDoor
namespace Go.Proofs.YtfldlilicmbmkaaGreatDoor
set_option linter.unusedSimpArgs false
set_option linter.unusedVariables false
set_option linter.unusedSectionVars false
theorem instI_of {x : T_api_Instance} (h : T_api_Instance.ok 1048576 x) : InstI x := by
  obtain ⟨h0, ⟨h1, h2⟩, ⟨h3, h4⟩, ⟨h5, _⟩, ⟨h6, _⟩, _⟩ := h
  refine ⟨netI_of h0, h1, h3, h5, h6, fun t ht => ?_, fun o ho => ?_⟩
  · obtain ⟨a, _, _, _, ⟨b, _⟩, _⟩ := h2 t ht
    exact ⟨a, b⟩
  · obtain ⟨a, ⟨b, _⟩, _⟩ := h4 o ho
    exact ⟨a, b⟩
theorem routeI_of {r : T_api_Route} (h : T_api_Route.ok 1048576 r) : RouteI r := by
  obtain ⟨h0, h1, ⟨h2, _⟩, ⟨h3, _⟩, _⟩ := h
  exact ⟨h0, h1, h2, h3⟩
theorem times_of {s : T_api_Sheet} (h : T_api_Sheet.ok 1048576 s) : s.times.length ≤ 1048576 := h.2.2.1.1
end Go.Proofs.YtfldlilicmbmkaaGreatDoor
