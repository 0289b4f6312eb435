/- Plain: a schedule for rests, in the program and in the reference. -/
import Derived.Test.YtjhhlmmmkgnhmaaDoorRql
namespace Go.Proofs.YtjhhlmmmkgnhmaaDoor
set_option linter.unusedSimpArgs false
set_option linter.unusedVariables false
set_option linter.unusedSectionVars false
section
variable (n : T_api_Network) (t : T_api_Type) (stops : List T_api_Stop)
/-- The labels for a list of rests, from a label on. -/
noncomputable def runK : List Bool → Nat → T_drive_label → T_drive_label × Int
  | [], _, l => (l, 0)
  | b :: r, k, l => if (nxt n t stops l k b).2 ≠ 0 then (zLab, (nxt n t stops l k b).2) else runK r (k + 1) (nxt n t stops l k b).1
/-- The driving times at the arrivals. -/
noncomputable def runD : List Bool → Nat → T_drive_label → List Int
  | [], _, _ => []
  | b :: r, k, l => (nxt n t stops l k b).1.since :: runD r (k + 1) (nxt n t stops l k b).1
def begS (start : Int) : T_drive_label := T_drive_label.mk (max t.open_ start) 0 zSheet
/-- A schedule, or why there is none. -/
noncomputable def runS (start : Int) (rests : List Bool) : T_api_Sheet × Int :=
  if (runK n t stops rests 0 (begS t start)).2 ≠ 0 then (zSheet, (runK n t stops rests 0 (begS t start)).2) else ((runK n t stops rests 0 (begS t start)).1.sheet, 0)
end
section
variable {n : T_api_Network} {t : T_api_Type} {stops : List T_api_Stop} {l : T_drive_label} {k : Nat} {b : Bool}
theorem beg_lab (h : TripOK n t stops) {start : Int} (hs : 0 ≤ start ∧ start ≤ 4096) : LabI 0 (begS t start) := by
  have h1 := h.opn; have h2 := h.close
  refine ⟨?_, ?_, Int.le_refl _, by show (0 : Int) ≤ 4096; omega, Int.le_refl _, Int.le_refl _, rfl⟩
  · show 0 ≤ max t.open_ start; omega
  · show max t.open_ start ≤ 8192; omega
theorem nxt_z (h0 : (nxt n t stops l k b).2 ≠ 0) : (nxt n t stops l k b).1 = zLab := by
  unfold nxt nxtD at h0 ⊢
  split
  · rfl
  · rename_i h1
    rw [if_neg h1] at h0
    split
    · rfl
    · rename_i h2
      rw [if_neg h2] at h0
      split
      · rfl
      · rename_i h3
        rw [if_neg h3] at h0; simp at h0
theorem run_eq {p : T_drive_trip} (h : TripOK p.x.net p.t p.stops) (hs : 0 ≤ p.r.start ∧ p.r.start ≤ 4096) {rests : List Bool} (hr : rests.length = p.stops.length + 1) : drive_trip_run p rests = some (runS p.x.net p.t p.stops p.r.start rests) := by
  have hfew := h.few
  apply post.eq
  unfold drive_trip_run
  have hbeg : drive_trip_begin p = some (begS p.t p.r.start) := by
    unfold drive_trip_begin begS; rw [maxI_eq]; rfl
  show post (bnd (drive_trip_begin p) _) _
  rw [hbeg, bnd_some]
  refine post_bnd (R := fun e : T_drive_label ⊕ (T_api_Sheet × Int) => e = (if (runK p.x.net p.t p.stops rests 0 (begS p.t p.r.start)).2 ≠ 0 then .inr (zSheet, (runK p.x.net p.t p.stops rests 0 (begS p.t p.r.start)).2) else .inl (runK p.x.net p.t p.stops rests 0 (begS p.t p.r.start)).1)) ?_ ?_
  · refine post_loop (fun s => ∃ (k : Nat) (l : T_drive_label), k ≤ rests.length ∧ s = (p.t.rest_, l, (k : Int)) ∧ (k ≤ p.stops.length → LabI k l) ∧ runK p.x.net p.t p.stops (rests.drop k) k l = runK p.x.net p.t p.stops rests 0 (begS p.t p.r.start)) (fun s => rests.length - s.2.2.toNat) ⟨0, _, Nat.zero_le _, rfl, fun _ => beg_lab h hs, rfl⟩ (by simp; omega) ?_
    rintro _ ⟨k, l, hk, rfl, hL, hf⟩
    show post (drive_trip_run_L1 p rests _ p.t.rest_ l (k : Int)) _
    unfold drive_trip_run_L1
    refine post_br (fun hb => ?_) (fun hb => post_inr ?_)
    · simp only [ltI_t, lenI] at hb
      have hk' : k < rests.length := by omega
      have e1 : rests[k]? = some rests[k] := List.getElem?_eq_getElem hk'
      rw [getI_nat e1, bnd_some, inc hk' (by omega)]
      rw [List.drop_eq_getElem_cons hk'] at hf
      simp only [runK] at hf
      show post (bnd (drive_trip_next p l (k : Int) rests[k]) _) _
      rw [next_eq h (hL (by omega)) (by omega), bnd_some]
      generalize rests[k] = b at *
      refine post_br (fun hc => post_inr ?_) (fun hc => post_inl ⟨⟨k + 1, (nxt p.x.net p.t p.stops l k b).1, by omega, rfl, fun h' => ?_, ?_⟩, by simp; omega⟩)
      · simp only [neI_t] at hc
        rw [if_pos hc] at hf
        rw [← hf, if_pos hc]; rfl
      · simp only [neI_f] at hc
        exact nxt_lab h (hL (by omega)) (by omega) hc
      · simp only [neI_f] at hc
        rwa [if_neg (by simpa using hc)] at hf
    · simp only [ltI_f, lenI] at hb
      rw [List.drop_eq_nil_of_le (by omega)] at hf
      simp only [runK] at hf
      rw [← hf, if_neg (by simp)]
  · rintro e rfl
    unfold runS
    split
    · rw [sel_inr]; exact post_some.2 rfl
    · rw [sel_inl]; exact post_some.2 rfl
theorem Run_eq {x : T_api_Instance} {r : T_api_Route} {rests : List Bool} (hx : InstOK x) (hv : r.visits.length ≤ 1048576) : drive_Run x r rests = some (if possS x r = true ∧ rests.length = r.visits.length + 1 then runS x.net (typS x r) (stopsOf x r) r.start rests else (zSheet, 2)) := by
  unfold drive_Run
  show bnd (drive_plan x r) _ = _
  rw [plan_eq, bnd_some]
  by_cases hp : possS x r = true
  · rw [if_pos hp]
    have hadd : addK .i64 (lenI r.visits) 1 = (r.visits.length : Int) + 1 := by unfold lenI; exact addI (by omega) (by omega)
    rw [hadd]
    by_cases hr : rests.length = r.visits.length + 1
    · rw [if_pos ⟨hp, hr⟩, br_neg (by simp only [Bool.not_true, Bool.false_or, neI_f, lenI]; omega)]
      have h5 := of_decide_eq_true (poss_pre hp)
      show bnd (drive_trip_run (T_drive_trip.mk x (typS x r) r (stopsOf x r)) rests) _ = _
      rw [run_eq (p := T_drive_trip.mk x (typS x r) r (stopsOf x r)) (tripOK hx hp) ⟨h5.2.2.1, h5.2.2.2.1⟩ (by rw [hr]; show _ = (stopsOf x r).length + 1; rw [stops_len]), bnd_some]
    · rw [if_neg (fun h => hr h.2), br_pos (by simp only [Bool.not_true, Bool.false_or, neI_t, lenI]; omega)]; rfl
  · rw [if_neg hp, if_neg (fun h => hp h.1), br_pos (by simp [zTrip])]; rfl

/-! ### The reference -/
theorem step_eq {x : T_api_Instance} {s : T_lorryref18_state} (hn : NetOK x.net) (ht : inT s.time) (hd : 0 ≤ s.driven ∧ s.driven ≤ 4096) (hm : 0 ≤ s.miles ∧ s.miles ≤ 1000000) (to_ close late : Int) :
    lorryref18_step x t s to_ close late = some (if (goN x.net t.profile s.place to_ s.time).2.2 ≠ 0 then (s, 12) else if close < (goN x.net t.profile s.place to_ s.time).1 then (s, late)
      else if t.drive < s.driven + (goN x.net t.profile s.place to_ s.time).1 - s.time then (s, 16)
      else (T_lorryref18_state.mk to_ (goN x.net t.profile s.place to_ s.time).1 (s.driven + (goN x.net t.profile s.place to_ s.time).1 - s.time) (s.miles + (goN x.net t.profile s.place to_ s.time).2.1), 0)) := by
  unfold lorryref18_step lorryref18_Way
  show bnd (bnd (lorryref09_Go x.net t.profile s.place to_ s.time) _) _ = _
  rw [ref09_Go_eq hn _ _ _ ht, bnd_some, bnd_some]
  by_cases h0 : (goN x.net t.profile s.place to_ s.time).2.2 = 0
  · have hb := goN_bd hn ht h0
    unfold inT at ht
    rw [br_pos (by simpa using h0), if_neg (by simpa using h0)]
    simp (disch := omega) only [addI, subI, br_if, gtI_t]
    split
    · rfl
    · split <;> rfl
  · rw [br_neg (by simpa using h0), if_pos h0]
/-- The reference's state at a departure. -/
def stS (t : T_api_Type) (stops : List T_api_Stop) (l : T_drive_label) (k : Nat) (b : Bool) : T_lorryref18_state := T_lorryref18_state.mk (fromP t stops k) (depS t l b) (sinS l b) l.sheet.miles
theorem patch_last {ts : List T_api_Time} {a m d : Int} {e : Bool} {dep : Int} : patch (ts ++ [T_api_Time.mk a m d e]) ts.length dep b = ts ++ [T_api_Time.mk a m dep b] := by
  unfold patch
  rw [List.getElem?_append_right (Nat.le_refl _), Nat.sub_self]
  show (ts ++ [T_api_Time.mk a m d e]).set ts.length (T_api_Time.mk a m dep b) = _
  rw [List.set_append_right _ _ (Nat.le_refl _), Nat.sub_self]
  rfl
theorem stop_at {x : T_api_Instance} {r : T_api_Route} (hp : possS x r = true) (hk : k < r.visits.length) : ∃ v, r.visits[k]? = some v ∧ lorryref18_stop x v = some (stopK t (stopsOf x r) k, true) := by
  obtain ⟨v, h1, h2⟩ := stops_at hp (stopK_lt (t := t) (by rw [stops_len]; exact hk))
  exact ⟨v, h1, by rw [ref_stop_eq, h2]⟩
/-- A step of the reference is the program's. -/
theorem step_nxt {x : T_api_Instance} {to_ close late : Int} (hx : InstOK x) (hT : TripOK x.net t stops) (hL : LabI k l) (hk : k ≤ 20) (h1 : (stopK t stops k).place = to_) (h2 : (stopK t stops k).close = close) (h3 : (if k < stops.length then 14 else 15) = late) :
    ∃ X, lorryref18_step x t (stS t stops l k b) to_ close late = some X ∧ X.2 = (nxt x.net t stops l k b).2 ∧
      ((nxt x.net t stops l k b).2 = 0 → X = (T_lorryref18_state.mk to_ (goN x.net t.profile (fromP t stops k) (stopK t stops k).place (depS t l b)).1 (sinS l b + (goN x.net t.profile (fromP t stops k) (stopK t stops k).place (depS t l b)).1 - depS t l b) (l.sheet.miles + (goN x.net t.profile (fromP t stops k) (stopK t stops k).place (depS t l b)).2.1), 0)) := by
  have hin := dep_in (rest := b) hT hL
  have hsn : 0 ≤ sinS l b ∧ sinS l b ≤ 4096 := by have := hL.since0; have := hL.since1; unfold sinS; split <;> omega
  have hm0 := hL.miles0; have hm1 := hL.miles1
  have hstep := step_eq (t := t) (s := stS t stops l k b) hx.net hin hsn ⟨hm0, by show l.sheet.miles ≤ 1000000; omega⟩ to_ close late
  subst h1 h2 h3
  refine ⟨_, hstep, ?_, fun h0 => ?_⟩
  · unfold nxt nxtD
    show (if (goN x.net t.profile (fromP t stops k) (stopK t stops k).place (depS t l b)).2.2 ≠ 0 then _ else if (stopK t stops k).close < (goN x.net t.profile (fromP t stops k) (stopK t stops k).place (depS t l b)).1 then _ else if t.drive < sinS l b + (goN x.net t.profile (fromP t stops k) (stopK t stops k).place (depS t l b)).1 - depS t l b then _ else _ : T_lorryref18_state × Int).2 = _
    split
    · rfl
    · split
      · rfl
      · split <;> rfl
  · obtain ⟨g0, g1, g2, g3⟩ := nxt_ok hT hL h0
    show (if (goN x.net t.profile (fromP t stops k) (stopK t stops k).place (depS t l b)).2.2 ≠ 0 then _ else if (stopK t stops k).close < (goN x.net t.profile (fromP t stops k) (stopK t stops k).place (depS t l b)).1 then _ else if t.drive < sinS l b + (goN x.net t.profile (fromP t stops k) (stopK t stops k).place (depS t l b)).1 - depS t l b then _ else _ : T_lorryref18_state × Int) = _
    rw [if_neg (by simpa using g0), if_neg (by omega), if_neg (by omega)]
    rfl
theorem ref_run_eq {x : T_api_Instance} {r : T_api_Route} {rests : List Bool} (hx : InstOK x) (hv : r.visits.length ≤ 1048576) : lorryref18_run x r rests = some (if possS x r = true ∧ rests.length = r.visits.length + 1 then
      ((runS x.net (typS x r) (stopsOf x r) r.start rests).1, if (runS x.net (typS x r) (stopsOf x r) r.start rests).2 = 0 then runD x.net (typS x r) (stopsOf x r) rests 0 (begS (typS x r) r.start) else [], (runS x.net (typS x r) (stopsOf x r) r.start rests).2) else (zSheet, [], 2)) := by
  unfold lorryref18_run
  show bnd (lorryref18_Possible x r) _ = _
  rw [poss_eq, bnd_some]
  have hadd : addK .i64 (lenI r.visits) 1 = (r.visits.length : Int) + 1 := by unfold lenI; exact addI (by omega) (by omega)
  rw [hadd]
  by_cases hc : possS x r = true ∧ rests.length = r.visits.length + 1
  · obtain ⟨hp, hr⟩ := hc
    have h5 := of_decide_eq_true (poss_pre hp)
    have hT := tripOK hx hp
    rw [if_pos ⟨hp, hr⟩, hp, br_neg (by simp only [Bool.not_true, Bool.false_or, neI_f, lenI]; omega), (typ_get (poss_pre hp)).1, bnd_some]
    have e0 : rests[0]? = some (rests[0]'(by omega)) := List.getElem?_eq_getElem _
    rw [show getI rests 0 = some (rests[0]'(by omega)) from getI_nat (k := 0) e0, bnd_some]
    have hL0 := beg_lab hT ⟨h5.2.2.1, h5.2.2.2.1⟩
    have hrest : ∀ (s : T_lorryref18_state) (b : Bool), 0 ≤ s.time ∧ s.time ≤ 20000 → lorryref18_rest (typS x r) s b = some (T_lorryref18_state.mk s.place (s.time + (if b = true then (typS x r).rest_ else 0)) (if b = true then 0 else s.driven) s.miles) := by
      intro s b hs
      have := hT.rest
      unfold lorryref18_rest
      cases b with
      | true => rw [br_true, addI (by omega) (by omega)]; rfl
      | false => rw [br_false]; simp
    have hmx : maxI (typS x r).open_ r.start = (begS (typS x r) r.start).ready := by rw [maxI_eq]; rfl
    rw [hmx, hrest _ _ ⟨hL0.ready0, by have := hL0.ready1; show (begS (typS x r) r.start).ready ≤ 20000; omega⟩, bnd_some]
    generalize hb0 : rests[0]'(by omega) = b0 at e0
    have hst0 : T_lorryref18_state.mk (typS x r).from_ ((begS (typS x r) r.start).ready + (if b0 = true then (typS x r).rest_ else 0)) (if b0 = true then 0 else 0) 0 = stS (typS x r) (stopsOf x r) (begS (typS x r) r.start) 0 b0 := rfl
    show bnd (loopF _ ([], [], T_lorryref18_state.mk (typS x r).from_ ((begS (typS x r) r.start).ready + (if b0 = true then (typS x r).rest_ else 0)) (if b0 = true then 0 else 0) 0, depS (typS x r) (begS (typS x r) r.start) b0, 0)) _ = _
    rw [hst0]
    apply post.eq
    have hsl := stops_len (x := x) (r := r)
    -- what the loop over the visits comes to
    refine post_bnd (R := fun e : (List Int × List T_api_Time × T_lorryref18_state × Int) ⊕ (T_api_Sheet × List Int × Int) =>
      (∃ err, err ≠ 0 ∧ e = .inr (zSheet, [], err) ∧ (runK x.net (typS x r) (stopsOf x r) rests 0 (begS (typS x r) r.start)).2 = err) ∨
      (∃ (l : T_drive_label) (b : Bool) (dr : List Int) (dep : Int), LabI r.visits.length l ∧ e = .inl (dr, timesS l r.visits.length (depS (typS x r) l b) b, stS (typS x r) (stopsOf x r) l r.visits.length b, dep) ∧ dr.length = r.visits.length ∧
        (if r.visits.length = 0 then b else l.sheet.rest_) = b0 ∧ (if r.visits.length = 0 then depS (typS x r) l b else l.sheet.depart) = dep ∧
        runK x.net (typS x r) (stopsOf x r) [b] r.visits.length l = runK x.net (typS x r) (stopsOf x r) rests 0 (begS (typS x r) r.start) ∧
        dr ++ runD x.net (typS x r) (stopsOf x r) [b] r.visits.length l = runD x.net (typS x r) (stopsOf x r) rests 0 (begS (typS x r) r.start))) ?_ ?_
    · refine post_loop (fun s => ∃ (k : Nat) (l : T_drive_label) (b : Bool) (dr : List Int) (dep : Int), k ≤ r.visits.length ∧ LabI k l ∧ rests[k]? = some b ∧ s = (dr, timesS l k (depS (typS x r) l b) b, stS (typS x r) (stopsOf x r) l k b, dep, (k : Int)) ∧ dr.length = k ∧
        (if k = 0 then b else l.sheet.rest_) = b0 ∧ (if k = 0 then depS (typS x r) l b else l.sheet.depart) = dep ∧
        runK x.net (typS x r) (stopsOf x r) (rests.drop k) k l = runK x.net (typS x r) (stopsOf x r) rests 0 (begS (typS x r) r.start) ∧
        dr ++ runD x.net (typS x r) (stopsOf x r) (rests.drop k) k l = runD x.net (typS x r) (stopsOf x r) rests 0 (begS (typS x r) r.start)) (fun s => r.visits.length - s.2.2.2.2.toNat)
        ⟨0, _, b0, [], _, Nat.zero_le _, hL0, e0, rfl, rfl, rfl, rfl, rfl, rfl⟩ (by simp; omega) ?_
      rintro _ ⟨k, l, b, dr, dep, hk, hL, hbk, rfl, hdr, hq1, hq2, hf, hfd⟩
      show post (lorryref18_run_L1 x r rests (typS x r) b0 dr (timesS l k (depS (typS x r) l b) b) (stS (typS x r) (stopsOf x r) l k b) dep (k : Int)) _
      unfold lorryref18_run_L1
      have hkr : k < rests.length := (List.getElem?_eq_some_iff.1 hbk).1
      have hcons : rests.drop k = b :: rests.drop (k + 1) := by
        rw [List.drop_eq_getElem_cons hkr]; congr 1; rw [List.getElem?_eq_getElem hkr] at hbk; exact Option.some.inj hbk
      refine post_br (fun hb => ?_) (fun hb => post_inr (.inr ?_))
      · simp only [ltI_t, lenI] at hb
        have hk' : k < r.visits.length := by omega
        obtain ⟨v, hv1, hv2⟩ := stop_at (t := typS x r) hp hk'
        rw [hcons] at hf hfd
        simp only [runK, runD] at hf hfd
        rw [getI_nat hv1, bnd_some]
        show post (bnd (lorryref18_stop x v) fun r3 => bnd (lorryref18_step x (typS x r) (stS (typS x r) (stopsOf x r) l k b) r3.1.place r3.1.close 14) _) _
        have hin := dep_in (rest := b) hT hL
        have hsn : 0 ≤ sinS l b ∧ sinS l b ≤ 4096 := by have := hL.since0; have := hL.since1; unfold sinS; split <;> omega
        have hm0 := hL.miles0; have hm1 := hL.miles1
        obtain ⟨X, hX1, hX2, hX3⟩ := step_nxt (b := b) hx hT hL (by have := h5.2.2.2.2; omega) (to_ := (stopK (typS x r) (stopsOf x r) k).place) (close := (stopK (typS x r) (stopsOf x r) k).close) (late := 14) rfl rfl (by rw [if_pos (by rw [hsl]; exact hk')])
        rw [hv2, bnd_some, hX1, bnd_some]
        by_cases h0 : (nxt x.net (typS x r) (stopsOf x r) l k b).2 = 0
        · obtain ⟨g0, g1, g2, g3⟩ := nxt_ok hT hL h0
          have hL' := nxt_lab hT hL (by rw [hsl]; exact hk') h0
          have hX4 := hX3 h0
          rw [if_neg (by simpa using h0)] at hf
          have hb1 : rests[k + 1]? = some (rests[k + 1]'(by omega)) := List.getElem?_eq_getElem _
          have hgb := goN_bd hx.net hin g0
          have hS := hT.stopK k
          have h51 := hS.open0; have h52 := hS.open1; have h53 := hS.close; have h54 := hS.serv0; have h55 := hS.serv1
          have hin' := hin
          unfold inT at hin'
          rw [br_neg (by rw [hX2]; simpa using h0), hX4]
          simp only
          have hkl : k < (stopsOf x r).length := by rw [hsl]; exact hk'
          have hplace : fromP (typS x r) (stopsOf x r) (k + 1) = (stopK (typS x r) (stopsOf x r) k).place := by
            show ((stopsOf x r).getD k zStop).place = ((stopsOf x r).getD k (endS (typS x r))).place
            rw [List.getD_eq_getElem?_getD, List.getD_eq_getElem?_getD, List.getElem?_eq_getElem hkl]; rfl
          generalize hgg : goN x.net (typS x r).profile (fromP (typS x r) (stopsOf x r) k) (stopK (typS x r) (stopsOf x r) k).place (depS (typS x r) l b) = g at *
          generalize hl' : (nxt x.net (typS x r) (stopsOf x r) l k b).1 = l' at *
          have hdrl : (dr ++ [sinS l b + g.1 - depS (typS x r) l b]).length = k + 1 := by rw [List.length_append, hdr]; rfl
          refine post_chk (okN_of (by rw [hdrl]; omega)) ?_
          rw [inc (n := r.visits.length) hk' (by omega), show (k : Int) + 1 = ((k + 1 : Nat) : Int) by omega, getI_nat hb1, bnd_some]
          generalize rests[k + 1]'(by omega) = b' at hb1
          rw [maxI_eq, addI (by omega) (by omega), hrest _ _ ⟨by show 0 ≤ max g.1 _ + _; omega, by show max g.1 _ + _ ≤ 20000; omega⟩, bnd_some]
          refine post_chk (okN_of (by rw [List.length_append, timesS_len, hL.times]; simp; omega)) (post_inl ⟨⟨k + 1, l', b', dr ++ [sinS l b + g.1 - depS (typS x r) l b], dep, by omega, hL', hb1, ?_, hdrl, ?_, ?_, hf, ?_⟩, by simp; omega⟩)
          · rw [g3]
            have ht1 : (timesS l k (depS (typS x r) l b) b).length = k := by rw [timesS_len, hL.times]
            have ht2 : timesS (T_drive_label.mk (max g.1 (stopK (typS x r) (stopsOf x r) k).open_ + (stopK (typS x r) (stopsOf x r) k).service) (sinS l b + g.1 - depS (typS x r) l b) (shS (typS x r) (stopsOf x r) l k b (depS (typS x r) l b) g)) (k + 1) (max g.1 (stopK (typS x r) (stopsOf x r) k).open_ + (stopK (typS x r) (stopsOf x r) k).service + (if b' = true then (typS x r).rest_ else 0)) b' =
                timesS l k (depS (typS x r) l b) b ++ [T_api_Time.mk g.1 (max g.1 (stopK (typS x r) (stopsOf x r) k).open_) (max g.1 (stopK (typS x r) (stopsOf x r) k).open_ + (stopK (typS x r) (stopsOf x r) k).service + (if b' = true then (typS x r).rest_ else 0)) b'] := by
              show patch (if k < (stopsOf x r).length then timesS l k (depS (typS x r) l b) b ++ [T_api_Time.mk g.1 (max g.1 (stopK (typS x r) (stopsOf x r) k).open_) 0 false] else _) k _ b' = _
              rw [if_pos hkl]
              have := patch_last (b := b') (ts := timesS l k (depS (typS x r) l b) b) (a := g.1) (m := max g.1 (stopK (typS x r) (stopsOf x r) k).open_) (d := 0) (e := false) (dep := max g.1 (stopK (typS x r) (stopsOf x r) k).open_ + (stopK (typS x r) (stopsOf x r) k).service + (if b' = true then (typS x r).rest_ else 0))
              rw [ht1] at this
              exact this
            show (_, _, _, _, _) = (_, timesS _ (k + 1) (max g.1 (stopK (typS x r) (stopsOf x r) k).open_ + (stopK (typS x r) (stopsOf x r) k).service + (if b' = true then (typS x r).rest_ else 0)) b', _, _, _)
            rw [ht2]
            unfold stS
            rw [hplace]
            rfl
          · rw [if_neg (by omega), g3]; exact hq1
          · rw [if_neg (by omega), g3]; exact hq2
          · rw [← hfd, List.append_assoc, g3]; rfl
        · rw [br_pos (by rw [hX2]; simpa using h0), hX2]
          rw [if_pos h0] at hf
          exact post_inr (.inl ⟨_, h0, rfl, by rw [← hf]⟩)
      · simp only [ltI_f, lenI] at hb
        have hkv : k = r.visits.length := by omega
        subst hkv
        have hd1 : rests.drop (r.visits.length + 1) = [] := List.drop_eq_nil_of_le (by omega)
        rw [hcons, hd1] at hf hfd
        exact ⟨l, b, dr, dep, hL, rfl, hdr, hq1, hq2, hf, hfd⟩
    · unfold runS
      rintro e (⟨err, h1, rfl, h2⟩ | ⟨l, b, dr, dep, hL, rfl, hdr, hq1, hq2, hf, hfd⟩)
      · rw [sel_inr, h2, if_pos h1]
        refine post_some.2 ?_
        simp only
        rw [if_neg h1]
      · rw [sel_inl]
        obtain ⟨X, hX1, hX2, hX3⟩ := step_nxt (b := b) hx hT hL (by have := h5.2.2.2.2; omega) (to_ := (typS x r).to_) (close := (typS x r).close) (late := 15) (by rw [stopK_end (by rw [hsl]; omega)]; rfl) (by rw [stopK_end (by rw [hsl]; omega)]; rfl) (by rw [if_neg (by rw [hsl]; omega)])
        show post (bnd (lorryref18_step x (typS x r) (stS (typS x r) (stopsOf x r) l r.visits.length b) (typS x r).to_ (typS x r).close 15) _) _
        rw [hX1, bnd_some]
        simp only [runK, runD] at hf hfd
        by_cases h0 : (nxt x.net (typS x r) (stopsOf x r) l r.visits.length b).2 = 0
        · obtain ⟨g0, g1, g2, g3⟩ := nxt_ok hT hL h0
          rw [if_neg (by simpa using h0)] at hf
          rw [br_neg (by rw [hX2]; simpa using h0), hX3 h0, ← hf, ← hfd]
          refine post_chk (okN_of (by simp; omega)) (post_some.2 ?_)
          simp only [ne_eq, not_true_eq_false, if_false, if_true]
          rw [g3]
          unfold shS
          have hnl : ¬ r.visits.length < (stopsOf x r).length := by rw [hsl]; omega
          rw [hq1, hq2, if_neg hnl, if_neg hnl]
        · rw [if_pos h0] at hf
          rw [br_pos (by rw [hX2]; simpa using h0), ← hf, hX2]
          refine post_some.2 ?_
          simp only
          rw [if_pos h0, if_neg h0]; rfl
  · rw [if_neg hc]
    rw [br_pos]
    · rfl
    · by_cases hp : possS x r = true
      · simp only [hp, Bool.not_true, Bool.false_or, neI_t, lenI]
        intro h; exact hc ⟨hp, by omega⟩
      · simp [hp]
end
end Go.Proofs.YtjhhlmmmkgnhmaaDoor
