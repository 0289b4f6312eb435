/- Plain: DriveChecks answers true. -/
import Derived.Test.YtjhhlmmmkgnhmaaDoorRqoT
namespace Go.Proofs.YtjhhlmmmkgnhmaaDoor
set_option linter.unusedSimpArgs false
set_option linter.unusedVariables false
set_option linter.unusedSectionVars false
/-- Two lists compared. -/
theorem eq_loop {α : Type} [DecidableEq α] {l m : List α} (hl : l.length ≤ 1048576) (hm : l.length = m.length) {B : Int → Option (Int ⊕ (Unit ⊕ Bool))}
    (hB : ∀ (i : Nat) (x y : α), l[i]? = some x → m[i]? = some y → B i = br (decide (x = y)) (some (.inl (addK .i64 i 1))) (some (.inr (.inr false)))) (hE : B l.length = some (.inr (.inl ()))) :
    loopF B 0 = some (if l = m then .inl () else .inr false) := by
  apply post.eq
  refine post_scan l.length _ (fun i => l[i]? = m[i]?) (by omega) (fun i hi => ?_) ?_
  · have e1 : l[i]? = some l[i] := List.getElem?_eq_getElem hi
    have e2 : m[i]? = some (m[i]'(by omega)) := List.getElem?_eq_getElem _
    rw [hB i _ _ e1 e2]
    refine post_br (fun h => post_some.2 (.inl ⟨by rw [inc hi hl], by rw [e1, e2, of_decide_eq_true h]⟩)) (fun h => post_some.2 (.inr ⟨_, rfl, ?_⟩))
    rw [if_neg]
    rintro rfl
    exact of_decide_eq_false h rfl
  · rw [hE]
    refine post_some.2 ⟨_, rfl, fun h => ?_⟩
    rw [if_pos]
    apply List.ext_getElem?
    intro i
    rcases Nat.lt_or_ge i l.length with hi | hi
    · exact h i hi
    · rw [List.getElem?_eq_none hi, List.getElem?_eq_none (by omega)]
theorem time_dec (x y : T_api_Time) : (eqI x.arrive y.arrive && (eqI x.begin y.begin && (eqI x.depart y.depart && (eqB x.rest_ y.rest_ && true)))) = decide (x = y) := by
  rw [Bool.eq_iff_iff, decide_eq_true_iff]
  cases x; cases y
  simp [eqI, eqB]
theorem times_eq {a b : List T_api_Time} (h : a.length ≤ 1048576) : api_Time__f94 a b = some (decide (a = b)) := by
  unfold api_Time__f94
  by_cases hl : a.length = b.length
  · rw [br_neg (by simp only [neI_f, lenI]; omega)]
    have := eq_loop (l := a) (m := b) h hl (B := fun s => api_Time__f94_L1 a b s) (fun i x y hx hy => by
      show api_Time__f94_L1 a b (i : Int) = _
      unfold api_Time__f94_L1
      have := (List.getElem?_eq_some_iff.1 hx).1
      rw [br_pos (by simp [lenI]; omega), getI_nat hx, bnd_some, getI_nat hy, bnd_some, time_dec]) (by
      show api_Time__f94_L1 a b (a.length : Int) = _
      unfold api_Time__f94_L1
      rw [br_neg (by simp [lenI])])
    rw [this, bnd_some]
    by_cases he : a = b
    · rw [if_pos he, sel_inl, decide_eq_true he]
    · rw [if_neg he, sel_inr, decide_eq_false he]
  · rw [br_pos (by simp only [neI_t, lenI]; omega), decide_eq_false (fun e => hl (by rw [e]))]
theorem sheet_dec {a b : T_api_Sheet} : a = b ↔ a.rest_ = b.rest_ ∧ a.depart = b.depart ∧ a.times = b.times ∧ a.end_ = b.end_ ∧ a.miles = b.miles := by
  cases a; cases b; simp
theorem dsame_eq {a b : T_api_Sheet} (h : a.times.length ≤ 1048576) : drive_same a b = some (decide (a = b)) := by
  unfold drive_same
  rw [times_eq h, bnd_some]
  by_cases hc : a.rest_ = b.rest_ ∧ a.depart = b.depart ∧ a.end_ = b.end_ ∧ a.miles = b.miles
  · rw [br_pos (by simp only [andT, eqB_t, eqI_t]; exact ⟨⟨⟨hc.1, hc.2.1⟩, hc.2.2.1⟩, hc.2.2.2⟩)]
    congr 1
    rw [Bool.eq_iff_iff, decide_eq_true_iff, decide_eq_true_iff, sheet_dec]
    exact ⟨fun h => ⟨hc.1, hc.2.1, h, hc.2.2⟩, fun h => h.2.2.1⟩
  · rw [br_neg (by
      rw [Bool.eq_false_iff]
      simp only [ne_eq, andT, eqB_t, eqI_t]
      exact fun h => hc ⟨h.1.1.1, h.1.1.2, h.1.2, h.2⟩), decide_eq_false (fun e => hc (by rw [e]; exact ⟨rfl, rfl, rfl, rfl⟩))]
theorem same18_eq {a b : T_api_Sheet} (h : a.times.length ≤ 1048576) : lorryref18_Same a b = some (decide (a = b)) := by
  by_cases he : a = b
  · rw [decide_eq_true he, ← he, same18_refl h]
  · rw [decide_eq_false he]
    unfold lorryref18_Same
    by_cases hl : a.times.length = b.times.length
    · refine (?_ : br _ _ _ = _)
      cases hb : (((((!eqB a.rest_ b.rest_) || (neI a.depart b.depart)) || (neI a.end_ b.end_)) || (neI a.miles b.miles)) || (neI (lenI a.times) (lenI b.times))) with
      | true => rfl
      | false =>
        rw [br_false]
        have := eq_loop (l := a.times) (m := b.times) h hl (B := fun s => lorryref18_Same_L1 a b s) (fun i x y hx hy => by
          show lorryref18_Same_L1 a b (i : Int) = _
          unfold lorryref18_Same_L1
          have := (List.getElem?_eq_some_iff.1 hx).1
          rw [br_pos (by simp [lenI]; omega), getI_nat hx, bnd_some, getI_nat hy, bnd_some, time_dec]) (by
          show lorryref18_Same_L1 a b (a.times.length : Int) = _
          unfold lorryref18_Same_L1
          rw [br_neg (by simp [lenI])])
        rw [this, bnd_some, if_neg, sel_inr]
        intro ht
        simp only [orF, ntF, eqB_t, neI_f] at hb
        exact he (sheet_dec.2 ⟨hb.1.1.1.1, hb.1.1.1.2, ht, hb.1.1.2, hb.1.2⟩)
    · rw [br_pos (by simp only [orT, neI_t, lenI]; right; omega)]
/-- The rests of a schedule. -/
def restsOf (s : T_api_Sheet) : List Bool := s.rest_ :: s.times.map (·.rest_)
theorem rests_loop {s0 : T_api_Sheet} (h : s0.times.length ≤ 1048576) {B : List Bool × Int → Option ((List Bool × Int) ⊕ List Bool)}
    (hB : ∀ l v, B (l, v) = br (ltI v (lenI s0.times)) (bnd (getI s0.times v) fun x0 => chk (okN (l ++ [x0.rest_]).length 1) (some (.inl ((l ++ [x0.rest_]), (addK .i64 v 1))))) (some (.inr l))) : loopF B ([s0.rest_], 0) = some (restsOf s0) := by
  have e : loopF B ((fun i : Nat => (s0.rest_ :: (s0.times.take i).map (·.rest_), (i : Int))) 0) = some (restsOf s0) := by
    refine loop_for s0.times.length (fun i : Nat => (s0.rest_ :: (s0.times.take i).map (·.rest_), (i : Int))) (by omega) (fun i hi => ?_) ?_
    · have e1 : s0.times[i]? = some s0.times[i] := List.getElem?_eq_getElem hi
      show B (_, _) = some (.inl (_, _))
      rw [hB, br_pos (by simp [lenI]; exact hi), getI_nat e1, bnd_some, chk_pos (okN_of (by simp; omega)), inc hi h, List.take_add_one, e1, List.map_append]
      simp
    · show B (_, _) = _
      rw [hB, br_neg (by simp [lenI]), List.take_length]
      rfl
  simpa using e
theorem drive_rests_eq {s : T_api_Sheet} (h : s.times.length ≤ 1048576) : drive_rests s = some (restsOf s) := by
  unfold drive_rests
  rw [rests_loop h (fun _ _ => rfl), bnd_some]
theorem ref_rests_eq {s : T_api_Sheet} (h : s.times.length ≤ 1048576) : lorryref18_Rests s = some (restsOf s) := by
  unfold lorryref18_Rests
  rw [rests_loop h (fun _ _ => rfl), bnd_some]
theorem bools_eq {a b : List Bool} (h : a.length ≤ 1048576) : slices_Equal___bool_bool_ a b = some (decide (a = b)) := by
  unfold slices_Equal___bool_bool_
  by_cases hl : a.length = b.length
  · rw [br_neg (by simp only [neI_f, lenI]; omega)]
    have := eq_loop (l := a) (m := b) h hl (B := fun s => slices_Equal___bool_bool__L1 a b s) (fun i x y hx hy => by
      show slices_Equal___bool_bool__L1 a b (i : Int) = _
      unfold slices_Equal___bool_bool__L1
      have := (List.getElem?_eq_some_iff.1 hx).1
      rw [br_pos (by simp [lenI]; omega), getI_nat hx, bnd_some, getI_nat hy, bnd_some]
      rfl) (by
      show slices_Equal___bool_bool__L1 a b (a.length : Int) = _
      unfold slices_Equal___bool_bool__L1
      rw [br_neg (by simp [lenI])])
    rw [this, bnd_some]
    by_cases he : a = b
    · rw [if_pos he, sel_inl, decide_eq_true he]
    · rw [if_neg he, sel_inr, decide_eq_false he]
  · rw [br_pos (by simp only [neI_t, lenI]; omega), decide_eq_false (fun e => hl (by rw [e]))]
/-- Is a schedule that of a route? -/
noncomputable def validS (x : T_api_Instance) (r : T_api_Route) (s : T_api_Sheet) : Int :=
  if possS x r = true ∧ r.rests.length ≤ r.visits.length + 1 ∧ s.times.length = r.visits.length then
    if (restsOf s).take r.rests.length = r.rests then
      if (runR x r (restsOf s)).2 ≠ 0 then (runR x r (restsOf s)).2 else if s = (runR x r (restsOf s)).1 then 0 else 9
    else 9
  else 2
section
variable {x : T_api_Instance} {r : T_api_Route} {s : T_api_Sheet}
theorem restsOf_len : (restsOf s).length = s.times.length + 1 := by simp [restsOf]
theorem valid_eq (hx : InstOK x) (hv : r.visits.length ≤ 1048576) (hr : r.rests.length ≤ 1048576) (hs : s.times.length ≤ 1048576) : drive_Valid x r s = some (validS x r s) := by
  unfold drive_Valid validS
  show bnd (drive_plan x r) _ = _
  have hadd : addK .i64 (lenI r.visits) 1 = (r.visits.length : Int) + 1 := by unfold lenI; exact addI (by omega) (by omega)
  rw [plan_eq, bnd_some, hadd]
  by_cases hp : possS x r = true
  · rw [if_pos hp]
    by_cases hc : r.rests.length ≤ r.visits.length + 1 ∧ s.times.length = r.visits.length
    · rw [if_pos ⟨hp, hc⟩, br_neg (by simp only [Bool.not_true, Bool.false_or, orF, gtI_f, neI_f, lenI]; omega), drive_rests_eq hs, bnd_some]
      have hsl : slcI (restsOf s) 0 (lenI r.rests) = some ((restsOf s).take r.rests.length) := by
        unfold slcI lenI
        rw [if_pos ⟨by omega, by omega, by rw [restsOf_len]; omega⟩]
        simp
      rw [hsl, bnd_some, bools_eq (by rw [List.length_take, restsOf_len]; omega), bnd_some]
      by_cases ht : (restsOf s).take r.rests.length = r.rests
      · rw [if_pos ht, decide_eq_true ht, br_true]
        have h5 := of_decide_eq_true (poss_pre hp)
        have hrun : drive_trip_run (T_drive_trip.mk x (typS x r) r (stopsOf x r)) (restsOf s) = some (runR x r (restsOf s)) := by
          have hl : (restsOf s).length = r.visits.length + 1 := by rw [restsOf_len, hc.2]
          unfold runR
          rw [if_pos ⟨hp, hl⟩]
          exact run_eq (p := T_drive_trip.mk x (typS x r) r (stopsOf x r)) (tripOK hx hp) ⟨h5.2.2.1, h5.2.2.2.1⟩ (by rw [hl]; show _ = (stopsOf x r).length + 1; rw [stops_len])
        show bnd (drive_trip_run (T_drive_trip.mk x (typS x r) r (stopsOf x r)) (restsOf s)) _ = _
        rw [hrun, bnd_some]
        by_cases h0 : (runR x r (restsOf s)).2 = 0
        · rw [br_neg (by simpa using h0), if_neg (by simpa using h0), dsame_eq hs, bnd_some]
          by_cases he : s = (runR x r (restsOf s)).1
          · rw [if_pos he, decide_eq_true he]; rfl
          · rw [if_neg he, decide_eq_false he]; rfl
        · rw [br_pos (by simpa using h0), if_pos h0]
      · rw [if_neg ht, decide_eq_false ht]; rfl
    · rw [if_neg (fun h => hc h.2), br_pos (by simp only [Bool.not_true, Bool.false_or, orT, gtI_t, neI_t, lenI]; omega)]
  · rw [if_neg hp, if_neg (fun h => hp h.1), br_pos (by simp [zTrip])]
/-- The driving times of a schedule that is valid. -/
noncomputable def sinceS (x : T_api_Instance) (r : T_api_Route) (s : T_api_Sheet) : List Int := if validS x r s = 0 then runD x.net (typS x r) (stopsOf x r) (restsOf s) 0 (begS (typS x r) r.start) else []
theorem v2 (h : ¬ (possS x r = true ∧ r.rests.length ≤ r.visits.length + 1 ∧ s.times.length = r.visits.length)) : validS x r s = 2 := if_neg h
theorem v9 (h : possS x r = true ∧ r.rests.length ≤ r.visits.length + 1 ∧ s.times.length = r.visits.length) (ht : ¬ (restsOf s).take r.rests.length = r.rests) : validS x r s = 9 := by unfold validS; rw [if_pos h, if_neg ht]
theorem vE (h : possS x r = true ∧ r.rests.length ≤ r.visits.length + 1 ∧ s.times.length = r.visits.length) (ht : (restsOf s).take r.rests.length = r.rests) (h0 : (runR x r (restsOf s)).2 ≠ 0) : validS x r s = (runR x r (restsOf s)).2 := by unfold validS; rw [if_pos h, if_pos ht, if_pos h0]
theorem vS (h : possS x r = true ∧ r.rests.length ≤ r.visits.length + 1 ∧ s.times.length = r.visits.length) (ht : (restsOf s).take r.rests.length = r.rests) (h0 : (runR x r (restsOf s)).2 = 0) : validS x r s = if s = (runR x r (restsOf s)).1 then 0 else 9 := by unfold validS; rw [if_pos h, if_pos ht, if_neg (by simpa using h0)]
theorem since_no (h : validS x r s ≠ 0) : sinceS x r s = [] := if_neg h
theorem since_yes (h : validS x r s = 0) : sinceS x r s = runD x.net (typS x r) (stopsOf x r) (restsOf s) 0 (begS (typS x r) r.start) := if_pos h
theorem ref_check_eq (hx : InstOK x) (hv : r.visits.length ≤ 1048576) (hr : r.rests.length ≤ 1048576) (hs : s.times.length ≤ 1048576) : lorryref18_check x r s = some (sinceS x r s, validS x r s) := by
  unfold lorryref18_check
  show bnd (lorryref18_Possible x r) _ = _
  have hadd : addK .i64 (lenI r.visits) 1 = (r.visits.length : Int) + 1 := by unfold lenI; exact addI (by omega) (by omega)
  rw [poss_eq, bnd_some, hadd]
  by_cases hp : possS x r = true
  · rw [hp]
    by_cases hc : r.rests.length ≤ r.visits.length + 1 ∧ s.times.length = r.visits.length
    · rw [br_neg (by simp only [Bool.not_true, Bool.false_or, orF, gtI_f, neI_f, lenI]; omega), ref_rests_eq hs, bnd_some]
      have hrl := restsOf_len (s := s)
      have hloop : loopF (fun s' => lorryref18_check_L1 x r s (restsOf s) s') 0 = some (if (restsOf s).take r.rests.length = r.rests then .inl () else .inr ([], 9)) := by
        apply post.eq
        refine post_scan (B := fun s' => lorryref18_check_L1 x r s (restsOf s) s') r.rests.length _ (fun i => r.rests[i]? = (restsOf s)[i]?) (by omega) (fun i hi => ?_) ?_
        · show post (lorryref18_check_L1 x r s (restsOf s) (i : Int)) _
          unfold lorryref18_check_L1
          have e1 : r.rests[i]? = some r.rests[i] := List.getElem?_eq_getElem hi
          have e2 : (restsOf s)[i]? = some ((restsOf s)[i]'(by omega)) := List.getElem?_eq_getElem _
          rw [br_pos (by simp [lenI]; exact hi), getI_nat e1, bnd_some, getI_nat e2, bnd_some]
          refine post_br (fun h => post_some.2 (.inl ⟨by rw [inc hi (by omega)], by rw [e1, e2, eqB_t.1 h]⟩)) (fun h => post_some.2 (.inr ⟨_, rfl, ?_⟩))
          rw [if_neg (c := (restsOf s).take r.rests.length = r.rests)]
          intro ht
          have e3 : ((restsOf s).take r.rests.length)[i]? = some ((restsOf s)[i]'(by omega)) := by rw [List.getElem?_take_of_lt hi]; exact e2
          rw [ht, e1] at e3
          exact eqB_f.1 h (Option.some.inj e3)
        · show post (lorryref18_check_L1 x r s (restsOf s) (r.rests.length : Int)) _
          unfold lorryref18_check_L1
          rw [br_neg (by simp [lenI])]
          refine post_some.2 ⟨_, rfl, fun h => ?_⟩
          rw [if_pos]
          apply List.ext_getElem?
          intro i
          rcases Nat.lt_or_ge i r.rests.length with hi | hi
          · rw [List.getElem?_take_of_lt hi, h i hi]
          · rw [List.getElem?_eq_none hi, List.getElem?_eq_none (by rw [List.length_take]; omega)]
      rw [hloop, bnd_some]
      by_cases ht : (restsOf s).take r.rests.length = r.rests
      · rw [if_pos ht, sel_inl]
        show bnd (lorryref18_run x r (restsOf s)) _ = _
        have hl : (restsOf s).length = r.visits.length + 1 := by rw [hrl, hc.2]
        rw [ref_run_eq hx hv, bnd_some, if_pos ⟨hp, hl⟩]
        have hR : runR x r (restsOf s) = runS x.net (typS x r) (stopsOf x r) r.start (restsOf s) := by unfold runR; rw [if_pos ⟨hp, hl⟩]
        rw [← hR]
        by_cases h0 : (runR x r (restsOf s)).2 = 0
        · have hvs := vS ⟨hp, hc⟩ ht h0
          rw [if_pos h0, br_neg (by simpa using h0), same18_eq hs, bnd_some]
          by_cases he : s = (runR x r (restsOf s)).1
          · rw [if_pos he] at hvs
            rw [decide_eq_true he, since_yes hvs, hvs]; rfl
          · rw [if_neg he] at hvs
            rw [decide_eq_false he, since_no (by rw [hvs]; decide), hvs]; rfl
        · have hvs := vE ⟨hp, hc⟩ ht h0
          rw [br_pos (by simpa using h0), since_no (by rw [hvs]; exact h0), hvs]
      · have hvs := v9 ⟨hp, hc⟩ ht
        rw [if_neg ht, sel_inr, since_no (by rw [hvs]; decide), hvs]
    · have hvs := v2 (x := x) (r := r) (s := s) (fun h => hc h.2)
      rw [br_pos (by simp only [Bool.not_true, Bool.false_or, orT, gtI_t, neI_t, lenI]; omega), since_no (by rw [hvs]; decide), hvs]
  · have hvs := v2 (x := x) (r := r) (s := s) (fun h => hp h.1)
    rw [br_pos (by simp [hp]), since_no (by rw [hvs]; decide), hvs]
end
end Go.Proofs.YtjhhlmmmkgnhmaaDoor
