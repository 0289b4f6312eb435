/- Plain: DriveChecks answers true: the driving times. -/
import Derived.Test.YtjhhlmmmkgnhmaaDoorRqv
namespace Go.Proofs.YtjhhlmmmkgnhmaaDoor
set_option linter.unusedSimpArgs false
set_option linter.unusedVariables false
set_option linter.unusedSectionVars false
section
variable {n : T_api_Network} {t : T_api_Type} {stops : List T_api_Stop} {start : Int} {rests : List Bool}
theorem runD_lab : ∀ (m k : Nat), m + k = rests.length → runD n t stops (rests.drop k) k (labK n t stops start rests k) = (List.range m).map fun j => (labK n t stops start rests (k + j + 1)).since
  | 0, k, hm => by
    obtain rfl : k = rests.length := by omega
    rw [List.drop_length]; rfl
  | m + 1, k, hm => by
    have hk : k < rests.length := by omega
    have hg : rests.getD k false = rests[k] := by rw [List.getD_eq_getElem?_getD, List.getElem?_eq_getElem hk]; rfl
    rw [List.drop_eq_getElem_cons hk]
    simp only [runD]
    rw [← hg]
    have h1 : (nxt n t stops (labK n t stops start rests k) k (rests.getD k false)).1 = labK n t stops start rests (k + 1) := rfl
    rw [h1, runD_lab m (k + 1) (by omega), List.range_succ_eq_map, List.map_cons, List.map_map]
    congr 1
    apply List.map_congr_left
    intro j _
    show (labK n t stops start rests (k + 1 + j + 1)).since = (labK n t stops start rests (k + (j + 1) + 1)).since
    rw [show k + 1 + j = k + (j + 1) by omega]
end
theorem since_eq {x : T_api_Instance} {r : T_api_Route} {s : T_api_Sheet} (hx : InstOK x) (hv : r.visits.length ≤ 1048576) (hr : r.rests.length ≤ 1048576) (hs : s.times.length ≤ 1048576) : drive_Since x r s = some (sinceS x r s, validS x r s) := by
  unfold drive_Since
  show bnd (drive_Valid x r s) _ = _
  rw [valid_eq hx hv hr hs, bnd_some]
  by_cases h0 : validS x r s = 0
  · rw [br_neg (by simpa using h0), since_yes h0, h0]
    -- what a valid schedule is
    have hc : possS x r = true ∧ r.rests.length ≤ r.visits.length + 1 ∧ s.times.length = r.visits.length := Classical.byContradiction fun h => by have := v2 h; omega
    have ht : (restsOf s).take r.rests.length = r.rests := Classical.byContradiction fun h => by have := v9 hc h; omega
    have hrun : (runR x r (restsOf s)).2 = 0 := Classical.byContradiction fun h => by have := vE hc ht h; omega
    have hse : s = (runR x r (restsOf s)).1 := Classical.byContradiction fun h => by have := vS hc ht hrun; rw [if_neg h] at this; omega
    obtain ⟨p1, l1, o1, s1⟩ := runR_ok hx hrun
    obtain ⟨f1, f2, f3⟩ := Okay.final o1
    obtain ⟨q1, q2⟩ := Okay.headr o1 (k := (stopsOf x r).length) (Nat.le_refl _)
    rw [← o1.len, ← s1, ← hse] at q1 q2
    rw [← s1, ← hse] at f1 f2 f3
    have hfew := o1.trip.few
    generalize restsOf s = rests at *
    have hD := runD_lab (n := x.net) (t := typS x r) (stops := stopsOf x r) (start := r.start) (rests := rests) rests.length 0 (by omega)
    have hD' : runD x.net (typS x r) (stopsOf x r) rests 0 (begS (typS x r) r.start) = (List.range rests.length).map fun j => (labK x.net (typS x r) (stopsOf x r) r.start rests (j + 1)).since := by
      rw [show runD x.net (typS x r) (stopsOf x r) rests 0 (begS (typS x r) r.start) = runD x.net (typS x r) (stopsOf x r) (rests.drop 0) 0 (labK x.net (typS x r) (stopsOf x r) r.start rests 0) from rfl, hD]
      apply List.map_congr_left
      intro j _
      rw [Nat.zero_add]
    have hnum : ∀ k, k ≤ (stopsOf x r).length → 0 ≤ sinS (labK x.net (typS x r) (stopsOf x r) r.start rests k) (rests.getD k false) ∧ sinS (labK x.net (typS x r) (stopsOf x r) r.start rests k) (rests.getD k false) ≤ 4096 ∧ 0 ≤ depK x.net (typS x r) (stopsOf x r) r.start rests k ∧ depK x.net (typS x r) (stopsOf x r) r.start rests k ≤ 1073741824 ∧ depK x.net (typS x r) (stopsOf x r) r.start rests k ≤ (goK x.net (typS x r) (stopsOf x r) r.start rests k).1 ∧ (goK x.net (typS x r) (stopsOf x r) r.start rests k).1 ≤ 4096 := fun k hk => by
      have h1 := Okay.lab o1 k hk
      have h2 := h1.since0; have h3 := h1.since1
      have h4 := Okay.dep o1 hk
      have h5 := (Okay.step o1 hk).2.1
      have h6 := (o1.trip.stopK k).close
      unfold inT at h4
      exact ⟨by unfold sinS; split <;> omega, by unfold sinS; split <;> omega, h4.1, h4.2, Okay.go o1 hk, by omega⟩
    have hloop : loopF (fun s' => drive_Since_L1 s s'.1 s'.2.1 s'.2.2.1 s'.2.2.2.1 s'.2.2.2.2) ([], s.depart, 0, s.depart, 0) =
        some ((List.range s.times.length).map (fun j => (labK x.net (typS x r) (stopsOf x r) r.start rests (j + 1)).since), s.depart, sinS (labK x.net (typS x r) (stopsOf x r) r.start rests s.times.length) (rests.getD s.times.length false), depK x.net (typS x r) (stopsOf x r) r.start rests s.times.length) := by
      have e : loopF (fun s' => drive_Since_L1 s s'.1 s'.2.1 s'.2.2.1 s'.2.2.2.1 s'.2.2.2.2) ((fun i : Nat => ((List.range i).map (fun j => (labK x.net (typS x r) (stopsOf x r) r.start rests (j + 1)).since), s.depart, sinS (labK x.net (typS x r) (stopsOf x r) r.start rests i) (rests.getD i false), depK x.net (typS x r) (stopsOf x r) r.start rests i, (i : Int))) 0) =
          some ((List.range s.times.length).map (fun j => (labK x.net (typS x r) (stopsOf x r) r.start rests (j + 1)).since), s.depart, sinS (labK x.net (typS x r) (stopsOf x r) r.start rests s.times.length) (rests.getD s.times.length false), depK x.net (typS x r) (stopsOf x r) r.start rests s.times.length) := by
        refine loop_for s.times.length (fun i : Nat => ((List.range i).map (fun j => (labK x.net (typS x r) (stopsOf x r) r.start rests (j + 1)).since), s.depart, sinS (labK x.net (typS x r) (stopsOf x r) r.start rests i) (rests.getD i false), depK x.net (typS x r) (stopsOf x r) r.start rests i, (i : Int))) (by omega) (fun i hi => ?_) ?_
        · have hil : i < (stopsOf x r).length := by omega
          show drive_Since_L1 s ((List.range i).map (fun j => (labK x.net (typS x r) (stopsOf x r) r.start rests (j + 1)).since)) s.depart (sinS (labK x.net (typS x r) (stopsOf x r) r.start rests i) (rests.getD i false)) (depK x.net (typS x r) (stopsOf x r) r.start rests i) (i : Int) = some (.inl ((List.range (i + 1)).map (fun j => (labK x.net (typS x r) (stopsOf x r) r.start rests (j + 1)).since), s.depart, sinS (labK x.net (typS x r) (stopsOf x r) r.start rests (i + 1)) (rests.getD (i + 1) false), depK x.net (typS x r) (stopsOf x r) r.start rests (i + 1), ((i + 1 : Nat) : Int)))
          unfold drive_Since_L1 drive_Since_J1
          have hn := hnum i (by omega)
          have hs1 := Okay.since o1 (k := i) (by omega)
          rw [br_pos (by simp [lenI]; exact hi), getI_nat (f2 i hil), bnd_some, chk_pos (okN_of (by simp; omega)), inc (n := s.times.length) hi (by omega), List.range_succ, List.map_append]
          simp only
          have ha : addK .i64 (sinS (labK x.net (typS x r) (stopsOf x r) r.start rests i) (rests.getD i false)) (subK .i64 (goK x.net (typS x r) (stopsOf x r) r.start rests i).1 (depK x.net (typS x r) (stopsOf x r) r.start rests i)) = (labK x.net (typS x r) (stopsOf x r) r.start rests (i + 1)).since := by
            rw [hs1, subI (by omega) (by omega), addI (by omega) (by omega)]; omega
          rw [ha]
          have hsin : ∀ b, rests.getD (i + 1) false = b → sinS (labK x.net (typS x r) (stopsOf x r) r.start rests (i + 1)) (rests.getD (i + 1) false) = if b = true then 0 else (labK x.net (typS x r) (stopsOf x r) r.start rests (i + 1)).since := fun b hb => by rw [hb]; rfl
          cases hb : rests.getD (i + 1) false with
          | true => rw [br_true, ← hb, hsin true hb]; rfl
          | false => rw [br_false, ← hb, hsin false hb]; rfl
        · show drive_Since_L1 s _ _ _ _ (s.times.length : Int) = _
          unfold drive_Since_L1
          rw [br_neg (by simp [lenI])]
      have e0 : ([], s.depart, 0, s.depart, 0) = (fun i : Nat => ((List.range i).map (fun j => (labK x.net (typS x r) (stopsOf x r) r.start rests (j + 1)).since), s.depart, sinS (labK x.net (typS x r) (stopsOf x r) r.start rests i) (rests.getD i false), depK x.net (typS x r) (stopsOf x r) r.start rests i, (i : Int))) 0 := by
        show _ = (_, _, sinS (begS (typS x r) r.start) _, depK x.net (typS x r) (stopsOf x r) r.start rests 0, _)
        rw [q2]
        congr 1
        congr 1
        congr 1
        unfold sinS; split <;> rfl
      rw [e0]; exact e
    rw [hloop, bnd_some]
    have hm : s.times.length = (stopsOf x r).length := by omega
    have hn := hnum s.times.length (by omega)
    have hs1 := Okay.since o1 (k := s.times.length) (by omega)
    have hlast : subK .i64 (addK .i64 (sinS (labK x.net (typS x r) (stopsOf x r) r.start rests s.times.length) (rests.getD s.times.length false)) s.end_) (depK x.net (typS x r) (stopsOf x r) r.start rests s.times.length) = (labK x.net (typS x r) (stopsOf x r) r.start rests (s.times.length + 1)).since := by
      rw [hs1, f3, ← hm, addI (by omega) (by omega), subI (by omega) (by omega)]
    simp only
    rw [hlast, chk_pos (okN_of (by simp; omega)), hD', show rests.length = s.times.length + 1 by omega, List.range_succ, List.map_append]
    rfl
  · rw [br_pos (by simpa using h0), since_no h0]
theorem sinceS_len {x : T_api_Instance} {r : T_api_Route} {s : T_api_Sheet} (hs : s.times.length ≤ 1048576) : (sinceS x r s).length ≤ 1048577 := by
  unfold sinceS
  split
  · have : ∀ (l : List Bool) (k : Nat) (lab : T_drive_label), (runD x.net (typS x r) (stopsOf x r) l k lab).length = l.length := by
      intro l
      induction l with
      | nil => intro k lab; rfl
      | cons b l ih => intro k lab; simp only [runD, List.length_cons, ih]
    rw [this, restsOf_len]; omega
  · exact Nat.zero_le _
theorem DriveChecks_plain (x : T_api_Instance) (hI : InstI x) (r : T_api_Route) (hR : RouteI r) (s : T_api_Sheet) (hs' : s.times.length ≤ 1048576) : lorrylaw18_DriveChecks x r s = some true := by
  apply post.eq
  unfold lorrylaw18_DriveChecks
  rw [examples18_ok]
  show post (bnd (lorrylaw18_right x) _) _
  refine post_bnd (right18 hI) fun ok hok => post_br (fun h => ?_) (fun _ => post_some.2 rfl)
  have hx := hok h
  have hc := ref_check_eq (x := x) (r := r) (s := s) hx hR.visits hR.rests hs'
  have e1 : lorryref18_Since x r s = some (sinceS x r s, validS x r s) := by
    unfold lorryref18_Since
    show bnd (lorryref18_check x r s) _ = _
    rw [hc, bnd_some]
  have e2 : lorryref18_Valid x r s = some (validS x r s) := by
    unfold lorryref18_Valid
    show bnd (lorryref18_check x r s) _ = _
    rw [hc, bnd_some]
  show post (bnd (drive_Since x r s) fun r2 => bnd (lorryref18_Since x r s) fun r3 => br _ _ (bnd (drive_Valid x r s) fun r4 => bnd (lorryref18_Valid x r s) _)) _
  rw [since_eq hx hR.visits hR.rests hs', bnd_some, e1, bnd_some, br_neg (by simp [neI]), valid_eq hx hR.visits hR.rests hs', bnd_some, e2, bnd_some, br_neg (by simp [neI])]
  have hl := sinceS_len (x := x) (r := r) hs'
  have hl2 : (sinceS x r s).length ≤ 1048576 := by
    have : ∀ (l : List Bool) (k : Nat) (lab : T_drive_label), (runD x.net (typS x r) (stopsOf x r) l k lab).length = l.length := by
      intro l
      induction l with
      | nil => intro k lab; rfl
      | cons b l ih => intro k lab; simp only [runD, List.length_cons, ih]
    unfold sinceS
    split
    · rename_i h0
      have hcc : possS x r = true ∧ r.rests.length ≤ r.visits.length + 1 ∧ s.times.length = r.visits.length := Classical.byContradiction fun h => by have := v2 h; omega
      have h5 := (of_decide_eq_true (poss_pre hcc.1)).2.2.2.2
      rw [this, restsOf_len]; omega
    · exact Nat.zero_le _
  have l1 : loopF (fun s' => lorrylaw18_DriveChecks_L1 (sinceS x r s, validS x r s) (sinceS x r s, validS x r s) s') 0 = some (.inl ()) := by
    refine all_loop (fun _ => true) _ (Sum.inr false) hl2 (fun _ _ => rfl) (fun i y hy => ?_) ?_
    · show lorrylaw18_DriveChecks_L1 _ _ (i : Int) = _
      unfold lorrylaw18_DriveChecks_L1
      have := (List.getElem?_eq_some_iff.1 hy).1
      rw [br_pos (by simp [lenI]; omega), getI_nat hy, bnd_some, bnd_some, br_neg (by simp), br_true]
    · show lorrylaw18_DriveChecks_L1 _ _ ((sinceS x r s).length : Int) = _
      unfold lorrylaw18_DriveChecks_L1
      rw [br_neg (by simp [lenI])]
  rw [l1, bnd_some, sel_inl]
  exact post_some.2 rfl
end Go.Proofs.YtjhhlmmmkgnhmaaDoor
