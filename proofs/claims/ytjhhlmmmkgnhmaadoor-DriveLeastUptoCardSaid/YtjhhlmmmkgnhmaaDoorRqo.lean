/- Plain: DriveRuns, DriveTimes and DriveLater answer true. -/
import Derived.Test.YtjhhlmmmkgnhmaaDoorRqn
namespace Go.Proofs.YtjhhlmmmkgnhmaaDoor
set_option linter.unusedSimpArgs false
set_option linter.unusedVariables false
set_option linter.unusedSectionVars false
set_option maxRecDepth 100000 in
theorem examples18_ok : lorrylaw18_examples = some true := by kernel_rfl
theorem right18 {x : T_api_Instance} (hI : InstI x) : post (lorrylaw18_right x) fun r => r = true → InstOK x := by
  unfold lorrylaw18_right
  show post (bnd (lorryref13_Check x) _) _
  refine post_bnd (check13_post hI) fun r hr => post_some.2 fun h => hr ?_
  simp only [eqI_t, lenI] at h
  exact List.length_eq_zero_iff.1 (by omega)
section
variable {n : T_api_Network} {t : T_api_Type} {stops : List T_api_Stop} {start : Int} {rests : List Bool}
theorem nxt_times {l : T_drive_label} {k : Nat} {b : Bool} : (nxt n t stops l k b).1.sheet.times.length ≤ l.sheet.times.length + 1 := by
  unfold nxt nxtD
  split
  · exact Nat.zero_le _
  · split
    · exact Nat.zero_le _
    · split
      · exact Nat.zero_le _
      · show (if k < stops.length then _ else _ : List T_api_Time).length ≤ _
        split
        · rw [List.length_append, timesS_len]; exact Nat.le_refl _
        · rw [timesS_len]; omega
theorem runK_times : ∀ (rests : List Bool) (k : Nat) (l : T_drive_label), (runK n t stops rests k l).1.sheet.times.length ≤ l.sheet.times.length + rests.length
  | [], k, l => by simp [runK]
  | b :: r, k, l => by
    simp only [runK]
    split
    · exact Nat.zero_le _
    · have h1 := runK_times r (k + 1) (nxt n t stops l k b).1
      have h2 := nxt_times (n := n) (t := t) (stops := stops) (l := l) (k := k) (b := b)
      simp only [List.length_cons]; omega
theorem runS_times : (runS n t stops start rests).1.times.length ≤ rests.length := by
  unfold runS
  split
  · exact Nat.zero_le _
  · have := runK_times (n := n) (t := t) (stops := stops) rests 0 (begS t start)
    simpa [begS, zSheet] using this
end
theorem same18_refl {a : T_api_Sheet} (h : a.times.length ≤ 1048576) : lorryref18_Same a a = some true := by
  unfold lorryref18_Same
  rw [br_neg (by simp [neI, eqB])]
  have l1 : loopF (fun s => lorryref18_Same_L1 a a s) 0 = some (.inl ()) := by
    refine all_loop (fun _ => true) _ (Sum.inr false) h (fun _ _ => rfl) (fun i x hx => ?_) ?_
    · show lorryref18_Same_L1 a a (i : Int) = _
      unfold lorryref18_Same_L1
      have := (List.getElem?_eq_some_iff.1 hx).1
      rw [br_pos (by simp [lenI]; omega), getI_nat hx, bnd_some, bnd_some]
      simp [eqI, eqB]
    · show lorryref18_Same_L1 a a (a.times.length : Int) = _
      unfold lorryref18_Same_L1
      rw [br_neg (by simp [lenI])]
  rw [l1, bnd_some, sel_inl]
/-- A run of a route. -/
noncomputable def runR (x : T_api_Instance) (r : T_api_Route) (rests : List Bool) : T_api_Sheet × Int := if possS x r = true ∧ rests.length = r.visits.length + 1 then runS x.net (typS x r) (stopsOf x r) r.start rests else (zSheet, 2)
theorem runR_times {x : T_api_Instance} {r : T_api_Route} {rests : List Bool} (hr : rests.length ≤ 1048576) : (runR x r rests).1.times.length ≤ 1048576 := by
  unfold runR
  split
  · have := runS_times (n := x.net) (t := typS x r) (stops := stopsOf x r) (start := r.start) (rests := rests); omega
  · exact Nat.zero_le _
theorem ref_Run_eq {x : T_api_Instance} {r : T_api_Route} {rests : List Bool} (hx : InstOK x) (hv : r.visits.length ≤ 1048576) : lorryref18_Run x r rests = some (runR x r rests) := by
  unfold lorryref18_Run runR
  show bnd (lorryref18_run x r rests) _ = _
  rw [ref_run_eq hx hv, bnd_some]
  split <;> rfl
theorem DriveRuns_plain (x : T_api_Instance) (hI : InstI x) (r : T_api_Route) (hR : RouteI r) (rests : List Bool) (hr : rests.length ≤ 1048576) : lorrylaw18_DriveRuns x r rests = some true := by
  apply post.eq
  unfold lorrylaw18_DriveRuns
  rw [examples18_ok]
  show post (bnd (lorrylaw18_right x) _) _
  refine post_bnd (right18 hI) fun ok hok => post_br (fun h => ?_) (fun _ => post_some.2 rfl)
  have hx := hok h
  show post (bnd (drive_Run x r rests) fun r2 => bnd (lorryref18_Run x r rests) _) _
  rw [show drive_Run x r rests = some (runR x r rests) from Run_eq hx hR.visits, bnd_some, ref_Run_eq hx hR.visits, bnd_some, br_pos (by simp [eqI]), same18_refl (runR_times hr), bnd_some]
  exact post_some.2 rfl
/-- What a run that is there is. -/
theorem runR_ok {x : T_api_Instance} {r : T_api_Route} {rests : List Bool} (hx : InstOK x) (h : (runR x r rests).2 = 0) : possS x r = true ∧ rests.length = r.visits.length + 1 ∧ Okay x.net (typS x r) (stopsOf x r) r.start rests ∧
    (runR x r rests).1 = (labK x.net (typS x r) (stopsOf x r) r.start rests rests.length).sheet := by
  unfold runR at h ⊢
  split at h
  · rename_i hc
    rw [if_pos hc]
    have h5 := of_decide_eq_true (poss_pre hc.1)
    obtain ⟨h1, h2⟩ := okay_of (tripOK hx hc.1) ⟨h5.2.2.1, h5.2.2.2.1⟩ (by rw [stops_len]; exact hc.2) h
    exact ⟨hc.1, hc.2, h1, h2⟩
  · simp at h
theorem runR_bad {x : T_api_Instance} {r : T_api_Route} {rests : List Bool} (h : (runR x r rests).2 ≠ 0) : (runR x r rests).1 = zSheet := by
  unfold runR at h ⊢
  split
  · rename_i hc
    rw [if_pos hc] at h
    exact runS_err h
  · rfl
theorem DriveLater_plain (x : T_api_Instance) (hI : InstI x) (r : T_api_Route) (hR : RouteI r) (rests : List Bool) (hr : rests.length ≤ 1048576) (more : Int) (hm : 0 ≤ more ∧ more ≤ 255) : lorrylaw18_DriveLater x r rests more = some true := by
  apply post.eq
  unfold lorrylaw18_DriveLater
  rw [examples18_ok]
  show post (bnd (lorrylaw18_right x) _) _
  refine post_bnd (right18 hI) fun ok hok => post_br (fun _ => post_some.2 rfl) (fun h => ?_)
  simp only [orF, ntF, ltI_f, gtI_f] at h
  obtain ⟨⟨h, hs0⟩, hs1⟩ := h
  have hx := hok h
  have hst : addK .i64 r.start (cvK .i64 more) = r.start + more := by rw [cvI (by omega) (by omega), addI (by omega) (by omega)]
  rw [hst]
  generalize hr' : T_api_Route.mk r.type_ (r.start + more) r.rests r.visits = r'
  have hv' : r'.visits = r.visits := by rw [← hr']
  show post (bnd (drive_Run x r rests) fun r3 => bnd (drive_Run x r' rests) _) _
  rw [show drive_Run x r rests = some (runR x r rests) from Run_eq hx hR.visits, bnd_some, show drive_Run x r' rests = some (runR x r' rests) from Run_eq hx (by rw [hv']; exact hR.visits), bnd_some]
  refine post_br (fun _ => post_some.2 rfl) (fun hc => ?_)
  simp only [orF, neI_f] at hc
  obtain ⟨p1, l1, o1, s1⟩ := runR_ok hx hc.1
  obtain ⟨p2, l2, o2, s2⟩ := runR_ok hx hc.2
  have ht' : typS x r' = typS x r := by rw [← hr']; rfl
  have hs' : stopsOf x r' = stopsOf x r := by rw [← hr']; rfl
  have hss : r'.start = r.start + more := by rw [← hr']
  rw [ht', hs', hss] at o2 s2
  rw [s1, s2]
  have hsl := stops_len (x := x) (r := r)
  obtain ⟨f1, f2, f3⟩ := Okay.final o1
  obtain ⟨g1, g2, g3⟩ := Okay.final o2
  -- never earlier
  have key : ∀ k, k ≤ (stopsOf x r).length → (labK x.net (typS x r) (stopsOf x r) r.start rests k).ready ≤ (labK x.net (typS x r) (stopsOf x r) (r.start + more) rests k).ready ∧ (labK x.net (typS x r) (stopsOf x r) (r.start + more) rests k).sheet.miles = (labK x.net (typS x r) (stopsOf x r) r.start rests k).sheet.miles := by
    intro k
    induction k with
    | zero => intro _; refine ⟨?_, rfl⟩; show max (typS x r).open_ r.start ≤ max (typS x r).open_ (r.start + more); omega
    | succ k ih =>
      intro hk
      obtain ⟨i1, i2⟩ := ih (by omega)
      have hd : depK x.net (typS x r) (stopsOf x r) r.start rests k ≤ depK x.net (typS x r) (stopsOf x r) (r.start + more) rests k := by unfold depK depS; omega
      obtain ⟨m1, m2, m3⟩ := goN_mono hx.net hd (Okay.step o1 (k := k) (by omega)).1
      have m2' : (goK x.net (typS x r) (stopsOf x r) r.start rests k).1 ≤ (goK x.net (typS x r) (stopsOf x r) (r.start + more) rests k).1 := m2
      have m3' : (goK x.net (typS x r) (stopsOf x r) (r.start + more) rests k).2.1 = (goK x.net (typS x r) (stopsOf x r) r.start rests k).2.1 := m3
      rw [Okay.ready o1 (by omega), Okay.ready o2 (by omega), Okay.miles o1 (by omega), Okay.miles o2 (by omega)]
      omega
  have keyd : ∀ k, k ≤ (stopsOf x r).length → depK x.net (typS x r) (stopsOf x r) r.start rests k ≤ depK x.net (typS x r) (stopsOf x r) (r.start + more) rests k := fun k hk => by
    have := (key k hk).1
    unfold depK depS; omega
  have keyg : ∀ k, k ≤ (stopsOf x r).length → (goK x.net (typS x r) (stopsOf x r) r.start rests k).1 ≤ (goK x.net (typS x r) (stopsOf x r) (r.start + more) rests k).1 ∧ (goK x.net (typS x r) (stopsOf x r) (r.start + more) rests k).2.1 = (goK x.net (typS x r) (stopsOf x r) r.start rests k).2.1 := fun k hk => by
    obtain ⟨m1, m2, m3⟩ := goN_mono hx.net (keyd k hk) (Okay.step o1 (k := k) hk).1
    exact ⟨m2, m3⟩
  refine post_br (fun hc2 => ?_) (fun _ => ?_)
  · simp only [orT, neI_t, lenI] at hc2
    omega
  refine post_bnd (R := fun e : Unit ⊕ Bool => e = .inl ()) ?_ ?_
  · refine post_scan (B := fun s => lorrylaw18_DriveLater_L1 _ _ s) (stopsOf x r).length _ (fun _ => True) (by have := o1.trip.few; omega) (fun i hi => ?_) ?_
    · show post (lorrylaw18_DriveLater_L1 _ _ (i : Int)) _
      unfold lorrylaw18_DriveLater_L1
      rw [s1, s2, br_pos (by simp only [ltI_t, lenI]; omega), getI_nat (g2 i hi), bnd_some, getI_nat (f2 i hi), bnd_some, inc (n := (stopsOf x r).length) hi (by have := o1.trip.few; omega)]
      have a1 := (keyg i (by omega)).1
      have a2 := keyd (i + 1) (by omega)
      exact post_br (fun hh => by simp only [ltI_t] at hh; omega) (fun _ => post_br (fun hh => by simp only [ltI_t] at hh; omega) (fun _ => post_some.2 (.inl ⟨rfl, trivial⟩)))
    · show post (lorrylaw18_DriveLater_L1 _ _ ((stopsOf x r).length : Int)) _
      unfold lorrylaw18_DriveLater_L1
      rw [s1, br_neg (by simp only [ltI_f, lenI]; omega)]
      exact post_some.2 ⟨_, rfl, fun _ => rfl⟩
  · rintro e rfl
    rw [sel_inl]
    refine post_br (fun _ => post_some.2 rfl) (fun hh => ?_)
    exfalso
    simp only [andF, leI_f, eqI_f] at hh
    have a1 := (keyg (stopsOf x r).length (Nat.le_refl _)).1
    have a2 := (key (stopsOf x r).length (Nat.le_refl _)).2
    have a3 := (keyg (stopsOf x r).length (Nat.le_refl _)).2
    have b1 := Okay.miles o1 (Nat.le_refl _)
    have b2 := Okay.miles o2 (Nat.le_refl _)
    rw [← o1.len] at b1
    rw [← o2.len] at b2
    omega
end Go.Proofs.YtjhhlmmmkgnhmaaDoor
