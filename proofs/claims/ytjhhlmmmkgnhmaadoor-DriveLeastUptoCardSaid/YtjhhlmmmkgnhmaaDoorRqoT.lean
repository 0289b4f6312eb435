/- Plain: DriveTimes answers true. -/
import Derived.Test.YtjhhlmmmkgnhmaaDoorRqo
namespace Go.Proofs.YtjhhlmmmkgnhmaaDoor
set_option linter.unusedSimpArgs false
set_option linter.unusedVariables false
set_option linter.unusedSectionVars false
theorem stopV_get {x : T_api_Instance} {v : T_api_Visit} {s : T_api_Stop} (h : stopV x v = some s) : ∃ o, getI x.orders v.order = some o ∧ atS v o = s := by
  unfold stopV at h
  split at h
  · cases h
  · rename_i o ho
    split at ho
    · rename_i h0
      split at h
      · cases h
        exact ⟨o, by unfold getI; rw [if_pos h0]; exact ho, rfl⟩
      · cases h
    · cases ho
theorem getD_get {l : List Bool} {i : Nat} (h : i < l.length) : l[i]? = some (l.getD i false) := by rw [List.getD_eq_getElem?_getD, List.getElem?_eq_getElem h]; rfl
theorem DriveTimes_plain (x : T_api_Instance) (hI : InstI x) (r : T_api_Route) (hR : RouteI r) (rests : List Bool) : lorrylaw18_DriveTimes x r rests = some true := by
  apply post.eq
  unfold lorrylaw18_DriveTimes
  rw [examples18_ok]
  show post (bnd (lorrylaw18_right x) _) _
  refine post_bnd (right18 hI) fun ok hok => post_br (fun h => ?_) (fun _ => post_some.2 rfl)
  have hx := hok h
  show post (bnd (drive_Run x r rests) fun r2 => br _ _ (bnd (lorryref18_Possible x r) _)) _
  rw [show drive_Run x r rests = some (runR x r rests) from Run_eq hx hR.visits, bnd_some, poss_eq]
  refine post_br (fun hc => ?_) (fun hc => ?_)
  · simp only [neI_t] at hc
    rw [runR_bad hc]
    exact post_some.2 rfl
  simp only [neI_f] at hc
  obtain ⟨p1, l1, o1, s1⟩ := runR_ok hx hc
  generalize hS : (labK x.net (typS x r) (stopsOf x r) r.start rests rests.length).sheet = S at *
  have hpair : runR x r rests = (S, 0) := Prod.ext s1 hc
  rw [bnd_some, hpair]
  have hsl := stops_len (x := x) (r := r)
  obtain ⟨f1, f2, f3⟩ := Okay.final o1
  rw [hS] at f1 f2 f3
  have hfew := o1.trip.few
  have hadd : addK .i64 (lenI r.visits) 1 = (r.visits.length : Int) + 1 := by unfold lenI; exact addI (by omega) (by omega)
  obtain ⟨q1, q2⟩ := Okay.headr o1 (k := (stopsOf x r).length) (Nat.le_refl _)
  rw [← o1.len, hS] at q1 q2
  have e0 : getI rests 0 = some (rests.getD 0 false) := getI_nat (k := 0) (getD_get (by omega))
  rw [hadd, p1, br_neg (by simp only [Bool.not_true, Bool.false_or, orF, neI_f, lenI]; omega), (typ_get (poss_pre p1)).1, bnd_some, e0, bnd_some]
  have h5 := of_decide_eq_true (poss_pre p1)
  have hL0 := Okay.lab o1 0 (Nat.zero_le _)
  have hrest := o1.trip.rest
  have hr0 : maxI (typS x r).open_ r.start = (labK x.net (typS x r) (stopsOf x r) r.start rests 0).ready := by rw [maxI_eq]; rfl
  have key : post (lorrylaw18_DriveTimes_J1 x r rests ((S, 0) : T_api_Sheet × Int) (typS x r) (depK x.net (typS x r) (stopsOf x r) r.start rests 0)) (fun a => a = true) := by
    unfold lorrylaw18_DriveTimes_J1
    rw [br_neg (by simp only [neI_f]; exact q2), e0, bnd_some, examples18_ok]
    have hend : S.end_ ≤ (typS x r).close := by
      rw [f3]
      have := (Okay.step o1 (k := (stopsOf x r).length) (Nat.le_refl _)).2.1
      rwa [stopK_end (Nat.lt_irrefl _)] at this
    rw [br_neg (by simp only [orF, ntF, eqB_t, gtI_f]; exact ⟨q1, hend⟩)]
    have hloop : loopF (fun s => lorrylaw18_DriveTimes_L1 x r rests (S, 0) (typS x r) s.1 s.2) (depK x.net (typS x r) (stopsOf x r) r.start rests 0, 0) = some (.inl (depK x.net (typS x r) (stopsOf x r) r.start rests r.visits.length)) := by
      refine loop_for (B := fun s : Int × Int => lorrylaw18_DriveTimes_L1 x r rests (S, 0) (typS x r) s.1 s.2) r.visits.length (fun i => (depK x.net (typS x r) (stopsOf x r) r.start rests i, (i : Int))) (by omega) (fun i hi => ?_) ?_
      · show lorrylaw18_DriveTimes_L1 x r rests (S, 0) (typS x r) (depK x.net (typS x r) (stopsOf x r) r.start rests i) (i : Int) = some (.inl (depK x.net (typS x r) (stopsOf x r) r.start rests (i + 1), ((i + 1 : Nat) : Int)))
        have hil : i < (stopsOf x r).length := by omega
        obtain ⟨v, hv1, hv2⟩ := stops_at p1 (stopK_lt (t := typS x r) hil)
        obtain ⟨o, ho1, ho2⟩ := stopV_get hv2
        have hSO := o1.trip.stopK i
        have g1 := Okay.go o1 (k := i) (by omega)
        have g2 := (Okay.step o1 (k := i) (by omega)).2.1
        have g3 := Okay.ready o1 (k := i) (by omega)
        have hin := Okay.dep o1 (k := i) (by omega)
        have b1 := hSO.open0; have b2 := hSO.open1; have b3 := hSO.close; have b4 := hSO.serv0; have b5 := hSO.serv1
        unfold inT at hin
        have hj2 : ∀ s, s = stopK (typS x r) (stopsOf x r) i → lorrylaw18_DriveTimes_J2 x r rests (S, 0) (typS x r) (depK x.net (typS x r) (stopsOf x r) r.start rests i) (i : Int) s = some (.inl (depK x.net (typS x r) (stopsOf x r) r.start rests (i + 1), ((i + 1 : Nat) : Int))) := by
          rintro s rfl
          have e1 : addK .i64 (i : Int) 1 = ((i + 1 : Nat) : Int) := by rw [addI (by omega) (by omega)]; omega
          have e2 : getI rests ((i + 1 : Nat) : Int) = some (rests.getD (i + 1) false) := getI_nat (getD_get (by omega))
          unfold lorrylaw18_DriveTimes_J2 lorrylaw18_DriveTimes_J3
          have hdep : depK x.net (typS x r) (stopsOf x r) r.start rests (i + 1) = max (goK x.net (typS x r) (stopsOf x r) r.start rests i).1 (stopK (typS x r) (stopsOf x r) i).open_ + (stopK (typS x r) (stopsOf x r) i).service + (if rests.getD (i + 1) false = true then (typS x r).rest_ else 0) := by
            unfold depK depS; rw [g3]
          rw [getI_nat (f2 i hil), bnd_some, e1, e2, bnd_some, hdep]
          simp only [bnd_some]
          rw [maxI_eq, addI (a := max _ _) (by omega) (by omega)]
          generalize rests.getD (i + 1) false = bb
          cases bb with
          | true =>
            rw [br_true, addI (by omega) (by omega), br_neg (by simp only [orF, ltI_f, gtI_f]; exact ⟨g1, g2⟩), br_neg (by simp only [orF, neI_f]; exact ⟨trivial, rfl⟩), br_pos (by simp [eqB])]
          | false =>
            rw [br_false, br_neg (by simp only [orF, ltI_f, gtI_f]; exact ⟨g1, g2⟩), br_neg (by simp only [orF, neI_f]; exact ⟨trivial, by simp⟩), br_pos (by simp [eqB])]
        unfold lorrylaw18_DriveTimes_L1
        rw [br_pos (by simp [lenI]; exact hi), getI_nat hv1, bnd_some, ho1, bnd_some]
        cases hd : v.drop with
        | true => rw [br_true]; exact hj2 _ (by rw [← ho2, atS_t hd])
        | false => rw [br_false]; exact hj2 _ (by rw [← ho2, atS_f hd])
      · show lorrylaw18_DriveTimes_L1 x r rests (S, 0) (typS x r) _ (r.visits.length : Int) = _
        unfold lorrylaw18_DriveTimes_L1
        rw [br_neg (by simp [lenI])]
    rw [hloop, bnd_some, sel_inl, br_pos, bnd_some, post_some]
    simp only [geI_t]
    rw [f3, ← hsl]
    exact Okay.go o1 (Nat.le_refl _)
  refine post_br (fun hb => ?_) (fun hb => ?_)
  · rw [hr0, addI (by have := hL0.ready0; have := hL0.ready1; omega) (by have := hL0.ready0; have := hL0.ready1; omega)]
    have : (labK x.net (typS x r) (stopsOf x r) r.start rests 0).ready + (typS x r).rest_ = depK x.net (typS x r) (stopsOf x r) r.start rests 0 := by unfold depK depS; rw [if_pos hb]
    rw [this]
    exact key
  · rw [hr0]
    have : (labK x.net (typS x r) (stopsOf x r) r.start rests 0).ready = depK x.net (typS x r) (stopsOf x r) r.start rests 0 := by unfold depK depS; rw [if_neg (by rw [hb]; decide)]; omega
    rw [this]
    exact key
end Go.Proofs.YtjhhlmmmkgnhmaaDoor
