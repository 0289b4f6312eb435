/- Plain: DriveBest and DriveLeast answer true. -/
import Derived.Test.YtjhhlmmmkgnhmaaDoorRqy3
namespace Go.Proofs.YtjhhlmmmkgnhmaaDoor
set_option linter.unusedSimpArgs false
set_option linter.unusedVariables false
set_option linter.unusedSectionVars false
theorem minB_one {n : T_api_Network} {t : T_api_Type} {stops : List T_api_Stop} {start : Int} {rests a b : List Bool} (ha : fullB n t stops start rests a) (hb : fullB n t stops start rests b) (ma : minB n t stops start rests a) (mb : minB n t stops start rests b) : a = b := by
  have h1 := ma b hb
  have h2 := mb a ha
  have he : endB n t stops start b = endB n t stops start a := by omega
  exact valB_inj (by rw [ha.1, hb.1]) (by have := h1.2 he; have := h2.2 he.symm; omega)
theorem lb_times {n : T_api_Network} {t : T_api_Type} {stops : List T_api_Stop} {start : Int} {b : List Bool} : (lbB n t stops start b).sheet.times.length ≤ b.length := by
  have := runK_times (n := n) (t := t) (stops := stops) b 0 (begS t start)
  have h0 : (begS t start).sheet.times.length = 0 := rfl
  rw [h0, Nat.zero_add] at this
  exact this
theorem DriveBest_plain (x : T_api_Instance) (hI : InstI x) (r : T_api_Route) (hR : RouteI r) : lorrylaw18_DriveBest x r = some true := by
  apply post.eq
  unfold lorrylaw18_DriveBest
  rw [examples18_ok]
  show post (bnd (lorrylaw18_right x) _) _
  refine post_bnd (right18 hI) fun ok hok => post_br (fun _ => post_some.2 rfl) (fun h => ?_)
  simp only [orF, ntF, andF, gtI_f, leI_f, lenI] at h
  have hx := hok h.1
  have h9 : ¬ (9 < r.visits.length ∧ r.visits.length ≤ 20) := by omega
  obtain ⟨A, hA, pA⟩ := best_post hx hR h9
  obtain ⟨B, hB, pB⟩ := ref_best_post hx hR h9
  show post (bnd (drive_Best x r) fun r3 => bnd (lorryref18_Best x r) _) _
  rw [hA, bnd_some, hB, bnd_some]
  have key : A = B ∧ A.1.times.length ≤ 1048576 := by
    rcases pA with ⟨a1, a2⟩ | ⟨a1, a2⟩
    · rcases pB with ⟨_, b2⟩ | ⟨b1, _⟩
      · rw [a2, b2]; exact ⟨rfl, Nat.zero_le _⟩
      · exact absurd b1 a1
    · rcases pB with ⟨b1, _⟩ | ⟨_, b2⟩
      · exact absurd a1 b1
      · rcases a2 with ⟨a, fa, ma, ea⟩ | ⟨na, ea⟩
        · rcases b2 with ⟨b, fb, mb, eb⟩ | ⟨nb, eb⟩
          · rw [ea, eb, minB_one fa fb ma mb]
            refine ⟨rfl, ?_⟩
            have h1 := lb_times (n := x.net) (t := typS x r) (stops := stopsOf x r) (start := r.start) (b := b)
            have h2 := fb.1
            rw [stops_len] at h2
            have := (of_decide_eq_true (poss_pre a1.1)).2.2.2.2
            show (lbB x.net (typS x r) (stopsOf x r) r.start b).sheet.times.length ≤ _
            omega
          · exact absurd fa (nb a)
        · rcases b2 with ⟨b, fb, mb, eb⟩ | ⟨nb, eb⟩
          · exact absurd fb (na b)
          · rw [ea, eb]
            refine ⟨rfl, ?_⟩
            have h1 := runS_times (n := x.net) (t := typS x r) (stops := stopsOf x r) (start := r.start) (rests := r.rests ++ List.replicate (r.visits.length + 1 - r.rests.length) false)
            have := (of_decide_eq_true (poss_pre a1.1)).2.2.2.2
            rw [List.length_append, List.length_replicate] at h1
            omega
  rw [← key.1, br_pos (by simp [eqI]), same18_refl key.2, bnd_some]
  exact post_some.2 rfl
/-- The rests of a schedule are those that it was made for. -/
theorem rests_back {x : T_api_Instance} {r : T_api_Route} (hx : InstOK x) (hp : possS x r = true) {b : List Bool} (hl : b.length = (stopsOf x r).length + 1) (hok : okB x.net (typS x r) (stopsOf x r) r.start b) :
    restsOf (lbB x.net (typS x r) (stopsOf x r) r.start b).sheet = b ∧ (lbB x.net (typS x r) (stopsOf x r) r.start b).sheet.times.length = (stopsOf x r).length := by
  have h5 := of_decide_eq_true (poss_pre hp)
  have hrs := runS_yes hok
  obtain ⟨o1, o2⟩ := okay_of (tripOK hx hp) ⟨h5.2.2.1, h5.2.2.2.1⟩ hl (by rw [hrs])
  rw [hrs] at o2
  simp only at o2
  obtain ⟨f1, f2, f3⟩ := Okay.final o1
  obtain ⟨q1, q2⟩ := Okay.headr o1 (k := (stopsOf x r).length) (Nat.le_refl _)
  rw [← o1.len] at q1
  rw [o2]
  refine ⟨?_, f1⟩
  unfold restsOf
  apply List.ext_getElem?
  intro i
  cases i with
  | zero =>
    rw [List.getElem?_cons_zero, q1, getD_get (by omega)]
  | succ i =>
    rw [List.getElem?_cons_succ, List.getElem?_map]
    rcases Nat.lt_or_ge i (stopsOf x r).length with hi | hi
    · rw [f2 i hi, getD_get (by omega)]; rfl
    · rw [List.getElem?_eq_none (by omega), List.getElem?_eq_none (by omega)]; rfl
theorem fol_take {rests b : List Bool} (h : folB rests b) (hl : rests.length ≤ b.length) : b.take rests.length = rests := by
  obtain ⟨j, _, hb⟩ := fol_all (rests := rests) (b := b) (f := b.length - rests.length) (by omega) h
  rw [hb, List.take_left]
theorem fol_of {rests b : List Bool} (h : ∀ i, i < rests.length → rests[i]? = b[i]?) : folB rests b := fun i y hy => by
  unfold chB
  rcases Nat.lt_or_ge i rests.length with hi | hi
  · rw [h i hi, hy]; simp
  · rw [List.getElem?_eq_none hi]
    cases y <;> simp
theorem DriveLeast_plain (x : T_api_Instance) (hI : InstI x) (r : T_api_Route) (hR : RouteI r) (rests : List Bool) (hr : rests.length ≤ 1048576) : lorrylaw18_DriveLeast x r rests = some true := by
  apply post.eq
  unfold lorrylaw18_DriveLeast
  rw [examples18_ok]
  show post (bnd (lorrylaw18_right x) _) _
  refine post_bnd (right18 hI) fun ok hok => post_br (fun _ => post_some.2 rfl) (fun h => ?_)
  simp only [orF, ntF, andF, gtI_f, leI_f, lenI] at h
  have hx := hok h.1
  have h9 : ¬ (9 < r.visits.length ∧ r.visits.length ≤ 20) := by omega
  have hrr := hR.rests
  obtain ⟨A, hA, pA⟩ := best_post hx hR h9
  show post (bnd (drive_Best x r) fun r3 => bnd (drive_Run x r rests) fun r4 => br _ (bnd (drive_Valid x r r3.1) _) _) _
  rw [hA, bnd_some, show drive_Run x r rests = some (runR x r rests) from Run_eq hx hR.visits, bnd_some]
  -- rests that follow the route, and are possible: the best schedule is there, and ends no later
  have key : (runR x r rests).2 = 0 → (∀ i, i < r.rests.length → r.rests[i]? = rests[i]?) → r.rests.length ≤ rests.length → A.2 = 0 ∧ A.1.end_ ≤ (runR x r rests).1.end_ := by
    intro h0 hf hle
    obtain ⟨p1, l1, o1, s1⟩ := runR_ok hx h0
    have hsl := stops_len (x := x) (r := r)
    have hR1 : runR x r rests = runS x.net (typS x r) (stopsOf x r) r.start rests := by unfold runR; rw [if_pos ⟨p1, l1⟩]
    have hokB : okB x.net (typS x r) (stopsOf x r) r.start rests := Classical.byContradiction fun hn => (runS_no hn).1 (by rw [← hR1]; exact h0)
    have hfull : fullB x.net (typS x r) (stopsOf x r) r.start r.rests rests := ⟨by omega, fol_of hf, hokB⟩
    have hC : possS x r = true ∧ r.rests.length ≤ r.visits.length + 1 := ⟨p1, by omega⟩
    rcases pA with ⟨a1, a2⟩ | ⟨a1, a2⟩
    · exact absurd hC a1
    · rcases a2 with ⟨a, fa, ma, ea⟩ | ⟨na, ea⟩
      · rw [ea, hR1, runS_yes hokB]
        exact ⟨rfl, (ma rests hfull).1⟩
      · exact absurd hfull (na rests)
  have loop1 : ∀ B : Int → Option (Int ⊕ (Unit ⊕ Bool)), (∀ v, B v = br (ltI v (lenI r.rests)) (bnd (getI r.rests v) fun x1 => bnd (getI rests v) fun x2 => br (eqB x2 x1) (some (.inl (addK .i64 v 1))) (bnd (some true) fun r7 => some (.inr (.inr r7)))) (some (.inr (.inl ())))) → r.rests.length ≤ rests.length →
      post (loopF B 0) fun e => (∃ u, e = .inl u ∧ ∀ i, i < r.rests.length → r.rests[i]? = rests[i]?) ∨ e = .inr true := by
    intro B hB hle
    refine post_scan r.rests.length _ (fun i => r.rests[i]? = rests[i]?) (by omega) (fun i hi => ?_) ?_
    · have e1 : r.rests[i]? = some r.rests[i] := List.getElem?_eq_getElem hi
      have e2 : rests[i]? = some (rests[i]'(by omega)) := List.getElem?_eq_getElem _
      rw [hB, br_pos (by simp [lenI]; exact hi), getI_nat e1, bnd_some, getI_nat e2, bnd_some, inc hi hrr]
      refine post_br (fun h1 => post_some.2 (.inl ⟨rfl, by rw [e1, e2, eqB_t.1 h1]⟩)) (fun _ => ?_)
      rw [bnd_some]
      exact post_some.2 (.inr ⟨_, rfl, .inr rfl⟩)
    · rw [hB, br_neg (by simp [lenI])]
      exact post_some.2 ⟨_, rfl, fun h => .inl ⟨_, rfl, h⟩⟩
  refine post_br (fun hb => ?_) (fun hb => ?_)
  · simp only [eqI_t] at hb
    have hAt : A.1.times.length ≤ 1048576 ∧ validS x r A.1 = 0 := by
      rcases pA with ⟨a1, a2⟩ | ⟨a1, a2⟩
      · rw [a2] at hb; simp at hb
      · rcases a2 with ⟨a, fa, ma, ea⟩ | ⟨na, ea⟩
        · obtain ⟨b1, b2⟩ := rests_back hx a1.1 fa.1 fa.2.2
          have hsl := stops_len (x := x) (r := r)
          have hv20 := (of_decide_eq_true (poss_pre a1.1)).2.2.2.2
          rw [ea]
          refine ⟨by show (lbB x.net (typS x r) (stopsOf x r) r.start a).sheet.times.length ≤ _; omega, ?_⟩
          have hal : a.length = r.visits.length + 1 := by rw [fa.1]; omega
          have hrun : runR x r (restsOf (lbB x.net (typS x r) (stopsOf x r) r.start a).sheet) = ((lbB x.net (typS x r) (stopsOf x r) r.start a).sheet, 0) := by
            rw [b1]; unfold runR; rw [if_pos ⟨a1.1, hal⟩, runS_yes fa.2.2]
          rw [vS ⟨a1.1, a1.2, b2.trans hsl⟩ (by rw [b1]; exact fol_take fa.2.1 (by omega)) (by rw [hrun]), hrun, if_pos rfl]
        · exfalso
          have hsl := stops_len (x := x) (r := r)
          refine na _ ⟨?_, ?_, Classical.byContradiction fun hn => (runS_no hn).1 (by rw [← ea]; exact hb)⟩
          · rw [List.length_append, List.length_replicate]; omega
          · rw [← bitsB_zero]; exact fol_bits
    rw [valid_eq hx hR.visits hrr hAt.1, bnd_some, br_neg (by simp only [neI_f]; exact hAt.2)]
    refine post_br (fun _ => post_some.2 rfl) (fun hc => ?_)
    simp only [orF, neI_f, gtI_f, lenI] at hc
    refine post_bnd (loop1 _ (fun v => rfl) (by omega)) fun e he => ?_
    rcases he with ⟨u, rfl, hf⟩ | rfl
    · rw [sel_inl]
      obtain ⟨k1, k2⟩ := key hc.1 hf (by omega)
      rw [br_pos (by simp only [andT, eqI_t, leI_t]; exact ⟨k1, k2⟩)]
      exact post_some.2 rfl
    · rw [sel_inr]; exact post_some.2 rfl
  · simp only [eqI_f] at hb
    refine post_br (fun _ => post_some.2 rfl) (fun hc => ?_)
    simp only [orF, neI_f, gtI_f, lenI] at hc
    refine post_bnd (loop1 _ (fun v => rfl) (by omega)) fun e he => ?_
    rcases he with ⟨u, rfl, hf⟩ | rfl
    · exact absurd (key hc.1 hf (by omega)).1 hb
    · rw [sel_inr]; exact post_some.2 rfl
end Go.Proofs.YtjhhlmmmkgnhmaaDoor
