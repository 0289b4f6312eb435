/- Plain: the labels of a schedule one by one, and what they write. -/
import Derived.Test.YtjhhlmmmkgnhmaaDoorRqm
namespace Go.Proofs.YtjhhlmmmkgnhmaaDoor
set_option linter.unusedSimpArgs false
set_option linter.unusedVariables false
set_option linter.unusedSectionVars false
section
variable (n : T_api_Network) (t : T_api_Type) (stops : List T_api_Stop) (start : Int) (rests : List Bool)
/-- The label after k departures. -/
noncomputable def labK : Nat → T_drive_label
  | 0 => begS t start
  | k + 1 => (nxt n t stops (labK k) k (rests.getD k false)).1
/-- Departure k. -/
noncomputable def depK (k : Nat) : Int := depS t (labK n t stops start rests k) (rests.getD k false)
/-- The way behind departure k. -/
noncomputable def goK (k : Nat) : Int × Int × Int := goN n t.profile (fromP t stops k) (stopK t stops k).place (depK n t stops start rests k)
end
section
variable {n : T_api_Network} {t : T_api_Type} {stops : List T_api_Stop} {start : Int} {rests : List Bool}
theorem runK_lab : ∀ (m k : Nat), m + k = rests.length → (runK n t stops (rests.drop k) k (labK n t stops start rests k)).2 = 0 →
    (∀ j, k ≤ j → j < rests.length → (nxt n t stops (labK n t stops start rests j) j (rests.getD j false)).2 = 0) ∧ runK n t stops (rests.drop k) k (labK n t stops start rests k) = (labK n t stops start rests rests.length, 0)
  | 0, k, hm, h => by
    have hk : k = rests.length := by omega
    subst hk
    rw [List.drop_length]
    exact ⟨fun j h1 h2 => by omega, rfl⟩
  | m + 1, k, hm, h => by
    have hk : k < rests.length := by omega
    have hg : rests.getD k false = rests[k] := by rw [List.getD_eq_getElem?_getD, List.getElem?_eq_getElem hk]; rfl
    rw [List.drop_eq_getElem_cons hk] at h ⊢
    simp only [runK] at h ⊢
    rw [← hg] at h ⊢
    by_cases h0 : (nxt n t stops (labK n t stops start rests k) k (rests.getD k false)).2 = 0
    · rw [if_neg (by simpa using h0)] at h ⊢
      obtain ⟨h1, h2⟩ := runK_lab m (k + 1) (by omega) h
      refine ⟨fun j hj hj' => ?_, h2⟩
      rcases Nat.lt_or_ge k j with h' | h'
      · exact h1 j h' hj'
      · obtain rfl : j = k := by omega
        exact h0
    · rw [if_pos h0] at h; exact absurd h h0
/-- A schedule that is there. -/
structure Okay (n : T_api_Network) (t : T_api_Type) (stops : List T_api_Stop) (start : Int) (rests : List Bool) : Prop where
  trip : TripOK n t stops
  st : 0 ≤ start ∧ start ≤ 4096
  len : rests.length = stops.length + 1
  all : ∀ j, j < rests.length → (nxt n t stops (labK n t stops start rests j) j (rests.getD j false)).2 = 0
theorem okay_of (hT : TripOK n t stops) (hs : 0 ≤ start ∧ start ≤ 4096) (hl : rests.length = stops.length + 1) (h : (runS n t stops start rests).2 = 0) :
    Okay n t stops start rests ∧ (runS n t stops start rests).1 = (labK n t stops start rests rests.length).sheet := by
  unfold runS at h ⊢
  split at h
  · rename_i h1; exact absurd h h1
  · rename_i h1
    rw [if_neg h1]
    have h2 : (runK n t stops rests 0 (begS t start)).2 = 0 := by simpa using h1
    obtain ⟨h3, h4⟩ := runK_lab rests.length 0 (by omega) h2
    refine ⟨⟨hT, hs, hl, fun j hj => h3 j (Nat.zero_le _) hj⟩, ?_⟩
    have h5 : runK n t stops rests 0 (begS t start) = (labK n t stops start rests rests.length, 0) := h4
    rw [h5]
theorem runS_err (h : (runS n t stops start rests).2 ≠ 0) : (runS n t stops start rests).1 = zSheet := by
  unfold runS at h ⊢
  split
  · rfl
  · rename_i h1
    rw [if_neg h1] at h
    simp at h
section
variable (h : Okay n t stops start rests)
include h
theorem Okay.lab : ∀ k, k ≤ stops.length → LabI k (labK n t stops start rests k)
  | 0, _ => beg_lab h.trip h.st
  | k + 1, hk => nxt_lab h.trip (Okay.lab k (by omega)) (by omega) (h.all k (by rw [h.len]; omega))
theorem Okay.step {k : Nat} (hk : k ≤ stops.length) :
    (goK n t stops start rests k).2.2 = 0 ∧ (goK n t stops start rests k).1 ≤ (stopK t stops k).close ∧
    labK n t stops start rests (k + 1) = T_drive_label.mk (max (goK n t stops start rests k).1 (stopK t stops k).open_ + (stopK t stops k).service) (sinS (labK n t stops start rests k) (rests.getD k false) + (goK n t stops start rests k).1 - depK n t stops start rests k)
      (shS t stops (labK n t stops start rests k) k (rests.getD k false) (depK n t stops start rests k) (goK n t stops start rests k)) := by
  obtain ⟨g0, g1, g2, g3⟩ := nxt_ok h.trip (Okay.lab h k hk) (h.all k (by rw [h.len]; omega))
  exact ⟨g0, g1, g3⟩
theorem Okay.dep {k : Nat} (hk : k ≤ stops.length) : inT (depK n t stops start rests k) := dep_in h.trip (Okay.lab h k hk)
theorem Okay.go {k : Nat} (hk : k ≤ stops.length) : depK n t stops start rests k ≤ (goK n t stops start rests k).1 := (goN_bd h.trip.net (Okay.dep h hk) (Okay.step h hk).1).1
theorem Okay.ready {k : Nat} (hk : k ≤ stops.length) : (labK n t stops start rests (k + 1)).ready = max (goK n t stops start rests k).1 (stopK t stops k).open_ + (stopK t stops k).service := by rw [(Okay.step h hk).2.2]
theorem Okay.since {k : Nat} (hk : k ≤ stops.length) : (labK n t stops start rests (k + 1)).since = sinS (labK n t stops start rests k) (rests.getD k false) + (goK n t stops start rests k).1 - depK n t stops start rests k := by rw [(Okay.step h hk).2.2]
theorem Okay.miles {k : Nat} (hk : k ≤ stops.length) : (labK n t stops start rests (k + 1)).sheet.miles = (labK n t stops start rests k).sheet.miles + (goK n t stops start rests k).2.1 := by rw [(Okay.step h hk).2.2]; rfl
theorem Okay.headr : ∀ {k : Nat}, k ≤ stops.length → (labK n t stops start rests (k + 1)).sheet.rest_ = rests.getD 0 false ∧ (labK n t stops start rests (k + 1)).sheet.depart = depK n t stops start rests 0
  | 0, hk => by rw [(Okay.step h hk).2.2]; exact ⟨rfl, rfl⟩
  | k + 1, hk => by
    have := Okay.headr (k := k) (by omega)
    rw [(Okay.step h hk).2.2]
    exact this
theorem Okay.patched (k : Nat) (hk : k ≤ stops.length) (ih : ∀ i, i < k →
    (labK n t stops start rests k).sheet.times[i]? = some (if i + 1 < k then T_api_Time.mk (goK n t stops start rests i).1 (max (goK n t stops start rests i).1 (stopK t stops i).open_) (depK n t stops start rests (i + 1)) (rests.getD (i + 1) false)
      else T_api_Time.mk (goK n t stops start rests i).1 (max (goK n t stops start rests i).1 (stopK t stops i).open_) 0 false)) (i : Nat) (hi : i < k) :
    (timesS (labK n t stops start rests k) k (depK n t stops start rests k) (rests.getD k false))[i]? = some (T_api_Time.mk (goK n t stops start rests i).1 (max (goK n t stops start rests i).1 (stopK t stops i).open_) (depK n t stops start rests (i + 1)) (rests.getD (i + 1) false)) := by
    have hlen := (Okay.lab h k hk).times
    unfold timesS patch
    rw [if_neg (by omega)]
    have hl := ih (k - 1) (by omega)
    rw [if_neg (by omega)] at hl
    rw [hl]
    simp only
    rw [List.getElem?_set]
    by_cases hc : k - 1 = i
    · rw [if_pos hc, if_pos (by omega)]
      subst hc
      rw [show k - 1 + 1 = k by omega]
    · rw [if_neg hc, ih i hi, if_pos (by omega)]
/-- The entry of visit i as it is written first, and as it stays. -/
theorem Okay.entries : ∀ {k : Nat}, k ≤ stops.length → ∀ i, i < k →
    (labK n t stops start rests k).sheet.times[i]? = some (if i + 1 < k then T_api_Time.mk (goK n t stops start rests i).1 (max (goK n t stops start rests i).1 (stopK t stops i).open_) (depK n t stops start rests (i + 1)) (rests.getD (i + 1) false)
      else T_api_Time.mk (goK n t stops start rests i).1 (max (goK n t stops start rests i).1 (stopK t stops i).open_) 0 false)
  | 0, _, i, hi => by omega
  | k + 1, hk, i, hi => by
    have hlen := (Okay.lab h k (by omega)).times
    have htl : (timesS (labK n t stops start rests k) k (depK n t stops start rests k) (rests.getD k false)).length = k := by rw [timesS_len, hlen]
    have e : (labK n t stops start rests (k + 1)).sheet.times = timesS (labK n t stops start rests k) k (depK n t stops start rests k) (rests.getD k false) ++ [T_api_Time.mk (goK n t stops start rests k).1 (max (goK n t stops start rests k).1 (stopK t stops k).open_) 0 false] := by
      rw [(Okay.step h (by omega)).2.2]
      show (if k < stops.length then _ else _ : List T_api_Time) = _
      rw [if_pos (by omega)]
    rw [e]
    by_cases hik : i < k
    · rw [List.getElem?_append_left (by omega), if_pos (by omega)]
      exact Okay.patched h k (by omega) (Okay.entries (by omega)) i hik
    · obtain rfl : i = k := by omega
      rw [List.getElem?_append_right (by omega), htl, Nat.sub_self, if_neg (by omega)]; rfl
/-- The schedule's entries. -/
theorem Okay.final : (labK n t stops start rests rests.length).sheet.times.length = stops.length ∧ (∀ i, i < stops.length → (labK n t stops start rests rests.length).sheet.times[i]? = some (T_api_Time.mk (goK n t stops start rests i).1 (max (goK n t stops start rests i).1 (stopK t stops i).open_) (depK n t stops start rests (i + 1)) (rests.getD (i + 1) false))) ∧
    (labK n t stops start rests rests.length).sheet.end_ = (goK n t stops start rests stops.length).1 := by
  have hst := (Okay.step h (k := stops.length) (Nat.le_refl _)).2.2
  have hlab := Okay.lab h stops.length (Nat.le_refl _)
  rw [h.len, hst]
  have hn : ¬ stops.length < stops.length := Nat.lt_irrefl _
  refine ⟨?_, fun i hi => ?_, ?_⟩
  · show (if stops.length < stops.length then _ else _ : List T_api_Time).length = _
    rw [if_neg hn, timesS_len, hlab.times]
  · show (if stops.length < stops.length then _ else _ : List T_api_Time)[i]? = _
    rw [if_neg hn]
    exact Okay.patched h stops.length (Nat.le_refl _) (fun i hi => Okay.entries h (Nat.le_refl _) i hi) i hi
  · show (if stops.length < stops.length then _ else _ : Int) = _
    rw [if_neg hn]
end
end
end Go.Proofs.YtjhhlmmmkgnhmaaDoor
