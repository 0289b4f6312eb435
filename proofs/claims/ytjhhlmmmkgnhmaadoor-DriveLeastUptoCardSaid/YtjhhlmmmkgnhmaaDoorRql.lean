/- Plain: the next label of a schedule, in the program. -/
import Derived.Test.YtjhhlmmmkgnhmaaDoorRqk
namespace Go.Proofs.YtjhhlmmmkgnhmaaDoor
set_option linter.unusedSimpArgs false
set_option linter.unusedVariables false
set_option linter.unusedSectionVars false

theorem goN_bd {n : T_api_Network} (h : NetOK n) {profile a b t : Int} (ht : inT t) (h0 : (goN n profile a b t).2.2 = 0) : t ≤ (goN n profile a b t).1 ∧ (goN n profile a b t).1 ≤ t + 73728 ∧ 0 ≤ (goN n profile a b t).2.1 ∧ (goN n profile a b t).2.1 ≤ 10000 := by
  unfold goN at h0 ⊢
  split at h0
  · rename_i h1
    rw [if_pos h1]
    split at h0
    · rename_i h2
      rw [if_pos h2]; exact ⟨Int.le_refl _, by simp only; omega, by simp, by simp⟩
    · rename_i h2
      rw [if_neg h2]
      split at h0
      · rename_i h3
        rw [if_pos h3]
        have ha := h.all _ (findA_mem h3).1
        exact ⟨arrA_ge ha t, arrA_le ha ht.1, ha.miles0, ha.miles1⟩
      · simp at h0
  · simp at h0
theorem goN_mono {n : T_api_Network} (h : NetOK n) {profile a b t t' : Int} (ht : t ≤ t') (h0 : (goN n profile a b t).2.2 = 0) : (goN n profile a b t').2.2 = 0 ∧ (goN n profile a b t).1 ≤ (goN n profile a b t').1 ∧ (goN n profile a b t').2.1 = (goN n profile a b t).2.1 := by
  unfold goN at h0 ⊢
  split at h0
  · rename_i h1
    rw [if_pos h1, if_pos h1]
    split at h0
    · rename_i h2
      rw [if_pos h2, if_pos h2]; exact ⟨rfl, ht, rfl⟩
    · rename_i h2
      rw [if_neg h2, if_neg h2]
      split at h0
      · rename_i h3
        rw [if_pos h3, if_pos h3]
        exact ⟨rfl, arrA_mono (h.all _ (findA_mem h3).1) ht, rfl⟩
      · simp at h0
  · simp at h0
theorem goN_err {n : T_api_Network} {profile a b t t' : Int} : (goN n profile a b t).2.2 = (goN n profile a b t').2.2 := by
  unfold goN
  split
  · split
    · rfl
    · split <;> rfl
  · rfl

/-- A stop that is there. -/
structure SOK (s : T_api_Stop) : Prop where
  open0 : 0 ≤ s.open_
  open1 : s.open_ ≤ s.close
  close : s.close ≤ 4096
  serv0 : 0 ≤ s.service
  serv1 : s.service ≤ 4096
def endS (t : T_api_Type) : T_api_Stop := T_api_Stop.mk t.to_ 0 t.close 0
section
variable (n : T_api_Network) (t : T_api_Type) (stops : List T_api_Stop)
def fromP : Nat → Int
  | 0 => t.from_
  | k + 1 => (stops.getD k zStop).place
def stopK (k : Nat) : T_api_Stop := stops.getD k (endS t)
def patch (ts : List T_api_Time) (i : Nat) (dep : Int) (rest : Bool) : List T_api_Time := match ts[i]? with
  | some m => ts.set i (T_api_Time.mk m.arrive m.begin dep rest)
  | none => ts
def depS (l : T_drive_label) (rest : Bool) : Int := l.ready + (if rest = true then t.rest_ else 0)
def sinS (l : T_drive_label) (rest : Bool) : Int := if rest = true then 0 else l.since
def timesS (l : T_drive_label) (k : Nat) (dep : Int) (rest : Bool) : List T_api_Time := if k = 0 then l.sheet.times else patch l.sheet.times (k - 1) dep rest
def shS (l : T_drive_label) (k : Nat) (rest : Bool) (dep : Int) (g : Int × Int × Int) : T_api_Sheet :=
  T_api_Sheet.mk (if k = 0 then rest else l.sheet.rest_) (if k = 0 then dep else l.sheet.depart)
    (if k < stops.length then timesS l k dep rest ++ [T_api_Time.mk g.1 (max g.1 (stopK t stops k).open_) 0 false] else timesS l k dep rest)
    (if k < stops.length then l.sheet.end_ else g.1) (l.sheet.miles + g.2.1)
/-- The next label, or why there is none. -/
def nxtD (l : T_drive_label) (k : Nat) (rest : Bool) (dep sn : Int) : T_drive_label × Int :=
  if (goN n t.profile (fromP t stops k) (stopK t stops k).place dep).2.2 ≠ 0 then (zLab, 12)
  else if (stopK t stops k).close < (goN n t.profile (fromP t stops k) (stopK t stops k).place dep).1 then (zLab, if k < stops.length then 14 else 15)
  else if t.drive < sn + (goN n t.profile (fromP t stops k) (stopK t stops k).place dep).1 - dep then (zLab, 16)
  else (T_drive_label.mk (max (goN n t.profile (fromP t stops k) (stopK t stops k).place dep).1 (stopK t stops k).open_ + (stopK t stops k).service) (sn + (goN n t.profile (fromP t stops k) (stopK t stops k).place dep).1 - dep)
    (shS t stops l k rest dep (goN n t.profile (fromP t stops k) (stopK t stops k).place dep)), 0)
def nxt (l : T_drive_label) (k : Nat) (rest : Bool) : T_drive_label × Int := nxtD n t stops l k rest (depS t l rest) (sinS l rest)
end
/-- What is known of a label after k departures. -/
structure LabI (k : Nat) (l : T_drive_label) : Prop where
  ready0 : 0 ≤ l.ready
  ready1 : l.ready ≤ 8192
  since0 : 0 ≤ l.since
  since1 : l.since ≤ 4096
  miles0 : 0 ≤ l.sheet.miles
  miles1 : l.sheet.miles ≤ 10000 * k
  times : l.sheet.times.length = k
/-- A route on its way. -/
structure TripOK (n : T_api_Network) (t : T_api_Type) (stops : List T_api_Stop) : Prop where
  net : NetOK n
  opn : 0 ≤ t.open_ ∧ t.open_ ≤ t.close
  close : t.close ≤ 4096
  drive : 1 ≤ t.drive ∧ t.drive ≤ 4096
  rest : 0 ≤ t.rest_ ∧ t.rest_ ≤ 4096
  few : stops.length ≤ 20
  stops : ∀ s ∈ stops, SOK s
theorem tripOK {x : T_api_Instance} {r : T_api_Route} (hx : InstOK x) (h : possS x r = true) : TripOK x.net (typS x r) (stopsOf x r) := by
  have hT := hx.typ _ (typ_get (poss_pre h)).2
  refine ⟨hx.net, hT.opn, hT.close, hT.drive, hT.rest, by rw [stops_len]; exact (of_decide_eq_true (poss_pre h)).2.2.2.2, fun s hs => ?_⟩
  obtain ⟨i, hi⟩ := List.getElem?_of_mem hs
  obtain ⟨v, _, hv⟩ := stops_at h hi
  have := stopV_ok hx hv
  exact ⟨this.2.2.1, this.2.2.2.1, this.2.2.2.2.1, this.2.2.2.2.2.1, this.2.2.2.2.2.2⟩
section
variable {n : T_api_Network} {t : T_api_Type} {stops : List T_api_Stop} {l : T_drive_label} {k : Nat} {rest : Bool} {dep sn : Int}
theorem TripOK.stopK (h : TripOK n t stops) (k : Nat) : SOK (stopK t stops k) := by
  unfold Go.Proofs.YtjhhlmmmkgnhmaaDoor.stopK
  rw [List.getD_eq_getElem?_getD]
  cases hs : stops[k]? with
  | some s => exact h.stops s (List.mem_of_getElem? hs)
  | none => exact ⟨Int.le_refl _, by have := h.opn; show 0 ≤ t.close; omega, h.close, Int.le_refl _, by show (0 : Int) ≤ 4096; omega⟩
theorem stopK_lt (h : k < stops.length) : stops[k]? = some (stopK t stops k) := by
  unfold stopK; rw [List.getD_eq_getElem?_getD, List.getElem?_eq_getElem h]; rfl
theorem stopK_end (h : ¬ k < stops.length) : stopK t stops k = endS t := by
  unfold stopK; rw [List.getD_eq_getElem?_getD, List.getElem?_eq_none (by omega)]; rfl
theorem patch_len {ts : List T_api_Time} {i : Nat} : (patch ts i dep rest).length = ts.length := by unfold patch; split <;> simp
theorem timesS_len : (timesS l k dep rest).length = l.sheet.times.length := by unfold timesS; split; rfl; exact patch_len
theorem clone_eq {ts : List T_api_Time} (h : ts.length ≤ 1000) : api_Time__own ts = some ts := by
  unfold api_Time__own
  rw [chk_pos (okN_of (by omega))]
  cases ts with
  | nil => exact amb_same
  | cons a r => rfl
theorem J4_eq {p : T_drive_trip} (hp : p.t.drive ≤ 4096) {rr : List T_api_Time} {rest1 : Bool} {dep1 to_ : Int} {g : Int × Int × Int} {ts : List T_api_Time} {ready fin : Int} (hd : 0 ≤ dep ∧ dep ≤ 20000) (hs : 0 ≤ sn ∧ sn ≤ 4096) (hg : dep ≤ g.1 ∧ g.1 ≤ dep + 73728 ∧ 0 ≤ g.2.1 ∧ g.2.1 ≤ 10000)
    (hm : 0 ≤ l.sheet.miles ∧ l.sheet.miles ≤ 1000000) : drive_trip_next_J4 p l rest dep sn rr rest1 dep1 to_ g ts ready fin = some (if p.t.drive < sn + g.1 - dep then (zLab, 16) else (T_drive_label.mk ready (sn + g.1 - dep) (T_api_Sheet.mk rest1 dep1 ts fin (l.sheet.miles + g.2.1)), 0)) := by
  unfold drive_trip_next_J4
  simp (disch := omega) only [addI, subI, br_if, gtI_t]
  split <;> rfl
theorem J1_eq {p : T_drive_trip} (h : TripOK p.x.net p.t p.stops) (hl : LabI k l) (hk : k ≤ p.stops.length) (hd : 0 ≤ dep ∧ dep ≤ 20000) (hs : 0 ≤ sn ∧ sn ≤ 4096) : drive_trip_next_J1 p l k rest dep sn = some (nxtD p.x.net p.t p.stops l k rest dep sn) := by
  have hfew := h.few
  have hlen := hl.times
  have hm0 := hl.miles0
  have hm1 := hl.miles1
  have hin : inT dep := ⟨hd.1, by omega⟩
  have hSO := h.stopK k
  -- J3, whatever is written into the sheet
  have h3 : ∀ (rr : List T_api_Time) (rest1 : Bool) (dep1 : Int) (ts : List T_api_Time), ts.length = k →
      drive_trip_next_J3 p l k rest dep sn rr ts rest1 dep1 (stopK p.t p.stops k).place = some
        (if (goN p.x.net p.t.profile (fromP p.t p.stops k) (stopK p.t p.stops k).place dep).2.2 ≠ 0 then (zLab, 12)
        else if (stopK p.t p.stops k).close < (goN p.x.net p.t.profile (fromP p.t p.stops k) (stopK p.t p.stops k).place dep).1 then (zLab, if k < p.stops.length then 14 else 15)
        else if p.t.drive < sn + (goN p.x.net p.t.profile (fromP p.t p.stops k) (stopK p.t p.stops k).place dep).1 - dep then (zLab, 16)
        else (T_drive_label.mk (max (goN p.x.net p.t.profile (fromP p.t p.stops k) (stopK p.t p.stops k).place dep).1 (stopK p.t p.stops k).open_ + (stopK p.t p.stops k).service) (sn + (goN p.x.net p.t.profile (fromP p.t p.stops k) (stopK p.t p.stops k).place dep).1 - dep)
          (T_api_Sheet.mk rest1 dep1 (if k < p.stops.length then ts ++ [T_api_Time.mk (goN p.x.net p.t.profile (fromP p.t p.stops k) (stopK p.t p.stops k).place dep).1 (max (goN p.x.net p.t.profile (fromP p.t p.stops k) (stopK p.t p.stops k).place dep).1 (stopK p.t p.stops k).open_) 0 false] else ts)
            (if k < p.stops.length then l.sheet.end_ else (goN p.x.net p.t.profile (fromP p.t p.stops k) (stopK p.t p.stops k).place dep).1) (l.sheet.miles + (goN p.x.net p.t.profile (fromP p.t p.stops k) (stopK p.t p.stops k).place dep).2.1)), 0)) := by
    intro rr rest1 dep1 ts hts
    unfold drive_trip_next_J3
    have hplace : drive_trip_place p (k : Int) = some (fromP p.t p.stops k) := by
      unfold drive_trip_place fromP
      cases k with
      | zero => rfl
      | succ j =>
        have e1 : p.stops[j]? = some (p.stops[j]'(by omega)) := List.getElem?_eq_getElem _
        rw [br_neg (by simp; omega), show subK .i64 ((j + 1 : Nat) : Int) 1 = (j : Int) by rw [subI (by omega) (by omega)]; omega, getI_nat e1, bnd_some]
        simp only [List.getD_eq_getElem?_getD, e1]; rfl
    show bnd (drive_trip_place p (k : Int)) (fun r1 => bnd (network_Go p.x.net p.t.profile r1 (stopK p.t p.stops k).place dep) _) = _
    rw [hplace, bnd_some, go_eq h.net _ _ _ hin, bnd_some]
    generalize hg : goN p.x.net p.t.profile (fromP p.t p.stops k) (stopK p.t p.stops k).place dep = g
    have hbd : g.2.2 = 0 → dep ≤ g.1 ∧ g.1 ≤ dep + 73728 ∧ 0 ≤ g.2.1 ∧ g.2.1 ≤ 10000 := fun h0 => by
      have := goN_bd h.net (profile := p.t.profile) (a := fromP p.t p.stops k) (b := (stopK p.t p.stops k).place) hin (by rw [hg]; exact h0)
      rwa [hg] at this
    by_cases h0 : g.2.2 = 0
    · rw [br_neg (by simpa using h0), if_neg (by simpa using h0)]
      have hb := hbd h0
      by_cases hkl : k < p.stops.length
      · have e1 := stopK_lt (t := p.t) hkl
        rw [br_neg (by simp [lenI]; omega), getI_nat e1, bnd_some]
        generalize stopK p.t p.stops k = s at *
        simp only [if_pos hkl]
        unfold window_Begin
        rw [maxI_eq]
        by_cases hw : s.close < g.1
        · rw [br_pos (by have := hSO.open1; simp; omega), bnd_some, br_pos (by decide), if_pos hw]; rfl
        · have := hSO.open1; have := hSO.close; have := hSO.serv0; have := hSO.serv1; have := hSO.open0
          rw [br_neg (by simp; omega), bnd_some, br_neg (by simp [neI]), chk_pos (okN_of (by simp; omega)), if_neg hw, J4_eq (by have := h.drive; omega) hd hs hb ⟨hm0, by omega⟩]
          rw [addI (by omega) (by omega)]
      · have e1 := stopK_end (t := p.t) hkl
        rw [e1] at hSO hg ⊢
        rw [br_pos (by simp [lenI]; omega)]
        simp only [if_neg hkl]
        by_cases hw : p.t.close < g.1
        · rw [br_pos (by simpa using hw), if_pos (show (endS p.t).close < g.1 from hw)]; rfl
        · rw [br_neg (by simpa using hw), if_neg (show ¬ (endS p.t).close < g.1 from hw), J4_eq (by have := h.drive; omega) hd hs hb ⟨hm0, by omega⟩]
          have e2 : max g.1 (endS p.t).open_ + (endS p.t).service = g.1 := by show max g.1 0 + 0 = g.1; omega
          rw [e2]
    · rw [br_pos (by simpa using h0), if_pos h0]; rfl
  have h2 : ∀ (rr : List T_api_Time) (rest1 : Bool) (dep1 : Int) (ts : List T_api_Time), ts.length = k →
      drive_trip_next_J2 p l k rest dep sn rr ts rest1 dep1 = drive_trip_next_J3 p l k rest dep sn rr ts rest1 dep1 (stopK p.t p.stops k).place := by
    intro rr rest1 dep1 ts hts
    unfold drive_trip_next_J2
    by_cases hkl : k < p.stops.length
    · rw [br_neg (by simp [lenI]; omega), getI_nat (stopK_lt (t := p.t) hkl), bnd_some]
    · rw [br_pos (by simp [lenI]; omega), stopK_end hkl]; rfl
  unfold drive_trip_next_J1
  rw [clone_eq (by omega), bnd_some]
  unfold nxtD shS
  cases k with
  | zero =>
    rw [br_pos (by simp), h2 _ _ _ _ hlen, h3 _ _ _ _ hlen]
    rfl
  | succ j =>
    have e1 : l.sheet.times[j]? = some (l.sheet.times[j]'(by omega)) := List.getElem?_eq_getElem _
    have hs1 : subK .i64 ((j + 1 : Nat) : Int) 1 = (j : Int) := by rw [subI (by omega) (by omega)]; omega
    rw [br_neg (by simp; omega), hs1, getI_nat e1, bnd_some, h2 _ _ _ _ (by simp [setI]; exact hlen), h3 _ _ _ _ (by simp [setI]; exact hlen)]
    have e2 : setI (setI l.sheet.times (j : Int) (T_api_Time.mk (l.sheet.times[j]'(by omega)).arrive (l.sheet.times[j]'(by omega)).begin (l.sheet.times[j]'(by omega)).depart rest)) (j : Int) (T_api_Time.mk (l.sheet.times[j]'(by omega)).arrive (l.sheet.times[j]'(by omega)).begin dep rest) = timesS l (j + 1) dep rest := by
      unfold timesS patch setI
      rw [if_neg (by omega), Nat.add_sub_cancel, e1, Int.toNat_natCast, List.set_set]
    rw [e2]
    rfl
theorem next_eq {p : T_drive_trip} (h : TripOK p.x.net p.t p.stops) (hl : LabI k l) (hk : k ≤ p.stops.length) : drive_trip_next p l k rest = some (nxt p.x.net p.t p.stops l k rest) := by
  have h1 := hl.ready0; have h2 := hl.ready1; have h3 := h.rest; have h4 := hl.since0; have h5 := hl.since1
  unfold drive_trip_next nxt depS sinS
  cases rest with
  | true =>
    rw [br_true, addI (by omega) (by omega), J1_eq h hl hk ⟨by omega, by omega⟩ ⟨by omega, by omega⟩]; rfl
  | false =>
    rw [br_false, J1_eq h hl hk ⟨by omega, by omega⟩ ⟨by omega, by omega⟩]
    simp
theorem nxt_ok (h : TripOK n t stops) (hl : LabI k l) (h0 : (nxt n t stops l k rest).2 = 0) :
    (goN n t.profile (fromP t stops k) (stopK t stops k).place (depS t l rest)).2.2 = 0 ∧ (goN n t.profile (fromP t stops k) (stopK t stops k).place (depS t l rest)).1 ≤ (stopK t stops k).close ∧
    sinS l rest + (goN n t.profile (fromP t stops k) (stopK t stops k).place (depS t l rest)).1 - depS t l rest ≤ t.drive ∧
    (nxt n t stops l k rest).1 = T_drive_label.mk (max (goN n t.profile (fromP t stops k) (stopK t stops k).place (depS t l rest)).1 (stopK t stops k).open_ + (stopK t stops k).service) (sinS l rest + (goN n t.profile (fromP t stops k) (stopK t stops k).place (depS t l rest)).1 - depS t l rest)
      (shS t stops l k rest (depS t l rest) (goN n t.profile (fromP t stops k) (stopK t stops k).place (depS t l rest))) := by
  unfold nxt nxtD at h0 ⊢
  split at h0
  · simp at h0
  · rename_i h1
    split at h0
    · simp only at h0; split at h0 <;> simp at h0
    · rename_i h2
      split at h0
      · simp at h0
      · rename_i h3
        rw [if_neg h1, if_neg h2, if_neg h3]
        exact ⟨by simpa using h1, by omega, by omega, rfl⟩
theorem dep_in (h : TripOK n t stops) (hl : LabI k l) : inT (depS t l rest) := by
  have h1 := hl.ready0; have h2 := hl.ready1; have h3 := h.rest
  unfold depS inT
  split <;> omega
theorem nxt_lab (h : TripOK n t stops) (hl : LabI k l) (hk : k < stops.length) (h0 : (nxt n t stops l k rest).2 = 0) : LabI (k + 1) (nxt n t stops l k rest).1 := by
  obtain ⟨g0, g1, g2, g3⟩ := nxt_ok h hl h0
  have hin := dep_in (rest := rest) h hl
  have hb := goN_bd h.net hin g0
  have hS := h.stopK k
  have := hS.open0; have := hS.open1; have := hS.close; have := hS.serv0; have := hS.serv1
  have hd := h.drive
  have hm0 := hl.miles0; have hm1 := hl.miles1
  have hsn : 0 ≤ sinS l rest := by unfold sinS; split; omega; exact hl.since0
  unfold inT at hin
  rw [g3]
  refine ⟨by simp only; omega, by simp only; omega, by simp only; omega, by simp only; omega, ?_, ?_, ?_⟩
  · show 0 ≤ l.sheet.miles + _; omega
  · show l.sheet.miles + _ ≤ _; rw [Int.natCast_add, Int.mul_add]; omega
  · show (if k < stops.length then _ else _ : List T_api_Time).length = _
    rw [if_pos hk, List.length_append, timesS_len, hl.times]; rfl
end
end Go.Proofs.YtjhhlmmmkgnhmaaDoor
