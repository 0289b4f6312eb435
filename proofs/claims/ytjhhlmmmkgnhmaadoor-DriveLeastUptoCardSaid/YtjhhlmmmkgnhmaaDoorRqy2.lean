/- Plain: the program's best schedule: the first one that ends first. -/
import Derived.Test.YtjhhlmmmkgnhmaaDoorRqy
namespace Go.Proofs.YtjhhlmmmkgnhmaaDoor
set_option linter.unusedSimpArgs false
set_option linter.unusedVariables false
set_option linter.unusedSectionVars false
section
variable (n : T_api_Network) (t : T_api_Type) (stops : List T_api_Stop) (start : Int) (rests : List Bool)
noncomputable def stageB : Nat → List (List Bool)
  | 0 => [[]]
  | k + 1 => (itemsB rests (stageB k) k).foldl (stepB n t stops start) []
/-- All departures, as is given, and possible. -/
def fullB (b : List Bool) : Prop := b.length = stops.length + 1 ∧ folB rests b ∧ okB n t stops start b
noncomputable def endB (b : List Bool) : Int := (lbB n t stops start b).sheet.end_
/-- The first that ends first. -/
def minB (b : List Bool) : Prop := ∀ q, fullB n t stops start rests q → endB n t stops start b ≤ endB n t stops start q ∧ (endB n t stops start q = endB n t stops start b → valB b ≤ valB q)
end
section
variable {n : T_api_Network} {t : T_api_Type} {stops : List T_api_Stop} {start : Int} {rests : List Bool}
theorem stage_ok (hT : TripOK n t stops) (hs : 0 ≤ start ∧ start ≤ 4096) : ∀ k, k ≤ stops.length + 1 → StB n t stops start rests k (stageB n t stops start rests k)
  | 0, _ => StB.zero
  | k + 1, hk => StB.next hT hs (stage_ok hT hs k (by omega)) (by omega)
theorem end_ready (hT : TripOK n t stops) (hs : 0 ≤ start ∧ start ≤ 4096) {b : List Bool} (hl : b.length = stops.length + 1) (hok : okB n t stops start b) : endB n t stops start b = (lbB n t stops start b).ready := by
  obtain ⟨b0, c, rfl⟩ : ∃ b0 c, b = b0 ++ [c] := by
    rcases List.eq_nil_or_concat b with rfl | ⟨b0, c, rfl⟩
    · simp at hl
    · exact ⟨b0, c, by simp⟩
  have hb0 : b0.length = stops.length := by simpa using hl
  obtain ⟨o1, o2⟩ := okB_snoc.1 hok
  have hL := lbB_labI hT hs (by omega) o1
  obtain ⟨g0, g1, g2, g3⟩ := nxt_ok hT hL o2
  have hin := dep_in (rest := c) hT hL
  have hg := (goN_bd hT.net hin g0).1
  unfold inT at hin
  unfold endB
  rw [lbB_snoc hok, g3]
  have hn : ¬ b0.length < stops.length := by omega
  rw [stopK_end hn] at hg ⊢
  show (if b0.length < stops.length then _ else _ : Int) = max _ (0 : Int) + 0
  rw [if_neg hn]
  omega
theorem pick_fold (e : List Bool → Int) : ∀ (items S : List (List Bool)) (b : List Bool), b ∈ S → (∀ q ∈ S, e b ≤ e q ∧ (e q = e b → valB b ≤ valB q)) → (∀ s ∈ S, ∀ q ∈ items, valB s < valB q) → items.Pairwise (fun a b => valB a < valB b) →
    (items.foldl (fun b q => if e q < e b then q else b) b) ∈ S ++ items ∧ ∀ q ∈ S ++ items, e (items.foldl (fun b q => if e q < e b then q else b) b) ≤ e q ∧ (e q = e (items.foldl (fun b q => if e q < e b then q else b) b) → valB (items.foldl (fun b q => if e q < e b then q else b) b) ≤ valB q)
  | [], S, b, hb, hm, _, _ => by simpa using ⟨hb, hm⟩
  | x :: items, S, b, hb, hm, hv, hp => by
    rw [List.pairwise_cons] at hp
    have e1 : S ++ x :: items = (S ++ [x]) ++ items := by simp
    rw [List.foldl_cons, e1]
    refine pick_fold e items (S ++ [x]) _ ?_ ?_ (fun s hs q hq => ?_) hp.2
    · split
      · simp
      · simp [hb]
    · intro q hq
      rcases List.mem_append.1 hq with h | h
      · have := hm q h
        split
        · exact ⟨by omega, fun h2 => by omega⟩
        · exact this
      · rw [List.mem_singleton.1 h]
        split
        · exact ⟨Int.le_refl _, fun _ => Nat.le_refl _⟩
        · exact ⟨by omega, fun _ => Nat.le_of_lt (hv b hb x (by simp))⟩
    · rcases List.mem_append.1 hs with h | h
      · exact hv s h q (by simp [hq])
      · rw [List.mem_singleton.1 h]; exact hp.1 q hq
theorem best_post {x : T_api_Instance} {r : T_api_Route} (hx : InstOK x) (hR : RouteI r) (h9 : ¬ (9 < r.visits.length ∧ r.visits.length ≤ 20)) :
    post (drive_Best x r) fun res => (¬ (possS x r = true ∧ r.rests.length ≤ r.visits.length + 1) ∧ res = (zSheet, 2)) ∨
      ((possS x r = true ∧ r.rests.length ≤ r.visits.length + 1) ∧ ((∃ b, fullB x.net (typS x r) (stopsOf x r) r.start r.rests b ∧ minB x.net (typS x r) (stopsOf x r) r.start r.rests b ∧ res = ((lbB x.net (typS x r) (stopsOf x r) r.start b).sheet, 0)) ∨
        ((∀ b, ¬ fullB x.net (typS x r) (stopsOf x r) r.start r.rests b) ∧ res = runS x.net (typS x r) (stopsOf x r) r.start (r.rests ++ List.replicate (r.visits.length + 1 - r.rests.length) false)))) := by
  have hv := hR.visits
  have hr := hR.rests
  unfold drive_Best
  show post (bnd (drive_plan x r) _) _
  have hadd : addK .i64 (lenI r.visits) 1 = ((r.visits.length + 1 : Nat) : Int) := by unfold lenI; rw [addI (by omega) (by omega)]; omega
  rw [plan_eq, bnd_some, hadd]
  by_cases hp : possS x r = true
  · rw [if_pos hp]
    have h5 := of_decide_eq_true (poss_pre hp)
    have hsl := stops_len (x := x) (r := r)
    have hT := tripOK hx hp
    have hs : 0 ≤ r.start ∧ r.start ≤ 4096 := ⟨h5.2.2.1, h5.2.2.2.1⟩
    by_cases hc : r.rests.length ≤ r.visits.length + 1
    · rw [br_neg (by simp only [Bool.not_true, Bool.false_or, gtI_f, lenI]; omega)]
      generalize hpp : T_drive_trip.mk x (typS x r) r (stopsOf x r) = p
      have hbeg : drive_trip_begin p = some (begS (typS x r) r.start) := by
        rw [← hpp]; unfold drive_trip_begin begS; rw [maxI_eq]; rfl
      show post (bnd (drive_trip_begin p) _) _
      rw [hbeg, bnd_some]
      have hlb0 : ([begS (typS x r) r.start] : List T_drive_label) = (stageB x.net (typS x r) (stopsOf x r) r.start r.rests 0).map (lbB x.net (typS x r) (stopsOf x r) r.start) := rfl
      have hgrow : ∀ k, k ≤ r.visits.length → drive_trip_grow p ((stageB x.net (typS x r) (stopsOf x r) r.start r.rests k).map (lbB x.net (typS x r) (stopsOf x r) r.start)) (k : Int) = some ((stageB x.net (typS x r) (stopsOf x r) r.start r.rests (k + 1)).map (lbB x.net (typS x r) (stopsOf x r) r.start)) := fun k hk => by
        have := grow_eq (p := T_drive_trip.mk x (typS x r) r (stopsOf x r)) (start := r.start) hT hs (stage_ok hT hs k (by omega)) (by show k ≤ (stopsOf x r).length; omega) (by show (stopsOf x r).length ≤ 9; omega) hr
        rw [hpp] at this
        rw [← hpp] at this ⊢
        exact this
      have hloop : loopF (fun s => drive_Best_L1 r (p, true) s.1 s.2) ((stageB x.net (typS x r) (stopsOf x r) r.start r.rests 0).map (lbB x.net (typS x r) (stopsOf x r) r.start), 0) = some ((stageB x.net (typS x r) (stopsOf x r) r.start r.rests (r.visits.length + 1)).map (lbB x.net (typS x r) (stopsOf x r) r.start)) := by
        refine loop_for (B := fun s : List T_drive_label × Int => drive_Best_L1 r (p, true) s.1 s.2) (r.visits.length + 1) (fun k => ((stageB x.net (typS x r) (stopsOf x r) r.start r.rests k).map (lbB x.net (typS x r) (stopsOf x r) r.start), (k : Int))) (by omega) (fun k hk => ?_) ?_
        · show drive_Best_L1 r (p, true) ((stageB x.net (typS x r) (stopsOf x r) r.start r.rests k).map (lbB x.net (typS x r) (stopsOf x r) r.start)) (k : Int) = some (.inl ((stageB x.net (typS x r) (stopsOf x r) r.start r.rests (k + 1)).map (lbB x.net (typS x r) (stopsOf x r) r.start), ((k + 1 : Nat) : Int)))
          unfold drive_Best_L1
          rw [hadd, br_pos (by simp only [ltI_t]; omega)]
          show bnd (drive_trip_grow p _ (k : Int)) _ = _
          rw [hgrow k (by omega), bnd_some, inc (n := r.visits.length + 1) hk (by omega)]
          rfl
        · show drive_Best_L1 r (p, true) _ ((r.visits.length + 1 : Nat) : Int) = _
          unfold drive_Best_L1
          rw [hadd, br_neg (by simp)]
      show post (bnd (loopF (fun s => drive_Best_L1 r (p, true) s.1 s.2) ([begS (typS x r) r.start], 0)) _) _
      rw [hlb0, hloop, bnd_some]
      have hSt := stage_ok (rests := r.rests) hT hs (r.visits.length + 1) (by omega)
      generalize stageB x.net (typS x r) (stopsOf x r) r.start r.rests (r.visits.length + 1) = P at hSt
      have hPl : P.length ≤ 1024 := Nat.le_trans hSt.len (Nat.le_trans (Nat.pow_le_pow_right (by omega) (show r.visits.length + 1 ≤ 10 by omega)) (by omega))
      refine post_br (fun hb => ?_) (fun hb => ?_)
      · simp only [eqI_t, lenI, List.length_map] at hb
        have hP0 : P = [] := List.length_eq_zero_iff.1 (by omega)
        have hmk : mkI ((r.visits.length + 1 : Nat) : Int) ((r.visits.length + 1 : Nat) : Int) 1 false = some (List.replicate (r.visits.length + 1) false) := by
          unfold mkI; rw [if_pos (by omega)]; simp
        have hcpy : cpyL (List.replicate (r.visits.length + 1) false) r.rests = r.rests ++ List.replicate (r.visits.length + 1 - r.rests.length) false := by
          unfold cpyL cpyN
          rw [List.length_replicate, Nat.min_eq_left hc, List.take_length, List.drop_replicate]
        rw [hmk, bnd_some]
        have hrun := run_eq (p := T_drive_trip.mk x (typS x r) r (stopsOf x r)) (rests := r.rests ++ List.replicate (r.visits.length + 1 - r.rests.length) false) hT hs (by show _ = (stopsOf x r).length + 1; simp; omega)
        rw [hpp] at hrun
        show post (bnd (drive_trip_run p (cpyL (List.replicate (r.visits.length + 1) false) r.rests)) _) _
        rw [hcpy, hrun, bnd_some]
        refine post_some.2 (.inr ⟨⟨hp, hc⟩, .inr ⟨fun b hb => ?_, ?_⟩⟩)
        · obtain ⟨a, ha, _⟩ := hSt.cov b (by rw [hb.1]; omega) hb.2.1 hb.2.2
          rw [hP0] at ha; simp at ha
        · rw [← hpp]
      · simp only [eqI_f, lenI, List.length_map] at hb
        obtain ⟨b0, tl, rfl⟩ : ∃ b0 tl, P = b0 :: tl := by
          cases P with
          | nil => exact absurd rfl hb
          | cons a b => exact ⟨a, b, rfl⟩
        have hinc := hSt.inc
        rw [List.pairwise_cons] at hinc
        rw [List.map_cons, show getI (lbB x.net (typS x r) (stopsOf x r) r.start b0 :: tl.map (lbB x.net (typS x r) (stopsOf x r) r.start)) 0 = some (lbB x.net (typS x r) (stopsOf x r) r.start b0) from getI_nat (k := 0) rfl, bnd_some]
        have hsl1 : slcI (lbB x.net (typS x r) (stopsOf x r) r.start b0 :: tl.map (lbB x.net (typS x r) (stopsOf x r) r.start)) 1 (lenI (lbB x.net (typS x r) (stopsOf x r) r.start b0 :: tl.map (lbB x.net (typS x r) (stopsOf x r) r.start))) = some (tl.map (lbB x.net (typS x r) (stopsOf x r) r.start)) := by
          unfold slcI lenI
          rw [if_pos ⟨by omega, by simp only [List.length_cons]; omega, Int.le_refl _⟩, show (1 : Int).toNat = 1 from rfl, Int.toNat_natCast, List.drop_one, List.tail_cons, List.length_cons, Nat.add_sub_cancel, List.take_length]
        rw [hsl1, bnd_some]
        obtain ⟨pk1, pk2⟩ := pick_fold (endB x.net (typS x r) (stopsOf x r) r.start) tl [b0] b0 (by simp) (fun q hq => by rw [List.mem_singleton.1 hq]; exact ⟨Int.le_refl _, fun _ => Nat.le_refl _⟩) (fun s hs' q hq => by rw [List.mem_singleton.1 hs']; exact hinc.1 q hq) hinc.2
        have hl2 : loopF (fun s => drive_Best_L2 (tl.map (lbB x.net (typS x r) (stopsOf x r) r.start)) s.1 s.2) (lbB x.net (typS x r) (stopsOf x r) r.start b0, 0) = some (lbB x.net (typS x r) (stopsOf x r) r.start (tl.foldl (fun b q => if endB x.net (typS x r) (stopsOf x r) r.start q < endB x.net (typS x r) (stopsOf x r) r.start b then q else b) b0)) := by
          have e2 := loop_for (B := fun s : T_drive_label × Int => drive_Best_L2 (tl.map (lbB x.net (typS x r) (stopsOf x r) r.start)) s.1 s.2) (e := lbB x.net (typS x r) (stopsOf x r) r.start (tl.foldl (fun b q => if endB x.net (typS x r) (stopsOf x r) r.start q < endB x.net (typS x r) (stopsOf x r) r.start b then q else b) b0))
            tl.length (fun i => (lbB x.net (typS x r) (stopsOf x r) r.start ((tl.take i).foldl (fun b q => if endB x.net (typS x r) (stopsOf x r) r.start q < endB x.net (typS x r) (stopsOf x r) r.start b then q else b) b0), (i : Int))) (by simp only [List.length_cons] at hPl; omega) (fun i hi => ?_) ?_
          · exact e2
          · have e3 : tl[i]? = some tl[i] := List.getElem?_eq_getElem hi
            rw [List.take_add_one, e3]
            simp only [Option.toList, List.foldl_append, List.foldl_cons, List.foldl_nil]
            generalize (tl.take i).foldl (fun b q => if endB x.net (typS x r) (stopsOf x r) r.start q < endB x.net (typS x r) (stopsOf x r) r.start b then q else b) b0 = bb
            show drive_Best_L2 (tl.map (lbB x.net (typS x r) (stopsOf x r) r.start)) (lbB x.net (typS x r) (stopsOf x r) r.start bb) (i : Int) = _
            unfold drive_Best_L2
            rw [br_pos (by simp [lenI]; exact hi), getI_nat (show (tl.map (lbB x.net (typS x r) (stopsOf x r) r.start))[i]? = some (lbB x.net (typS x r) (stopsOf x r) r.start tl[i]) by rw [List.getElem?_map, e3]; rfl), bnd_some, inc (n := tl.length) hi (by simp only [List.length_cons] at hPl; omega), show ((i + 1 : Nat) : Int) = (i : Int) + 1 by omega]
            generalize tl[i] = q
            by_cases hlt : endB x.net (typS x r) (stopsOf x r) r.start q < endB x.net (typS x r) (stopsOf x r) r.start bb
            · rw [if_pos hlt, br_pos (by simp only [ltI_t]; exact hlt)]
            · rw [if_neg hlt, br_neg (by simp only [ltI_f]; unfold endB at hlt; omega)]
          · show drive_Best_L2 (tl.map (lbB x.net (typS x r) (stopsOf x r) r.start)) _ (tl.length : Int) = _
            unfold drive_Best_L2
            rw [br_neg (by simp [lenI]), List.take_length]
        show post (bnd (loopF (fun s => drive_Best_L2 (tl.map (lbB x.net (typS x r) (stopsOf x r) r.start)) s.1 s.2) (lbB x.net (typS x r) (stopsOf x r) r.start b0, 0)) _) _
        rw [hl2, bnd_some]
        generalize tl.foldl (fun b q => if endB x.net (typS x r) (stopsOf x r) r.start q < endB x.net (typS x r) (stopsOf x r) r.start b then q else b) b0 = bb at pk1 pk2
        rw [show [b0] ++ tl = b0 :: tl from rfl] at pk1 pk2
        obtain ⟨m1, m2, m3⟩ := hSt.ok bb pk1
        refine post_some.2 (.inr ⟨⟨hp, hc⟩, .inl ⟨bb, ⟨by rw [m2]; omega, m3, m1⟩, fun q hq => ?_, rfl⟩⟩)
        obtain ⟨a, ha, hva, hbt⟩ := hSt.cov q (by rw [hq.1]; omega) hq.2.1 hq.2.2
        obtain ⟨a1, a2, a3⟩ := hSt.ok a ha
        have he : endB x.net (typS x r) (stopsOf x r) r.start a = endB x.net (typS x r) (stopsOf x r) r.start q := by
          rw [end_ready hT hs (by rw [a2]; omega) a1, end_ready hT hs hq.1 hq.2.2]; exact hbt.1
        have := pk2 a ha
        rw [he] at this
        exact ⟨this.1, fun h => Nat.le_trans (this.2 h) hva⟩
    · rw [br_pos (by simp only [Bool.not_true, Bool.false_or, gtI_t, lenI]; omega)]
      exact post_some.2 (.inl ⟨fun h => hc h.2, rfl⟩)
  · rw [if_neg hp, br_pos (by simp [zTrip])]
    exact post_some.2 (.inl ⟨fun h => hp h.1, rfl⟩)
end
end Go.Proofs.YtjhhlmmmkgnhmaaDoor
