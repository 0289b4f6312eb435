/- Plain: the program's best schedule. -/
import Derived.Test.YtjhhlmmmkgnhmaaDoorRqx
namespace Go.Proofs.YtjhhlmmmkgnhmaaDoor
set_option linter.unusedSimpArgs false
set_option linter.unusedVariables false
set_option linter.unusedSectionVars false
theorem contains_post {L : List T_drive_label} {c : T_drive_label} (hL : L.length ≤ 1048576) : post (drive_label__91 L c) fun b => (b = true ↔ ∃ m ∈ L, m.ready = c.ready ∧ m.since ≤ c.since) := by
  unfold drive_label__91 drive_label__f110_91
  show post (bnd (bnd (loopF (fun s => drive_label__f110_91_L1 L c s) 0) _) _) _
  have h : post (loopF (fun s => drive_label__f110_91_L1 L c s) 0) fun e => (∃ u, e = .inl u ∧ ¬ ∃ m ∈ L, m.ready = c.ready ∧ m.since ≤ c.since) ∨ (∃ i : Nat, e = .inr (i : Int) ∧ ∃ m ∈ L, m.ready = c.ready ∧ m.since ≤ c.since) := by
    refine post_scan (B := fun s => drive_label__f110_91_L1 L c s) L.length _ (fun i => ∀ m, L[i]? = some m → ¬ (m.ready = c.ready ∧ m.since ≤ c.since)) (by omega) (fun i hi => ?_) ?_
    · show post (drive_label__f110_91_L1 L c (i : Int)) _
      unfold drive_label__f110_91_L1
      have e1 : L[i]? = some L[i] := List.getElem?_eq_getElem hi
      rw [br_pos (by simp [lenI]; omega), getI_nat e1, bnd_some, inc hi hL]
      show post (bnd (drive_trip_grow_1 L[i] c) _) _
      have hb : drive_trip_grow_1 L[i] c = some (eqI L[i].ready c.ready && leI L[i].since c.since) := rfl
      rw [hb, bnd_some]
      refine post_br (fun h => post_some.2 (.inr ⟨_, rfl, .inr ⟨i, rfl, L[i], List.getElem_mem hi, ?_⟩⟩)) (fun h => post_some.2 (.inl ⟨rfl, fun m hm => ?_⟩))
      · simpa only [andT, eqI_t, leI_t] using h
      · rw [e1] at hm; cases hm
        intro hh
        have : (eqI L[i].ready c.ready && leI L[i].since c.since) = true := by simp only [andT, eqI_t, leI_t]; exact hh
        rw [this] at h; cases h
    · show post (drive_label__f110_91_L1 L c (L.length : Int)) _
      unfold drive_label__f110_91_L1
      rw [br_neg (by simp [lenI])]
      refine post_some.2 ⟨_, rfl, fun h => .inl ⟨_, rfl, ?_⟩⟩
      rintro ⟨m, hm, hh⟩
      obtain ⟨i, hi⟩ := List.getElem?_of_mem hm
      exact h i (List.getElem?_eq_some_iff.1 hi).1 m hi hh
  obtain ⟨e, he, h⟩ := h
  rw [he, bnd_some]
  rcases h with ⟨u, rfl, h⟩ | ⟨i, rfl, h⟩
  · rw [sel_inl, bnd_some]
    refine post_some.2 ⟨fun hh => ?_, fun hh => absurd hh h⟩
    simp only [geI_t] at hh; omega
  · rw [sel_inr, bnd_some]
    refine post_some.2 ⟨fun _ => h, fun _ => ?_⟩
    simp only [geI_t]; omega
theorem inc_len : ∀ {P : List (List Bool)} {lo hi : Nat}, P.Pairwise (fun a b => valB a < valB b) → (∀ b ∈ P, lo ≤ valB b ∧ valB b < hi) → P.length + lo ≤ hi ∨ P = []
  | [], _, _, _, _ => .inr rfl
  | a :: P, lo, hi, h, hb => by
    rw [List.pairwise_cons] at h
    have ha := hb a (by simp)
    rcases inc_len (P := P) (lo := lo + 1) (hi := hi) h.2 (fun b hb' => ⟨by have := h.1 b hb'; omega, (hb b (by simp [hb'])).2⟩) with h1 | h1
    · left; simp only [List.length_cons]; omega
    · left; rw [h1]; simp only [List.length_singleton]; omega
section
variable {n : T_api_Network} {t : T_api_Type} {stops : List T_api_Stop} {start : Int} {rests : List Bool}
theorem StB.len {k : Nat} {P : List (List Bool)} (h : StB n t stops start rests k P) : P.length ≤ 2 ^ k := by
  rcases inc_len (lo := 0) (hi := 2 ^ k) h.inc (fun b hb => ⟨Nat.zero_le _, by have := valB_lt b; rwa [(h.ok b hb).2.1] at this⟩) with h1 | h1
  · omega
  · rw [h1]; exact Nat.zero_le _
theorem stepB_len {out : List (List Bool)} {b : List Bool} : (stepB n t stops start out b).length ≤ out.length + 1 := by unfold stepB; split <;> simp
theorem fold_len : ∀ {items out : List (List Bool)}, (items.foldl (stepB n t stops start) out).length ≤ out.length + items.length
  | [], out => by simp
  | x :: items, out => by
    rw [List.foldl_cons]
    have h1 := fold_len (items := items) (out := stepB n t stops start out x)
    have h2 := stepB_len (n := n) (t := t) (stops := stops) (start := start) (out := out) (b := x)
    simp only [List.length_cons]; omega
theorem chB_len (k : Nat) : (chB rests k).length ≤ 2 := by unfold chB; split <;> simp
theorem fold_items {P : List (List Bool)} {k : Nat} {out : List (List Bool)} : (itemsB rests P k).foldl (stepB n t stops start) out = P.foldl (fun out a => ((chB rests k).map fun c => a ++ [c]).foldl (stepB n t stops start) out) out := by
  unfold itemsB
  induction P generalizing out with
  | nil => rfl
  | cons a P ih => rw [List.flatMap_cons, List.foldl_append, ih, List.foldl_cons]
theorem fold_len2 {k : Nat} : ∀ {P : List (List Bool)} {out : List (List Bool)}, (P.foldl (fun out a => ((chB rests k).map fun c => a ++ [c]).foldl (stepB n t stops start) out) out).length ≤ out.length + 2 * P.length
  | [], out => by simp
  | a :: P, out => by
    rw [List.foldl_cons]
    have h1 := fold_len2 (k := k) (P := P) (out := ((chB rests k).map fun c => a ++ [c]).foldl (stepB n t stops start) out)
    have h2 := fold_len (n := n) (t := t) (stops := stops) (start := start) (items := (chB rests k).map fun c => a ++ [c]) (out := out)
    have h3 := chB_len (rests := rests) k
    rw [List.length_map] at h2
    simp only [List.length_cons]; omega
/-- A stage of the program. -/
theorem grow_eq {p : T_drive_trip} (hT : TripOK p.x.net p.t p.stops) (hs : 0 ≤ start ∧ start ≤ 4096) {k : Nat} {P : List (List Bool)} (hP : StB p.x.net p.t p.stops start p.r.rests k P) (hk : k ≤ p.stops.length) (h9 : p.stops.length ≤ 9) (hr : p.r.rests.length ≤ 1048576) :
    drive_trip_grow p (P.map (lbB p.x.net p.t p.stops start)) k = some (((itemsB p.r.rests P k).foldl (stepB p.x.net p.t p.stops start) []).map (lbB p.x.net p.t p.stops start)) := by
  have hPl : P.length ≤ 512 := Nat.le_trans hP.len (Nat.le_trans (Nat.pow_le_pow_right (by omega) (show k ≤ 9 by omega)) (by omega))
  have hJ : drive_trip_grow_J1 p (P.map (lbB p.x.net p.t p.stops start)) k (chB p.r.rests k) = some (((itemsB p.r.rests P k).foldl (stepB p.x.net p.t p.stops start) []).map (lbB p.x.net p.t p.stops start)) := by
    unfold drive_trip_grow_J1
    rw [fold_items]
    have hloop : loopF (fun s => drive_trip_grow_L1 p (P.map (lbB p.x.net p.t p.stops start)) k (chB p.r.rests k) s.1 s.2) ([], 0) = some ((P.foldl (fun out a => ((chB p.r.rests k).map fun c => a ++ [c]).foldl (stepB p.x.net p.t p.stops start) out) []).map (lbB p.x.net p.t p.stops start)) := by
      have e := loop_for (B := fun s : List T_drive_label × Int => drive_trip_grow_L1 p (P.map (lbB p.x.net p.t p.stops start)) k (chB p.r.rests k) s.1 s.2) (e := (P.foldl (fun out a => ((chB p.r.rests k).map fun c => a ++ [c]).foldl (stepB p.x.net p.t p.stops start) out) []).map (lbB p.x.net p.t p.stops start))
        P.length (fun v => (((P.take v).foldl (fun out a => ((chB p.r.rests k).map fun c => a ++ [c]).foldl (stepB p.x.net p.t p.stops start) out) []).map (lbB p.x.net p.t p.stops start), (v : Int))) (by omega) (fun v hv => ?_) ?_
      · exact e
      · have e1 : P[v]? = some P[v] := List.getElem?_eq_getElem hv
        obtain ⟨q1, q2, q3⟩ := hP.ok _ (List.getElem_mem hv)
        have hQl := fold_len2 (n := p.x.net) (t := p.t) (stops := p.stops) (start := start) (rests := p.r.rests) (k := k) (P := P.take v) (out := [])
        rw [List.length_take, List.length_nil] at hQl
        have hLI := lbB_labI hT hs (by omega) q1
        rw [q2] at hLI
        rw [List.take_add_one, e1]
        simp only [Option.toList, List.foldl_append, List.foldl_cons, List.foldl_nil]
        generalize (P.take v).foldl (fun out a => ((chB p.r.rests k).map fun c => a ++ [c]).foldl (stepB p.x.net p.t p.stops start) out) [] = Q at hQl
        show drive_trip_grow_L1 p (P.map (lbB p.x.net p.t p.stops start)) k (chB p.r.rests k) (Q.map (lbB p.x.net p.t p.stops start)) (v : Int) = _
        unfold drive_trip_grow_L1
        rw [br_pos (by simp [lenI]; exact hv), getI_nat (show (P.map (lbB p.x.net p.t p.stops start))[v]? = some (lbB p.x.net p.t p.stops start P[v]) by rw [List.getElem?_map, e1]; rfl), bnd_some, inc (n := P.length) hv (by omega)]
        generalize P[v] = a at *
        have hcl := chB_len (rests := p.r.rests) k
        have hl2 : loopF (fun s => drive_trip_grow_L2 p (P.map (lbB p.x.net p.t p.stops start)) k (chB p.r.rests k) v (lbB p.x.net p.t p.stops start a) s.1 s.2) (Q.map (lbB p.x.net p.t p.stops start), 0) = some ((((chB p.r.rests k).map fun c => a ++ [c]).foldl (stepB p.x.net p.t p.stops start) Q).map (lbB p.x.net p.t p.stops start)) := by
          have e2 := loop_for (B := fun s : List T_drive_label × Int => drive_trip_grow_L2 p (P.map (lbB p.x.net p.t p.stops start)) k (chB p.r.rests k) v (lbB p.x.net p.t p.stops start a) s.1 s.2) (e := (((chB p.r.rests k).map fun c => a ++ [c]).foldl (stepB p.x.net p.t p.stops start) Q).map (lbB p.x.net p.t p.stops start))
            (chB p.r.rests k).length (fun i => (((((chB p.r.rests k).take i).map fun c => a ++ [c]).foldl (stepB p.x.net p.t p.stops start) Q).map (lbB p.x.net p.t p.stops start), (i : Int))) (by omega) (fun i hi => ?_) ?_
          · exact e2
          · have e3 : (chB p.r.rests k)[i]? = some (chB p.r.rests k)[i] := List.getElem?_eq_getElem hi
            have hRl := fold_len (n := p.x.net) (t := p.t) (stops := p.stops) (start := start) (items := ((chB p.r.rests k).take i).map fun c => a ++ [c]) (out := Q)
            rw [List.length_map, List.length_take] at hRl
            rw [List.take_add_one, e3]
            simp only [Option.toList, List.map_append, List.map_cons, List.map_nil, List.foldl_append, List.foldl_cons, List.foldl_nil]
            generalize (((chB p.r.rests k).take i).map fun c => a ++ [c]).foldl (stepB p.x.net p.t p.stops start) Q = R at hRl
            show drive_trip_grow_L2 p (P.map (lbB p.x.net p.t p.stops start)) k (chB p.r.rests k) v (lbB p.x.net p.t p.stops start a) (R.map (lbB p.x.net p.t p.stops start)) (i : Int) = _
            unfold drive_trip_grow_L2
            rw [br_pos (by simp [lenI]; exact hi), getI_nat e3, bnd_some, inc (n := (chB p.r.rests k).length) hi (by omega)]
            generalize (chB p.r.rests k)[i] = c at *
            show bnd (drive_trip_next p (lbB p.x.net p.t p.stops start a) k c) _ = _
            rw [next_eq hT hLI hk, bnd_some]
            have hcast : ((i + 1 : Nat) : Int) = (i : Int) + 1 := by omega
            rw [hcast]
            by_cases h0 : (nxt p.x.net p.t p.stops (lbB p.x.net p.t p.stops start a) k c).2 = 0
            · have hok : okB p.x.net p.t p.stops start (a ++ [c]) := okB_snoc.2 ⟨q1, by rw [q2]; exact h0⟩
              have hlb := lbB_snoc hok
              rw [q2] at hlb
              rw [br_pos (by simpa using h0)]
              obtain ⟨bb, hb1, hb2⟩ := contains_post (L := R.map (lbB p.x.net p.t p.stops start)) (c := (nxt p.x.net p.t p.stops (lbB p.x.net p.t p.stops start a) k c).1) (by rw [List.length_map]; omega)
              show bnd (drive_label__91 (R.map (lbB p.x.net p.t p.stops start)) (nxt p.x.net p.t p.stops (lbB p.x.net p.t p.stops start a) k c).1) _ = _
              rw [hb1, bnd_some]
              have hiff : (∃ m ∈ R.map (lbB p.x.net p.t p.stops start), m.ready = (nxt p.x.net p.t p.stops (lbB p.x.net p.t p.stops start a) k c).1.ready ∧ m.since ≤ (nxt p.x.net p.t p.stops (lbB p.x.net p.t p.stops start a) k c).1.since) ↔ ∃ d ∈ R, beatB p.x.net p.t p.stops start d (a ++ [c]) := by
                unfold beatB
                rw [hlb]
                constructor
                · rintro ⟨m, hm, h1⟩
                  obtain ⟨d, hd, rfl⟩ := List.mem_map.1 hm
                  exact ⟨d, hd, h1⟩
                · rintro ⟨d, hd, h1⟩
                  exact ⟨_, List.mem_map.2 ⟨d, hd, rfl⟩, h1⟩
              rw [hiff] at hb2
              cases bb with
              | true =>
                have hst : stepB p.x.net p.t p.stops start R (a ++ [c]) = R := if_neg (fun h => h.2 (hb2.1 rfl))
                rw [br_true, hst]
              | false =>
                have hst : stepB p.x.net p.t p.stops start R (a ++ [c]) = R ++ [a ++ [c]] := if_pos ⟨hok, fun h => by have := hb2.2 h; cases this⟩
                rw [br_false, hst, chk_pos (okN_of (by simp; omega)), List.map_append, List.map_cons, List.map_nil, hlb]
            · have hno : ¬ okB p.x.net p.t p.stops start (a ++ [c]) := fun h => by have := (okB_snoc.1 h).2; rw [q2] at this; exact h0 this
              have hst : stepB p.x.net p.t p.stops start R (a ++ [c]) = R := if_neg (fun h => hno h.1)
              rw [br_neg (by simpa using h0), hst]
          · show drive_trip_grow_L2 p _ k (chB p.r.rests k) v _ _ ((chB p.r.rests k).length : Int) = _
            unfold drive_trip_grow_L2
            rw [br_neg (by simp [lenI]), List.take_length]
        rw [hl2, bnd_some, show ((v + 1 : Nat) : Int) = (v : Int) + 1 by omega]
      · show drive_trip_grow_L1 p (P.map (lbB p.x.net p.t p.stops start)) k (chB p.r.rests k) _ (P.length : Int) = _
        unfold drive_trip_grow_L1
        rw [br_neg (by simp [lenI]), List.take_length]
    rw [hloop, bnd_some]
  unfold drive_trip_grow
  by_cases hkr : k < p.r.rests.length
  · have e1 : p.r.rests[k]? = some p.r.rests[k] := List.getElem?_eq_getElem hkr
    have hch : chB p.r.rests k = [p.r.rests[k]] := by unfold chB; rw [e1]
    have hsl : slcI p.r.rests (k : Int) (addK .i64 (k : Int) 1) = some [p.r.rests[k]] := by
      rw [inc hkr hr]
      unfold slcI
      rw [if_pos ⟨by omega, by omega, by omega⟩, show ((k : Int) + 1).toNat - (k : Int).toNat = 1 by omega, Int.toNat_natCast, List.drop_eq_getElem_cons hkr]
      rfl
    rw [br_pos (by simp [lenI]; exact hkr), hsl, bnd_some, ← hch]
    exact hJ
  · have hch : chB p.r.rests k = [false, true] := by unfold chB; rw [List.getElem?_eq_none (by omega)]
    rw [br_neg (by simp [lenI]; omega), ← hch]
    exact hJ
end
end Go.Proofs.YtjhhlmmmkgnhmaaDoor
