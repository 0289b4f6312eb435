/- Plain: networks whose arcs are delayed. -/
import Derived.Test.YtjhhlmmmkgnhmaaDoorGqe
namespace Go.Proofs.YtjhhlmmmkgnhmaaDoor
set_option linter.unusedSimpArgs false
set_option linter.unusedVariables false
set_option linter.unusedSectionVars false

/-- One more delay. -/
noncomputable def laterS (l : List Pt) (t ticks : Int) : List Pt × Int := match lorryref09_delayed l t ticks with
  | some r => r
  | none => ([], 0)
abbrev inK (t : Int) : Prop := 0 ≤ t ∧ t ≤ 4096
theorem delayed_post {l : List Pt} (hl : l.length ≤ 16) (hS : ∀ i, i < l.length → okS l i) {t ticks : Int} (ht : inK t) (hk : inK ticks) : post (lorryref09_delayed l t ticks) fun r => r.1.length ≤ 17 ∧ (r.2 = 0 ∨ r.2 = 2 ∨ r.2 = 4) := by
  unfold lorryref09_delayed
  refine post_chk (okN_of (by omega)) (post_br (fun hb => ?_) (fun hb => post_br (fun _ => post_some.2 ⟨by simp, by simp⟩) (fun _ => post_chk (okN_of (by simp; omega)) (post_some.2 ⟨by simp; omega, by simp⟩))))
  simp only [gtI_t, lenI] at hb
  have e1 : l[l.length - 1]? = some (l[l.length - 1]'(by omega)) := List.getElem?_eq_getElem _
  have hs : subK .i64 (lenI l) 1 = ((l.length - 1 : Nat) : Int) := by unfold lenI; rw [subI (by omega) (by omega)]; omega
  rw [hs, getI_nat e1, bnd_some]
  refine post_br (fun _ => post_some.2 ⟨by simp, by simp⟩) (fun _ => post_br (fun _ => post_br (fun _ => post_some.2 ⟨by simp, by simp⟩) (fun _ => post_some.2 ⟨by simp [setI]; omega, by simp⟩)) (fun _ => post_br (fun _ => post_some.2 ⟨by simp, by simp⟩) (fun _ => post_chk (okN_of (by simp; omega)) (post_some.2 ⟨by simp; omega, by simp⟩))))
theorem delayed_eq {l : List Pt} (hl : l.length ≤ 16) (hS : ∀ i, i < l.length → okS l i) {t ticks : Int} (ht : inK t) (hk : inK ticks) : lorryref09_delayed l t ticks = some (laterS l t ticks) := by
  obtain ⟨r, hr, _⟩ := delayed_post hl hS ht hk
  unfold laterS; rw [hr]
theorem later_eq {l : List Pt} (hl : l.length ≤ 16) (hS : ∀ i, i < l.length → okS l i) {t ticks : Int} (ht : inK t) (hk : inK ticks) : network_later l t ticks = some (laterS l t ticks) := by
  rw [← delayed_eq hl hS ht hk]
  unfold network_later lorryref09_delayed
  have : geI (subK .i64 (lenI l) 1) 0 = gtI (lenI l) 0 := by
    unfold lenI
    rw [subI (by omega) (by omega), Bool.eq_iff_iff, geI_t, gtI_t]; omega
  rw [this]
theorem laterS_len {l : List Pt} (hl : l.length ≤ 16) (hS : ∀ i, i < l.length → okS l i) {t ticks : Int} (ht : inK t) (hk : inK ticks) : (laterS l t ticks).1.length ≤ 17 ∧ ((laterS l t ticks).2 = 0 ∨ (laterS l t ticks).2 = 2 ∨ (laterS l t ticks).2 = 4) := by
  obtain ⟨r, hr, h⟩ := delayed_post hl hS ht hk
  unfold laterS; rw [hr]; exact h

section
variable (from_ to_ t ticks : Int)
def hit (a : T_api_Arc) : Bool := eqI a.from_ from_ && eqI a.to_ to_
noncomputable def updA (a : T_api_Arc) : T_api_Arc := if hit from_ to_ a = true then T_api_Arc.mk a.from_ a.to_ a.profile a.miles a.travel (laterS a.slow t ticks).1 else a
noncomputable def badA (a : T_api_Arc) : Bool := hit from_ to_ a && neI (laterS a.slow t ticks).2 0
/-- What the loop over the arcs comes to. -/
noncomputable def slowerE (arcs : List T_api_Arc) : (List T_api_Arc × Bool) ⊕ (T_api_Network × Int) := match arcs.find? (badA from_ to_ t ticks) with
  | some a => .inr (T_api_Network.mk [] [], (laterS a.slow t ticks).2)
  | none => .inl (arcs.map (updA from_ to_ t ticks), arcs.any (hit from_ to_))
noncomputable def slowerS (n : T_api_Network) : T_api_Network × Int :=
  if isPlace n from_ = true ∧ isPlace n to_ = true then
    if inK t ∧ inK ticks then
      match slowerE from_ to_ t ticks n.arcs with
      | .inl x => if x.2 = true then (T_api_Network.mk n.places x.1, 0) else (T_api_Network.mk [] [], 12)
      | .inr r => r
    else (T_api_Network.mk [] [], 2)
  else (T_api_Network.mk [] [], 11)
end
section
variable {from_ to_ t ticks : Int} {n : T_api_Network}
theorem slower_loop (hok : NetOK n) (ht : inK t) (hk : inK ticks) : loopF (fun s => network_Slower_L1 n from_ to_ t ticks s.1 s.2.1 s.2.2) (n.arcs, false, 0) = some (slowerE from_ to_ t ticks n.arcs) := by
  apply post.eq
  have hal := hok.arcs
  refine post_loop (fun s => ∃ k : Nat, k ≤ n.arcs.length ∧ s = ((n.arcs.take k).map (updA from_ to_ t ticks) ++ n.arcs.drop k, (n.arcs.take k).any (hit from_ to_), (k : Int)) ∧ (n.arcs.drop k).find? (badA from_ to_ t ticks) = n.arcs.find? (badA from_ to_ t ticks)) (fun s => n.arcs.length - s.2.2.toNat)
    ⟨0, Nat.zero_le _, by simp, by simp⟩ (by simp; omega) ?_
  rintro _ ⟨k, hkl, rfl, hf⟩
  show post (network_Slower_L1 n from_ to_ t ticks _ _ _) _
  unfold network_Slower_L1
  refine post_br (fun hb => ?_) (fun hb => post_inr ?_)
  · simp only [ltI_t, lenI] at hb
    have hk' : k < n.arcs.length := by omega
    have e1 : n.arcs[k]? = some n.arcs[k] := List.getElem?_eq_getElem hk'
    have ha := hok.all _ (List.getElem_mem hk')
    have hd : n.arcs.drop k = n.arcs[k] :: n.arcs.drop (k + 1) := List.drop_eq_getElem_cons hk'
    have hlen : ((n.arcs.take k).map (updA from_ to_ t ticks)).length = k := by rw [List.length_map, List.length_take]; omega
    have e2 : ((n.arcs.take k).map (updA from_ to_ t ticks) ++ n.arcs.drop k)[k]? = some n.arcs[k] := by
      rw [List.getElem?_append_right (by omega), hlen, Nat.sub_self, hd]; rfl
    have ht1 : n.arcs.take (k + 1) = n.arcs.take k ++ [n.arcs[k]] := by rw [List.take_add_one, e1]; rfl
    rw [hd, List.find?_cons] at hf
    rw [getI_nat e2, bnd_some, inc (n := n.arcs.length) hk' (by omega)]
    generalize n.arcs[k] = a at *
    refine post_br (fun hc => post_inl ⟨⟨k + 1, by omega, ?_, ?_⟩, by simp; omega⟩) (fun hc => ?_)
    · have hh : hit from_ to_ a = false := by
        unfold hit; simp only [orT, neI_t] at hc; simp only [andF, eqI_f]; exact hc
      rw [ht1, List.map_append, List.any_append, hd]
      simp [updA, hh]
    · have hh : hit from_ to_ a = false := by
        unfold hit; simp only [orT, neI_t] at hc; simp only [andF, eqI_f]; exact hc
      rw [show badA from_ to_ t ticks a = false by unfold badA; rw [hh]; rfl] at hf
      exact hf
    · have hh : hit from_ to_ a = true := by
        unfold hit; simp only [orF, neI_f] at hc; simp only [andT, eqI_t]; exact hc
      rw [later_eq ha.slow ha.slowAll ht hk, bnd_some]
      refine post_br (fun hd2 => post_inr ?_) (fun hd2 => post_inl ⟨⟨k + 1, by omega, ?_, ?_⟩, by simp; omega⟩)
      · rw [show badA from_ to_ t ticks a = true by unfold badA; rw [hh, hd2]; rfl] at hf
        unfold slowerE; rw [← hf]
      · rw [ht1, List.map_append, List.any_append, hd]
        unfold setI
        rw [Int.toNat_natCast, List.set_append_right _ _ (by omega), hlen, Nat.sub_self]
        simp [updA, hh]
      · rw [show badA from_ to_ t ticks a = false by unfold badA; rw [hh, hd2]; rfl] at hf
        exact hf
  · simp only [ltI_f, lenI] at hb
    rw [List.drop_eq_nil_of_le (by omega)] at hf
    unfold slowerE
    rw [← hf, List.take_of_length_le (by omega), List.drop_eq_nil_of_le (by omega), List.append_nil]
    rfl
theorem ref_slower_loop (hok : NetOK n) (ht : inK t) (hk : inK ticks) : loopF (fun s => lorryref09_Slower_L1 n from_ to_ t ticks s.1 s.2.1 s.2.2) ([], false, 0) = some (slowerE from_ to_ t ticks n.arcs) := by
  apply post.eq
  have hal := hok.arcs
  refine post_loop (fun s => ∃ k : Nat, k ≤ n.arcs.length ∧ s = ((n.arcs.take k).map (updA from_ to_ t ticks), (n.arcs.take k).any (hit from_ to_), (k : Int)) ∧ (n.arcs.drop k).find? (badA from_ to_ t ticks) = n.arcs.find? (badA from_ to_ t ticks)) (fun s => n.arcs.length - s.2.2.toNat)
    ⟨0, Nat.zero_le _, by simp, by simp⟩ (by simp; omega) ?_
  rintro _ ⟨k, hkl, rfl, hf⟩
  show post (lorryref09_Slower_L1 n from_ to_ t ticks _ _ _) _
  unfold lorryref09_Slower_L1
  refine post_br (fun hb => ?_) (fun hb => post_inr ?_)
  · simp only [ltI_t, lenI] at hb
    have hk' : k < n.arcs.length := by omega
    have e1 : n.arcs[k]? = some n.arcs[k] := List.getElem?_eq_getElem hk'
    have ha := hok.all _ (List.getElem_mem hk')
    have hd : n.arcs.drop k = n.arcs[k] :: n.arcs.drop (k + 1) := List.drop_eq_getElem_cons hk'
    have ht1 : n.arcs.take (k + 1) = n.arcs.take k ++ [n.arcs[k]] := by rw [List.take_add_one, e1]; rfl
    rw [hd, List.find?_cons] at hf
    rw [getI_nat e1, bnd_some]
    unfold lorryref09_Slower_J1
    rw [inc (n := n.arcs.length) hk' (by omega)]
    generalize n.arcs[k] = a at *
    have hokN : ∀ x : T_api_Arc, okN ((n.arcs.take k).map (updA from_ to_ t ticks) ++ [x]).length 80 := fun x => okN_of (by rw [List.length_append, List.length_map, List.length_take]; simp; omega)
    refine post_br (fun hc => ?_) (fun hc => post_chk (hokN _) (post_inl ⟨⟨k + 1, by omega, ?_, ?_⟩, by simp; omega⟩))
    · have hh : hit from_ to_ a = true := hc
      rw [delayed_eq ha.slow ha.slowAll ht hk, bnd_some]
      refine post_br (fun hd2 => post_inr ?_) (fun hd2 => post_chk (hokN _) (post_inl ⟨⟨k + 1, by omega, ?_, ?_⟩, by simp; omega⟩))
      · rw [show badA from_ to_ t ticks a = true by unfold badA; rw [hh, hd2]; rfl] at hf
        unfold slowerE; rw [← hf]
      · rw [ht1, List.map_append, List.any_append]
        simp [updA, hh]
      · rw [show badA from_ to_ t ticks a = false by unfold badA; rw [hh, hd2]; rfl] at hf
        exact hf
    · have hh : hit from_ to_ a = false := hc
      rw [ht1, List.map_append, List.any_append]
      simp [updA, hh]
    · have hh : hit from_ to_ a = false := hc
      rw [show badA from_ to_ t ticks a = false by unfold badA; rw [hh]; rfl] at hf
      exact hf
  · simp only [ltI_f, lenI] at hb
    rw [List.drop_eq_nil_of_le (by omega)] at hf
    unfold slowerE
    rw [← hf, List.take_of_length_le (by omega)]
    rfl
theorem ntick_eq (t : Int) : network_tick t = some (decide (inK t)) := by
  unfold network_tick
  congr 1
  rw [Bool.eq_iff_iff, andT, geI_t, leI_t, decide_eq_true_iff]
theorem slower_eq (hok : NetOK n) : network_Slower n from_ to_ t ticks = some (slowerS from_ to_ t ticks n) := by
  unfold network_Slower slowerS
  have hal := hok.arcs
  rw [place_eq, bnd_some, place_eq, bnd_some, ntick_eq, bnd_some, ntick_eq, bnd_some, chk_pos (okN_of (by omega))]
  simp only [br_if, decide_eq_true_iff]
  by_cases h1 : isPlace n from_ = true
  · by_cases h2 : isPlace n to_ = true
    · rw [if_pos h1, if_pos h2, if_pos (And.intro h1 h2)]
      by_cases h3 : inK t
      · by_cases h4 : inK ticks
        · rw [if_pos h3, if_pos h4, if_pos (And.intro h3 h4), slower_loop hok h3 h4, bnd_some]
          cases slowerE from_ to_ t ticks n.arcs with
          | inl x => simp only [sel_inl, br_if]; split <;> rfl
          | inr r => rfl
        · rw [if_pos h3, if_neg h4, if_neg (fun h : inK t ∧ inK ticks => h4 h.2)]
      · rw [if_neg h3, if_neg (fun h : inK t ∧ inK ticks => h3 h.1)]
    · rw [if_pos h1, if_neg h2, if_neg (fun h : isPlace n from_ = true ∧ isPlace n to_ = true => h2 h.2)]
  · rw [if_neg h1, if_neg (fun h : isPlace n from_ = true ∧ isPlace n to_ = true => h1 h.1)]
theorem ref_slower_eq (hok : NetOK n) : lorryref09_Slower n from_ to_ t ticks = some (slowerS from_ to_ t ticks n) := by
  unfold lorryref09_Slower slowerS
  rw [ref09_Place_eq, bnd_some, ref09_Place_eq, bnd_some, tick_eq, bnd_some, tick_eq, bnd_some]
  simp only [br_if, decide_eq_true_iff]
  by_cases h1 : isPlace n from_ = true
  · by_cases h2 : isPlace n to_ = true
    · rw [if_pos h1, if_pos h2, if_pos (And.intro h1 h2)]
      by_cases h3 : inK t
      · by_cases h4 : inK ticks
        · rw [if_pos h3, if_pos h4, if_pos (And.intro h3 h4), ref_slower_loop hok h3 h4, bnd_some]
          cases slowerE from_ to_ t ticks n.arcs with
          | inl x => simp only [sel_inl, br_if]; split <;> rfl
          | inr r => rfl
        · rw [if_pos h3, if_neg h4, if_neg (fun h : inK t ∧ inK ticks => h4 h.2)]
      · rw [if_neg h3, if_neg (fun h : inK t ∧ inK ticks => h3 h.1)]
    · rw [if_pos h1, if_neg h2, if_neg (fun h : isPlace n from_ = true ∧ isPlace n to_ = true => h2 h.2)]
  · rw [if_neg h1, if_neg (fun h : isPlace n from_ = true ∧ isPlace n to_ = true => h1 h.1)]
theorem same_refl {a : T_api_Network} (h1 : a.places.length ≤ 1048576) (h2 : a.arcs.length ≤ 1048576) (h3 : ∀ x ∈ a.arcs, x.travel.length ≤ 1048576 ∧ x.slow.length ≤ 1048576) : lorryref09_Same a a = some true := by
  unfold lorryref09_Same
  rw [br_neg (by simp [neI])]
  have l1 : loopF (fun s => lorryref09_Same_L1 a a s) 0 = some (.inl ()) := by
    refine all_loop (fun _ => true) _ (Sum.inr false) h1 (fun _ _ => rfl) (fun i x hx => ?_) ?_
    · show lorryref09_Same_L1 a a (i : Int) = _
      unfold lorryref09_Same_L1
      have := (List.getElem?_eq_some_iff.1 hx).1
      rw [br_pos (by simp [lenI]; omega), getI_nat hx, bnd_some, bnd_some, show eqS x x = true by simp [eqS]]
    · show lorryref09_Same_L1 a a (a.places.length : Int) = _
      unfold lorryref09_Same_L1
      rw [br_neg (by simp [lenI])]
  have l2 : loopF (fun s => lorryref09_Same_L2 a a s) 0 = some (.inl ()) := by
    refine all_loop (fun _ => true) _ (Sum.inr false) h2 (fun _ _ => rfl) (fun i x hx => ?_) ?_
    · show lorryref09_Same_L2 a a (i : Int) = _
      unfold lorryref09_Same_L2
      have := (List.getElem?_eq_some_iff.1 hx).1
      have h4 := h3 x (List.mem_of_getElem? hx)
      rw [br_pos (by simp [lenI]; omega), getI_nat hx, bnd_some, bnd_some, sameArc_refl h4.1 h4.2, bnd_some]
    · show lorryref09_Same_L2 a a (a.arcs.length : Int) = _
      unfold lorryref09_Same_L2
      rw [br_neg (by simp [lenI])]
  rw [l1, bnd_some, sel_inl, l2, bnd_some, sel_inl]
theorem slowerS_arcs (hok : NetOK n) : (slowerS from_ to_ t ticks n).1.places.length ≤ 24 ∧ (slowerS from_ to_ t ticks n).1.arcs.length ≤ 1024 ∧ ∀ x ∈ (slowerS from_ to_ t ticks n).1.arcs, x.travel.length ≤ 16 ∧ x.slow.length ≤ 17 := by
  have hE : ∀ e : Int, ((T_api_Network.mk [] [], e) : T_api_Network × Int).1.places.length ≤ 24 ∧ ((T_api_Network.mk [] [], e) : T_api_Network × Int).1.arcs.length ≤ 1024 ∧ ∀ x ∈ ((T_api_Network.mk [] [], e) : T_api_Network × Int).1.arcs, x.travel.length ≤ 16 ∧ x.slow.length ≤ 17 := fun e => ⟨by simp, by simp, by simp⟩
  unfold slowerS
  split
  · split
    · rename_i h1 h2
      unfold slowerE
      cases n.arcs.find? (badA from_ to_ t ticks) with
      | some a => exact hE _
      | none =>
        simp only
        split
        · refine ⟨hok.places, by simpa using hok.arcs, fun x hx => ?_⟩
          obtain ⟨a, ha, rfl⟩ := List.mem_map.1 hx
          have h3 := hok.all a ha
          unfold updA
          split
          · exact ⟨h3.travel.most, (laterS_len h3.slow h3.slowAll h2.1 h2.2).1⟩
          · exact ⟨h3.travel.most, by have := h3.slow; omega⟩
        · exact hE _
    · exact hE _
  · exact hE _
end
end Go.Proofs.YtjhhlmmmkgnhmaaDoor
