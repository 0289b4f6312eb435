/- Plain: routes that are possible, their stops. -/
import Derived.Test.YtjhhlmmmkgnhmaaDoorRqj
import Derived.Test.YtjhhlmmmkgnhmaaDoorRqe
namespace Go.Proofs.YtjhhlmmmkgnhmaaDoor
set_option linter.unusedSimpArgs false
set_option linter.unusedVariables false
set_option linter.unusedSectionVars false

def zStop : T_api_Stop := T_api_Stop.mk 0 0 0 0
def zType : T_api_Type := T_api_Type.mk ByteArray.empty 0 0 0 [] 0 0 0 0 0 0 0 0 0
def zTrip : T_drive_trip := T_drive_trip.mk (T_api_Instance.mk (T_api_Network.mk [] []) [] [] [] []) zType (T_api_Route.mk 0 0 [] []) []
def zSheet : T_api_Sheet := T_api_Sheet.mk false 0 [] 0 0
def zLab : T_drive_label := T_drive_label.mk 0 0 zSheet
def atS (v : T_api_Visit) (o : T_api_Order) : T_api_Stop := if v.drop = true then o.drop else o.pick
theorem atS_t {v : T_api_Visit} {o : T_api_Order} (h : v.drop = true) : atS v o = o.drop := if_pos h
theorem atS_f {v : T_api_Visit} {o : T_api_Order} (h : v.drop = false) : atS v o = o.pick := if_neg (by rw [h]; decide)
/-- The stop of a visit. -/
def stopV (x : T_api_Instance) (v : T_api_Visit) : Option T_api_Stop :=
  match (if 0 ≤ v.order then x.orders[v.order.toNat]? else none) with
  | none => none
  | some o => if 0 ≤ (atS v o).place then some (atS v o) else none
def preR (x : T_api_Instance) (r : T_api_Route) : Bool := decide (0 ≤ r.type_ ∧ r.type_ < x.types.length ∧ 0 ≤ r.start ∧ r.start ≤ 4096 ∧ r.visits.length ≤ 20)
/-- Is a route possible? -/
def possS (x : T_api_Instance) (r : T_api_Route) : Bool := preR x r && r.visits.all fun v => (stopV x v).isSome
def stopsOf (x : T_api_Instance) (r : T_api_Route) : List T_api_Stop := r.visits.map fun v => (stopV x v).getD zStop
def typS (x : T_api_Instance) (r : T_api_Route) : T_api_Type := x.types.getD r.type_.toNat zType
structure RouteI (r : T_api_Route) : Prop where
  type_ : isI64 r.type_
  start : isI64 r.start
  rests : r.rests.length ≤ 1048576
  visits : r.visits.length ≤ 1048576
section
variable {x : T_api_Instance} {r : T_api_Route}
theorem pre_b : (((((ltI r.type_ 0) || (geI r.type_ (lenI x.types))) || (ltI r.start 0)) || (gtI r.start 4096)) || (gtI (lenI r.visits) 20)) = !preR x r := by
  unfold preR lenI
  rw [Bool.eq_iff_iff]
  simp only [orT, ntT, ltI_t, geI_t, gtI_t, decide_eq_false_iff_not]
  omega
theorem stopV_ok (hx : InstOK x) {v : T_api_Visit} {s : T_api_Stop} (h : stopV x v = some s) : 0 ≤ s.place ∧ s.place < x.net.places.length ∧ 0 ≤ s.open_ ∧ s.open_ ≤ s.close ∧ s.close ≤ 4096 ∧ 0 ≤ s.service ∧ s.service ≤ 4096 := by
  unfold stopV at h
  split at h
  · cases h
  · rename_i o ho
    split at ho
    · have hm := List.mem_of_getElem? ho
      have hO := hx.ord o hm
      split at h
      · rename_i h0
        cases h
        cases hd : v.drop with
        | true =>
          rw [atS_t hd] at h0 ⊢
          rcases hO.drop with h1 | h1
          · omega
          · exact h1
        | false =>
          rw [atS_f hd] at h0 ⊢
          rcases hO.pick with h1 | h1
          · omega
          · exact h1
      · cases h
    · cases ho
theorem order_Stop_eq (v : T_api_Visit) : order_Stop x.orders v = some (match stopV x v with
    | some s => (s, 0)
    | none => (zStop, if 0 ≤ v.order ∧ v.order < x.orders.length then 19 else 2)) := by
  unfold order_Stop order_there order_Stop_J1 stopV
  rw [bnd_some]
  by_cases h : 0 ≤ v.order ∧ v.order < x.orders.length
  · rw [br_pos (by simp only [andT, geI_t, ltI_t, lenI]; exact h), getI_at h.1 h.2, bnd_some, if_pos h.1, List.getElem?_eq_getElem (by omega), if_pos h]
    generalize x.orders[v.order.toNat]'(by omega) = o
    cases hd : v.drop with
    | true =>
      rw [br_true]
      simp only [atS_t hd, br_if, ltI_t]
      by_cases hp : o.drop.place < 0
      · rw [if_pos hp, if_neg (by omega)]; rfl
      · rw [if_neg hp, if_pos (by omega)]
    | false =>
      rw [br_false]
      simp only [atS_f hd, br_if, ltI_t]
      by_cases hp : o.pick.place < 0
      · rw [if_pos hp, if_neg (by omega)]; rfl
      · rw [if_neg hp, if_pos (by omega)]
  · rw [br_neg (by simp only [andF, geI_f, ltI_f, lenI]; omega), if_neg h]
    by_cases h0 : 0 ≤ v.order
    · rw [if_pos h0, List.getElem?_eq_none (by omega)]; rfl
    · rw [if_neg h0]; rfl
theorem ref_stop_eq (v : T_api_Visit) : lorryref18_stop x v = some (match stopV x v with
    | some s => (s, true)
    | none => ((if 0 ≤ v.order then match x.orders[v.order.toNat]? with | some o => atS v o | none => zStop else zStop), false)) := by
  unfold lorryref18_stop stopV
  by_cases h : 0 ≤ v.order ∧ v.order < x.orders.length
  · rw [br_neg (by simp only [orF, ltI_f, geI_f, lenI]; exact h), getI_at h.1 h.2, bnd_some, if_pos h.1, if_pos h.1, List.getElem?_eq_getElem (by omega)]
    generalize x.orders[v.order.toNat]'(by omega) = o
    cases hd : v.drop with
    | true =>
      rw [br_true]
      simp only [atS_t hd]
      by_cases hp : 0 ≤ o.drop.place
      · rw [if_pos hp, show geI o.drop.place 0 = true by simpa using hp]
      · rw [if_neg hp, show geI o.drop.place 0 = false by simpa using hp]
    | false =>
      rw [br_false]
      simp only [atS_f hd]
      by_cases hp : 0 ≤ o.pick.place
      · rw [if_pos hp, show geI o.pick.place 0 = true by simpa using hp]
      · rw [if_neg hp, show geI o.pick.place 0 = false by simpa using hp]
  · rw [br_pos (by simp only [orT, ltI_t, geI_t, lenI]; omega)]
    by_cases h0 : 0 ≤ v.order
    · rw [if_pos h0, if_pos h0, List.getElem?_eq_none (by omega)]; rfl
    · rw [if_neg h0, if_neg h0]; rfl
theorem all_take {α : Type} {p : α → Bool} {l : List α} {k : Nat} {a : α} (ha : l[k]? = some a) (hp : p a = false) : l.all p = false := by
  rw [List.all_eq_false]
  exact ⟨a, List.mem_of_getElem? ha, by simp [hp]⟩
theorem poss_eq : lorryref18_Possible x r = some (possS x r) := by
  unfold lorryref18_Possible
  rw [pre_b]
  unfold possS
  by_cases h : preR x r = true
  · have h5 : r.visits.length ≤ 20 := (of_decide_eq_true h).2.2.2.2
    rw [h, Bool.not_true, br_false, Bool.true_and]
    apply post.eq
    refine post_bnd (R := fun e : Unit ⊕ Bool => (∃ u, e = .inl u ∧ (r.visits.all fun v => (stopV x v).isSome) = true) ∨ (e = .inr false ∧ (r.visits.all fun v => (stopV x v).isSome) = false)) ?_ ?_
    · refine post_scan (B := fun s => lorryref18_Possible_L1 x r s) r.visits.length _ (fun i => ∀ v, r.visits[i]? = some v → (stopV x v).isSome = true) (by omega) (fun i hi => ?_) ?_
      · show post (lorryref18_Possible_L1 x r (i : Int)) _
        unfold lorryref18_Possible_L1
        have e1 : r.visits[i]? = some r.visits[i] := List.getElem?_eq_getElem hi
        rw [br_pos (by simp [lenI]; omega), getI_nat e1, bnd_some, inc hi (by omega)]
        show post (bnd (lorryref18_stop x r.visits[i]) _) _
        rw [ref_stop_eq, bnd_some]
        cases hs : stopV x r.visits[i] with
        | some s => exact post_some.2 (.inl ⟨rfl, fun v hv => by rw [e1] at hv; cases hv; rw [hs]; rfl⟩)
        | none => exact post_some.2 (.inr ⟨_, rfl, .inr ⟨rfl, all_take e1 (by rw [hs]; rfl)⟩⟩)
      · show post (lorryref18_Possible_L1 x r (r.visits.length : Int)) _
        unfold lorryref18_Possible_L1
        rw [br_neg (by simp [lenI])]
        refine post_some.2 ⟨_, rfl, fun h => .inl ⟨_, rfl, ?_⟩⟩
        rw [List.all_eq_true]
        intro v hv
        obtain ⟨i, hi⟩ := List.getElem?_of_mem hv
        exact h i (List.getElem?_eq_some_iff.1 hi).1 v hi
    · rintro e (⟨u, rfl, h⟩ | ⟨rfl, h⟩)
      · rw [sel_inl, h]; exact post_some.2 rfl
      · rw [sel_inr, h]; exact post_some.2 rfl
  · have h' : preR x r = false := by simpa using h
    rw [h', Bool.not_false, br_true, Bool.false_and]
theorem typ_get (h : preR x r = true) : getI x.types r.type_ = some (typS x r) ∧ typS x r ∈ x.types := by
  have h5 := of_decide_eq_true h
  unfold typS
  rw [List.getD_eq_getElem?_getD, List.getElem?_eq_getElem (by omega), getI_at h5.1 h5.2.1]
  exact ⟨rfl, List.getElem_mem _⟩
theorem plan_eq : drive_plan x r = some (if possS x r = true then (T_drive_trip.mk x (typS x r) r (stopsOf x r), true) else (zTrip, false)) := by
  unfold drive_plan
  rw [pre_b]
  unfold possS
  by_cases h : preR x r = true
  · have h5 : r.visits.length ≤ 20 := (of_decide_eq_true h).2.2.2.2
    rw [h, Bool.not_true, br_false, Bool.true_and, (typ_get h).1, bnd_some]
    apply post.eq
    refine post_bnd (R := fun e : List T_api_Stop ⊕ (T_drive_trip × Bool) => (e = .inl (stopsOf x r) ∧ (r.visits.all fun v => (stopV x v).isSome) = true) ∨ (e = .inr (zTrip, false) ∧ (r.visits.all fun v => (stopV x v).isSome) = false)) ?_ ?_
    · refine post_loop (fun s => ∃ k : Nat, k ≤ r.visits.length ∧ s = ((r.visits.take k).map (fun v => (stopV x v).getD zStop), (k : Int)) ∧ ∀ i v, i < k → r.visits[i]? = some v → (stopV x v).isSome = true) (fun s => r.visits.length - s.2.toNat) ⟨0, Nat.zero_le _, rfl, fun i v hi => by omega⟩ (by simp; omega) ?_
      rintro _ ⟨k, hk, rfl, hS⟩
      show post (drive_plan_L1 x r (typS x r) _ (k : Int)) _
      unfold drive_plan_L1
      refine post_br (fun hb => ?_) (fun hb => post_inr (.inl ⟨?_, ?_⟩))
      · simp only [ltI_t, lenI] at hb
        have hk' : k < r.visits.length := by omega
        have e1 : r.visits[k]? = some r.visits[k] := List.getElem?_eq_getElem hk'
        rw [getI_nat e1, bnd_some, order_Stop_eq, bnd_some, inc hk' (by omega)]
        cases hs : stopV x r.visits[k] with
        | none =>
          simp only
          rw [br_pos (by simp only [orT, neI_t]; left; split <;> omega)]
          exact post_inr (.inr ⟨rfl, all_take e1 (by rw [hs]; rfl)⟩)
        | some s =>
          simp only
          have hp : 0 ≤ s.place := by
            unfold stopV at hs
            split at hs
            · cases hs
            · split at hs
              · rename_i h0; cases hs; exact h0
              · cases hs
          rw [br_neg (by simp only [orF, neI_f, ltI_f]; exact ⟨trivial, hp⟩)]
          refine post_chk (okN_of (by simp; omega)) (post_inl ⟨⟨k + 1, by omega, ?_, fun i v hi hv => ?_⟩, by simp; omega⟩)
          · rw [List.take_add_one, e1, List.map_append]
            simp [hs]
          · rcases Nat.lt_or_ge i k with h | h
            · exact hS i v h hv
            · obtain rfl : i = k := by omega
              rw [e1] at hv; cases hv; rw [hs]; rfl
      · simp only [ltI_f, lenI] at hb
        rw [List.take_of_length_le (by omega)]; rfl
      · simp only [ltI_f, lenI] at hb
        rw [List.all_eq_true]
        intro v hv
        obtain ⟨i, hi⟩ := List.getElem?_of_mem hv
        exact hS i v (by have := (List.getElem?_eq_some_iff.1 hi).1; omega) hi
    · rintro e (⟨rfl, h⟩ | ⟨rfl, h⟩)
      · rw [sel_inl, h]; exact post_some.2 rfl
      · rw [sel_inr, h]; exact post_some.2 rfl
  · have h' : preR x r = false := by simpa using h
    rw [h', Bool.not_false, br_true, Bool.false_and]; rfl
/-- What is known of a possible route's stops. -/
theorem poss_pre (h : possS x r = true) : preR x r = true := by unfold possS at h; exact (andT.1 h).1
theorem stops_len : (stopsOf x r).length = r.visits.length := by simp [stopsOf]
theorem stops_at (h : possS x r = true) {i : Nat} {s : T_api_Stop} (hs : (stopsOf x r)[i]? = some s) : ∃ v, r.visits[i]? = some v ∧ stopV x v = some s := by
  unfold stopsOf at hs
  rw [List.getElem?_map] at hs
  cases hv : r.visits[i]? with
  | none => rw [hv] at hs; cases hs
  | some v =>
    rw [hv] at hs
    have h2 := List.all_eq_true.1 (andT.1 h).2 v (List.mem_of_getElem? hv)
    obtain ⟨s', hs'⟩ := Option.isSome_iff_exists.1 h2
    refine ⟨v, rfl, ?_⟩
    simp only [Option.map_some, hs', Option.getD_some] at hs
    rw [← hs]; exact hs'
end
end Go.Proofs.YtjhhlmmmkgnhmaaDoor
