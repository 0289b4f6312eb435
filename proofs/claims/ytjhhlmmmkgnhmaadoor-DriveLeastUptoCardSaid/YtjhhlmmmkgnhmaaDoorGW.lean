/- The abstract machine is sound, part 8: objects under other ids. No program in sight. -/
import Derived.Test.YtjhhlmmmkgnhmaaDoorGM
namespace Go.Proofs.YtjhhlmmmkgnhmaaDoor
set_option linter.unusedSimpArgs false
set_option linter.unusedVariables false
set_option linter.unusedSectionVars false
open Go.RowKit
section
variable {P : Program} {Γ : Gam} {φ φ2 : Pl} {M : Nat → Prop} {w : World} {a : Act} {m : Nat → Option Nat}
theorem posOf_spec : ∀ {l : List Nat} {k id j : Nat}, posOf l k id = some j → k ≤ j ∧ l[j - k]? = some id
  | [], _, _, _, h => by cases h
  | x :: r, k, id, j, h => by
    simp only [posOf] at h
    cases hx : (x == id) with
    | true =>
      rw [hx] at h; cases h
      have : x = id := by simpa using hx
      subst this
      exact ⟨Nat.le_refl _, by simp⟩
    | false =>
      rw [hx] at h
      obtain ⟨h1, h2⟩ := posOf_spec (l := r) (k := k + 1) h
      refine ⟨by omega, ?_⟩
      rw [show j - k = (j - (k + 1)) + 1 by omega]; simpa using h2
theorem ren0_ok (hm : ∀ id k p, m id = some k → φ id = some p → φ2 k = some p) {l : Lf} {v : Value} (h : LR0 w M φ l v) : LR0 w M φ2 (ren0 m l) v := by
  cases l with
  | op id sz row off =>
    obtain ⟨b, C, h1, h2⟩ := h
    simp only [ren0]
    cases hh : m id with
    | none => subst h2; exact IR.any _ rfl
    | some k => exact ⟨b, C, hm id k _ hh h1, h2⟩
  | os id sz off len =>
    simp only [ren0]
    cases hh : m id with
    | none =>
      rcases h with ⟨b, C, h1, h2, h3⟩ | ⟨h1, h2, h3, x, h4⟩
      · subst h2; exact IR.any _ rfl
      · subst h4; exact IR.any _ rfl
    | some k =>
      rcases h with ⟨b, C, h1, h2⟩ | ⟨h1, h2⟩
      · exact .inl ⟨b, C, hm id k _ hh h1, h2⟩
      · exact .inr ⟨hm id k _ hh h1, h2⟩
  | fn f caps => cases (h : IR w M (.fn f caps) v)
  | _ => exact h
theorem isFn_ren0 : ∀ {l : Lf}, isFn (ren0 m l) = false := by
  intro l
  cases l <;> simp only [ren0] <;> (try split) <;> rfl
theorem renL_ok (hm : ∀ id k p, m id = some k → φ id = some p → φ2 k = some p) {l : Lf} {v : Value} (h : LR w M φ l v) : LR w M φ2 (renL m l) v := by
  rcases LR.split h with ⟨h1, h2⟩ | ⟨f, caps, vs, rfl, rfl, h3⟩
  · have : renL m l = ren0 m l := by cases l <;> first | rfl | cases h1
    rw [this, LR_eq isFn_ren0]
    exact ren0_ok hm h2
  · exact ⟨vs, rfl, Rs.map_left (Rs.mono (fun _ _ h => ren0_ok hm h) h3)⟩
theorem renC_ok (hm : ∀ id k p, m id = some k → φ id = some p → φ2 k = some p) {c : Cm} {v : Value} (h : CR w M φ c v) : CR w M φ2 (renC m c) v := by
  cases c with
  | one l => exact renL_ok hm h
  | agg ls => obtain ⟨vs, h1, h2⟩ := h; exact ⟨vs, h1, Rs.map_left (Rs.mono (fun _ _ h => renL_ok hm h) h2)⟩
theorem renAV_ok (hm : ∀ id k p, m id = some k → φ id = some p → φ2 k = some p) {c : AV} {v : Value} (h : AR w M φ c v) : AR w M φ2 (renAV m c) v := by
  cases c with
  | cm c => exact renC_ok hm h
  | tup cs => obtain ⟨vs, h1, h2⟩ := h; exact ⟨vs, h1, Rs.map_left (Rs.mono (fun _ _ h => renC_ok hm h) h2)⟩
  | gd p c => exact ⟨fun hp => renC_ok hm (h.1 hp), h.2⟩
  | unk => trivial
  | boo => exact h
theorem renOb_box {ob : Ob} : (renOb m ob).box = ob.box := by
  unfold renOb; cases hb : ob.box
  · exact hb
  · rfl
theorem renOb_ok (hm : ∀ id k p, m id = some k → φ id = some p → φ2 k = some p) {i j : Nat} {ob : Ob} (he : φ2 i = φ j) (hO : OR w M φ j ob) : OR w M φ2 i (renOb m ob) := by
  have hsz : (renOb m ob).sz = ob.sz := by unfold renOb; cases ob.box <;> rfl
  have hety : (renOb m ob).ety = ob.ety := by unfold renOb; cases ob.box <;> rfl
  have hbox : (renOb m ob).box = ob.box := renOb_box
  have hlen : (renOb m ob).rows.length = ob.rows.length := by unfold renOb; cases ob.box <;> simp
  obtain ⟨h0, h1⟩ := hO
  refine ⟨by rw [hsz]; exact h0, ?_⟩
  rw [he]
  revert h1
  cases φ j with
  | none => exact id
  | some p => cases p with
    | none =>
      rintro ⟨h2, h3⟩
      refine ⟨?_, by rw [hbox]; exact h3⟩
      unfold renOb; rw [h3]; exact h2
    | some q =>
      obtain ⟨b, C⟩ := q
      rintro ⟨cur, g1, g2, g3, g4, g5, g6⟩
      refine ⟨cur, by rw [hety]; exact g1, by rw [hsz]; exact g2, by rw [hlen]; exact g3, g4, by rw [hbox]; exact g5, fun i c hc => ?_⟩
      rw [hsz, hbox]
      cases hbx : ob.box with
      | false =>
        have e : renOb m ob = ob := by unfold renOb; rw [hbx]; rfl
        rw [e] at hc
        have := g6 i c hc
        rw [hbx] at this; exact this
      | true =>
        have e : (renOb m ob).rows = ob.rows.map fun c => c.map (renL m) := by unfold renOb; rw [hbx]; rfl
        rw [e, List.getElem?_map] at hc
        cases hc0 : ob.rows[i]? with
        | none => rw [hc0] at hc; cases hc
        | some c0 =>
          rw [hc0] at hc; cases hc
          obtain ⟨g7, g8⟩ := g6 i c0 hc0
          refine ⟨by rw [List.length_map]; exact g7, fun j l hl => ?_⟩
          rw [List.getElem?_map] at hl
          cases hl0 : c0[j]? with
          | none => rw [hl0] at hl; cases hl
          | some l0 =>
            rw [hl0] at hl; cases hl
            obtain ⟨v, hv, hr⟩ := g8 j l0 hl0
            rw [hbx, if_pos rfl] at hr
            exact ⟨v, hv, by rw [if_pos rfl]; exact renL_ok hm hr⟩
end
end Go.Proofs.YtjhhlmmmkgnhmaaDoor
