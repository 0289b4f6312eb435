/- Plain: both texts' arrival is that of the travel function. -/
import Derived.Test.YtjhhlmmmkgnhmaaDoorRqb
namespace Go.Proofs.YtjhhlmmmkgnhmaaDoor
set_option linter.unusedSimpArgs false
set_option linter.unusedVariables false
set_option linter.unusedSectionVars false

def inT (t : Int) : Prop := 0 ≤ t ∧ t ≤ 1073741824
theorem seg_num {p q : Pt} (h1 : okA p) (h2 : okA q) (h : p.t < q.t) (h' : p.a ≤ q.a) {t : Int} (a : p.t ≤ t) (b : t ≤ q.t) :
    0 ≤ (t - p.t) * (q.a - p.a) ∧ (t - p.t) * (q.a - p.a) ≤ 33554432 ∧ 0 ≤ ((t - p.t) * (q.a - p.a) + (q.t - p.t) - 1) / (q.t - p.t) ∧ ((t - p.t) * (q.a - p.a) + (q.t - p.t) - 1) / (q.t - p.t) ≤ 33558528 := by
  unfold okA at h1 h2
  have e1 : 0 ≤ (t - p.t) * (q.a - p.a) := Int.mul_nonneg (by omega) (by omega)
  have e2 : (t - p.t) * (q.a - p.a) ≤ 4096 * 8192 := Int.mul_le_mul (by omega) (by omega) (by omega) (by omega)
  have e3 : 0 ≤ ((t - p.t) * (q.a - p.a) + (q.t - p.t) - 1) / (q.t - p.t) := Int.ediv_nonneg (by omega) (by omega)
  have e4 : ((t - p.t) * (q.a - p.a) + (q.t - p.t) - 1) / (q.t - p.t) ≤ (t - p.t) * (q.a - p.a) + (q.t - p.t) - 1 := Int.ediv_le_self _ (by omega)
  exact ⟨e1, by omega, e3, by omega⟩
theorem Right.at {l : List Pt} (h : Right l) {i : Nat} {p : Pt} (hp : l[i]? = some p) : okA p := h.srt.okA_at hp
theorem Right.bd {l : List Pt} (h : Right l) {i : Nat} {p : Pt} (hp : l[i]? = some p) : 0 ≤ p.t ∧ p.t ≤ 4096 ∧ p.t ≤ p.a ∧ p.a ≤ 8192 := by
  have := h.at hp; unfold okA at this; omega
theorem Right.ptI {l : List Pt} (h : Right l) : ∀ p ∈ l, ptI p := fun p hp => by
  obtain ⟨i, hi⟩ := List.getElem?_of_mem hp
  have := h.bd hi
  unfold Go.Proofs.YtjhhlmmmkgnhmaaDoor.ptI isI64; omega
theorem tdiv_nn {a b : Int} (h : 0 ≤ a) : a.tdiv b = a / b := Int.tdiv_eq_ediv_of_nonneg h

theorem quoP {a b : Int} (h : 0 ≤ a) (h' : a ≤ 9223372036854775807) (hb : 0 < b) : quoK .i64 a b = a / b := by
  have h1 : 0 ≤ a / b := Int.ediv_nonneg h (by omega)
  have h2 : a / b ≤ a := Int.ediv_le_self _ h
  have h3 := tdiv_nn (b := b) h
  rw [quoI (by rw [h3]; omega) (by rw [h3]; omega), h3]
theorem ref07_Check_right {l : List Pt} (h : Right l) : lorryref07_Check l = some [] := by
  obtain ⟨r, h1, h2, h3⟩ := ref07_Check_post (by have := h.most; omega) h.ptI
  rw [h1, h3.2 h]
theorem ref07_Arrive_right {l : List Pt} (h : Right l) {t : Int} (ht : inT t) : lorryref07_Arrive l t = some (arrL l t) := by
  apply post.eq
  obtain ⟨p0, r0, rfl⟩ : ∃ p r, l = p :: r := by
    cases l with
    | nil => have := h.pos; simp at this
    | cons p r => exact ⟨p, r, rfl⟩
  generalize hl : p0 :: r0 = l at h
  have h0 : l[0]? = some p0 := by rw [← hl]; rfl
  have hpos := h.pos
  have hmost := h.most
  have hlast : l[l.length - 1]? = some (l[l.length - 1]'(by omega)) := List.getElem?_eq_getElem _
  unfold inT at ht
  unfold lorryref07_Arrive
  rw [ref07_Check_right h, bnd_some]
  refine post_br (fun hb => ?_) (fun _ => ?_)
  · simp only [orT, gtI_t, ltI_t, lenI_nil] at hb; omega
  refine post_bnd (R := fun e => (∃ u, e = .inl u ∧ ∀ p, l[l.length - 1]? = some p → p.t ≤ t ∨ t < p0.t) ∨ e = .inr (arrL l t)) ?_ ?_
  · refine post_loop (fun i => ∃ k : Nat, i = (k : Int) ∧ k < l.length ∧ (∀ p, l[k]? = some p → p.t ≤ t ∨ t < p0.t)) (fun i => l.length - i.toNat) ⟨0, rfl, by omega, fun p hp => by rw [h0] at hp; cases hp; omega⟩ (by simp; omega) ?_
    rintro _ ⟨k, rfl, hk, hC⟩
    show post (lorryref07_Arrive_L1 l t (k : Int)) _
    unfold lorryref07_Arrive_L1
    have hadd : addK .i64 (k : Int) 1 = ((k + 1 : Nat) : Int) := by rw [addI (by omega) (by omega)]; omega
    rw [hadd]
    refine post_br (fun hb => ?_) (fun hb => post_inr (.inl ⟨_, rfl, fun p hp => hC p ?_⟩))
    rotate_left
    · simp only [ltI_f, lenI] at hb
      rw [show k = l.length - 1 by omega]; exact hp
    simp only [ltI_t, lenI] at hb
    have hk1 : k + 1 < l.length := by omega
    have e1 : l[k]? = some l[k] := List.getElem?_eq_getElem hk
    have e2 : l[k + 1]? = some l[k + 1] := List.getElem?_eq_getElem hk1
    rw [getI_nat e1, bnd_some, getI_nat e2, bnd_some]
    generalize l[k] = p at e1
    generalize l[k + 1] = q at e2
    have hp := h.bd e1; have hq := h.bd e2
    obtain ⟨hpq, hpa⟩ := h.srt.pair e1 e2
    refine post_br (fun hc => ?_) (fun hc => post_inl ⟨⟨k + 1, rfl, hk1, fun x hx => ?_⟩, by simp; omega⟩)
    · simp only [andT, leI_t, ltI_t] at hc
      obtain ⟨n1, n2, n3, n4⟩ := seg_num (h.at e1) (h.at e2) hpq hpa hc.1 (Int.le_of_lt hc.2)
      have key : (t - p.t) * (q.a - p.a) + q.t - p.t - 1 = (t - p.t) * (q.a - p.a) + (q.t - p.t) - 1 := by omega
      rw [← key] at n3 n4
      simp (disch := omega) only [addI, subI, mulI, quoP]
      refine post_chk (by omega) (post_inr (.inr ?_))
      rw [arrL_seg h.srt e1 e2 hc.1 (Int.le_of_lt hc.2), key]
      rfl
    · rw [e2] at hx; cases hx
      simp only [andF, leI_f, ltI_f] at hc
      rcases hC p e1 with h' | h'
      · left; omega
      · right; exact h'
  · intro e he
    rcases he with ⟨u, rfl, hu⟩ | rfl
    · rw [sel_inl, show (0 : Int) = ((0 : Nat) : Int) from rfl, getI_nat h0, bnd_some]
      have hp := h.bd h0
      refine post_br (fun hb => ?_) (fun hb => ?_)
      · simp only [gtI_t] at hb
        have hs : subK .i64 (lenI l) 1 = ((l.length - 1 : Nat) : Int) := by unfold lenI; rw [subI (by omega) (by omega)]; omega
        rw [hs, getI_nat hlast, bnd_some]
        have hq := h.bd hlast
        simp (disch := omega) only [addI, subI, post_some]
        rw [arrL_high h.srt hlast (by rcases hu _ hlast with h1 | h1; exact h1; omega)]
      · simp only [gtI_f] at hb
        rw [addI (by omega) (by omega), subI (by omega) (by omega), post_some, ← hl, arrL_low (by rw [hl]; exact h.srt) hb]
    · rw [sel_inr]; exact post_some.2 rfl
/-! ### The program's: a binary search -/
theorem itoa_small : ∀ i : Nat, i < 16 → (strconv_Itoa_f73 (i : Int)).isSome = true := by decide +kernel
theorem travel_Check_right {l : List Pt} (h : Right l) : travel_Check l = some [] := by
  have hpos := h.pos; have hmost := h.most
  unfold travel_Check
  rw [br_neg (by simp only [orF, eqI_f, gtI_f, lenI]; omega)]
  unfold travel_Check_J1
  have hloop : loopF (fun s : List T_api_Fault × Int => travel_Check_L1 l s.1 s.2) ([], 0) = some [] := ?_
  · rw [hloop, bnd_some]
  refine loop_for (e := []) l.length (fun i => (([] : List T_api_Fault), (i : Int))) (by omega) (fun i hi => ?_) ?_
  · have e1 : l[i]? = some l[i] := List.getElem?_eq_getElem hi
    obtain ⟨r, hr⟩ := Option.isSome_iff_exists.1 (itoa_small i (by omega))
    show travel_Check_L1 l [] (i : Int) = _
    unfold travel_Check_L1
    rw [br_pos (by simp only [ltI_t, lenI]; omega), getI_nat e1, bnd_some, hr, bnd_some]
    have hp := h.bd e1
    have hA := h.at e1
    unfold okA at hA
    rw [show travel_within (l[i]).t 0 4096 = some true by unfold travel_within; simp only [Option.some.injEq, andT, geI_t, leI_t]; omega, bnd_some]
    rw [br_neg (by simp only [Bool.not_true, Bool.false_or, orF, ltI_f, gtI_f]; rw [addI (by omega) (by omega)]; omega)]
    have hadd : addK .i64 (i : Int) 1 = ((i + 1 : Nat) : Int) := by rw [addI (by omega) (by omega)]; omega
    unfold travel_Check_J2
    rw [hadd]
    rcases Nat.eq_zero_or_pos i with h0 | h0
    · rw [br_neg (by simp only [gtI_f]; omega)]
    · have e0 : l[i - 1]? = some (l[i - 1]'(by omega)) := List.getElem?_eq_getElem _
      have hs : subK .i64 (i : Int) 1 = ((i - 1 : Nat) : Int) := by rw [subI (by omega) (by omega)]; omega
      have hpr := h.srt.pair e0 (by rw [show i - 1 + 1 = i by omega]; exact e1)
      rw [br_pos (by simp only [gtI_t]; omega), hs, getI_nat e0, bnd_some, br_neg (by simp only [leI_f]; omega), br_neg (by simp only [ltI_f]; omega)]
  · show travel_Check_L1 l [] (l.length : Int) = _
    unfold travel_Check_L1
    rw [br_neg (by simp [lenI])]
theorem travel_right_right {l : List Pt} (h : Right l) : travel_right l = some true := by
  unfold travel_right; rw [travel_Check_right h]; rfl
theorem half {i j : Nat} (h : i < 100) (h' : j < 100) : cvK .i64 (shrK .u64 (cvK .u64 (addK .i64 (i : Int) (j : Int))) 1) = (((i + j) / 2 : Nat) : Int) := by
  rw [addI (by omega) (by omega)]
  unfold cvK shrK
  rw [IntKind.wrap_u64, IntKind.wrap_i64]
  have e : (2 : Int) ^ min (Int.toNat 1) (IntKind.u64.bits) = 2 := by decide
  rw [e, Int.fdiv_eq_ediv_of_nonneg _ (by omega)]
  omega
theorem search_right {l : List Pt} (h : Right l) {t : Int} (ht : inT t) : post (api_Point_int__112 l t) fun r => ∃ i : Nat, r.1 = (i : Int) ∧ i ≤ l.length ∧ (∀ k p, k < i → l[k]? = some p → p.t < t) ∧ (∀ k p, i ≤ k → l[k]? = some p → t ≤ p.t) ∧
    (r.2 = true ↔ ∃ p, l[i]? = some p ∧ p.t = t) := by
  have hmost := h.most
  unfold inT at ht
  refine post_bnd (R := fun x => ∃ i : Nat, x = (i : Int) ∧ i ≤ l.length ∧ (∀ k p, k < i → l[k]? = some p → p.t < t) ∧ (∀ k p, i ≤ k → l[k]? = some p → t ≤ p.t)) ?_ ?_
  · refine post_loop (fun s => ∃ i j : Nat, s = ((i : Int), (j : Int)) ∧ i ≤ j ∧ j ≤ l.length ∧ (∀ k p, k < i → l[k]? = some p → p.t < t) ∧ (∀ k p, j ≤ k → l[k]? = some p → t ≤ p.t)) (fun s => (s.2 - s.1).toNat) ⟨0, l.length, rfl, by omega, by omega, fun k p hk => by omega, fun k p hk hp => by have := (List.getElem?_eq_some_iff.1 hp).1; omega⟩ (by simp [lenI]; omega) ?_
    rintro _ ⟨i, j, rfl, hij, hjl, h1, h2⟩
    show post (api_Point_int__112_L1 l t (i : Int) (j : Int)) _
    unfold api_Point_int__112_L1
    rw [half (by omega) (by omega)]
    refine post_br (fun hb => ?_) (fun hb => post_inr ?_)
    · simp only [ltI_t] at hb
      have hm : (i + j) / 2 < l.length := by omega
      have e1 : l[(i + j) / 2]? = some l[(i + j) / 2] := List.getElem?_eq_getElem hm
      rw [getI_nat e1, bnd_some]
      generalize l[(i + j) / 2] = p at e1
      have hp := h.bd e1
      unfold travel_arrive_1
      rw [subI (by omega) (by omega), bnd_some]
      refine post_br (fun hc => post_inl ?_) (fun hc => post_inl ?_)
      · simp only [ltI_t] at hc
        refine ⟨⟨(i + j) / 2 + 1, j, by rw [addI (by omega) (by omega)]; simp, by omega, hjl, fun k q hk hq => ?_, h2⟩, by rw [addI (by omega) (by omega)]; simp; omega⟩
        rcases Nat.lt_or_ge k ((i + j) / 2) with hk' | hk'
        · have := h.srt.lt hk' hq e1; omega
        · obtain rfl : k = (i + j) / 2 := by omega
          rw [e1] at hq; cases hq; omega
      · simp only [ltI_f] at hc
        refine ⟨⟨i, (i + j) / 2, rfl, by omega, by omega, h1, fun k q hk hq => ?_⟩, by simp; omega⟩
        rcases Nat.lt_or_ge ((i + j) / 2) k with hk' | hk'
        · have := h.srt.lt hk' e1 hq; omega
        · obtain rfl : k = (i + j) / 2 := by omega
          rw [e1] at hq; cases hq; omega
    · simp only [ltI_f] at hb
      obtain rfl : i = j := by omega
      exact ⟨i, rfl, hjl, h1, h2⟩
  · rintro _ ⟨i, rfl, hi, h1, h2⟩
    refine post_br (fun hb => ?_) (fun hb => post_some.2 ⟨i, rfl, hi, h1, h2, ?_⟩)
    · simp only [ltI_t, lenI] at hb
      have hi' : i < l.length := by omega
      have e1 : l[i]? = some l[i] := List.getElem?_eq_getElem hi'
      rw [getI_nat e1, bnd_some]
      generalize l[i] = p at e1
      have hp := h.bd e1
      unfold travel_arrive_1
      rw [subI (by omega) (by omega), bnd_some, post_some]
      refine ⟨i, rfl, hi, h1, h2, ?_⟩
      simp only [eqI_t, e1, Option.some.injEq, exists_eq_left']
      omega
    · simp only [ltI_f, lenI] at hb
      rw [List.getElem?_eq_none (by omega)]
      simp
theorem travel_arrive_right {l : List Pt} (h : Right l) {t : Int} (ht : inT t) : travel_arrive l t = some (arrL l t) := by
  apply post.eq
  have hpos := h.pos; have hmost := h.most
  obtain ⟨⟨x, f⟩, hx, i, rfl, hi, h1, h2, h3⟩ := search_right h ht
  simp only at h3
  unfold travel_arrive
  rw [hx, bnd_some]
  unfold inT at ht
  refine post_br (fun hb => ?_) (fun hb => ?_)
  · obtain ⟨p, e1, hpt⟩ := h3.1 hb
    show post (bnd (getI l (i : Int)) _) _
    rw [getI_nat e1, bnd_some, post_some]
    subst hpt
    rcases Nat.lt_or_ge (i + 1) l.length with h' | h'
    · have e2 : l[i + 1]? = some l[i + 1] := List.getElem?_eq_getElem h'
      have hlt := (h.srt.pair e1 e2).1
      rw [arrL_seg h.srt e1 e2 (by omega) (by omega), seg_left hlt]
    · have hil : i = l.length - 1 := by have := (List.getElem?_eq_some_iff.1 e1).1; omega
      rw [hil] at e1
      rw [arrL_high h.srt e1 (by omega)]; omega
  · have hnf : ∀ p, l[i]? = some p → p.t ≠ t := fun p hp he => by
      have := h3.2 ⟨p, hp, he⟩
      simp only at hb
      rw [this] at hb; cases hb
    have e0 : l[0]? = some l[0] := List.getElem?_eq_getElem (by omega)
    show post (br (eqI (i : Int) 0) _ _) _
    refine post_br (fun hc => ?_) (fun hc => ?_)
    · simp only [eqI_t] at hc
      obtain rfl : i = 0 := by omega
      rw [show (0 : Int) = ((0 : Nat) : Int) from rfl, getI_nat e0, bnd_some]
      have hp := h.bd e0
      have h4 := h2 0 _ (by omega) e0
      generalize l[0] = p at e0 hp h4
      obtain ⟨r, hr⟩ : ∃ r, l = p :: r := by
        cases l with
        | nil => simp at hpos
        | cons x r => cases e0; exact ⟨r, rfl⟩
      simp (disch := omega) only [addI, subI, post_some]
      rw [hr, arrL_low (by rw [← hr]; exact h.srt) h4]
    · simp only [eqI_f] at hc
      have e1 : l[i - 1]? = some (l[i - 1]'(by omega)) := List.getElem?_eq_getElem _
      have hs : subK .i64 (i : Int) 1 = ((i - 1 : Nat) : Int) := by rw [subI (by omega) (by omega)]; omega
      have hp := h.bd e1
      have h4 := h1 (i - 1) _ (by omega) e1
      show post (br (eqI (i : Int) (lenI l)) (bnd (getI l (subK .i64 (i : Int) 1)) _) _) _
      rw [hs]
      refine post_br (fun hd => ?_) (fun hd => ?_)
      · simp only [eqI_t, lenI] at hd
        obtain rfl : i = l.length := by omega
        rw [getI_nat e1, bnd_some]
        simp (disch := omega) only [addI, subI, post_some]
        rw [arrL_high h.srt e1 (by omega)]
      · simp only [eqI_f, lenI] at hd
        have e2 : l[i]? = some (l[i]'(by omega)) := List.getElem?_eq_getElem _
        have hq := h.bd e2
        have h5 := h2 i _ (by omega) e2
        show post (bnd (getI l ((i - 1 : Nat) : Int)) fun x3 => bnd (getI l (i : Int)) fun x4 => _) _
        rw [getI_nat e1, bnd_some, getI_nat e2, bnd_some]
        have e2' : l[i - 1 + 1]? = some (l[i]'(by omega)) := by rw [show i - 1 + 1 = i by omega]; exact e2
        generalize l[i - 1] = p at e1 hp h4
        generalize l[i] = q at e2 e2' hq h5
        obtain ⟨hpq, hpa⟩ := h.srt.pair e1 e2'
        obtain ⟨n1, n2, n3, n4⟩ := seg_num (h.at e1) (h.at e2) hpq hpa (Int.le_of_lt h4) h5
        simp (disch := omega) only [addI, subI, mulI, quoP]
        refine post_chk (by omega) (post_some.2 ?_)
        rw [arrL_seg h.srt e1 e2' (Int.le_of_lt h4) h5]
        rfl
theorem travel_Arrive_right {l : List Pt} (h : Right l) {t : Int} (ht : inT t) : travel_Arrive l t = some (arrL l t) := by
  unfold travel_Arrive
  rw [show travel_within t 0 1073741824 = some true by unfold travel_within; unfold inT at ht; simp only [Option.some.injEq, andT, geI_t, leI_t]; omega, bnd_some, br_true, travel_right_right h, bnd_some, br_true, travel_arrive_right h ht, bnd_some]
end Go.Proofs.YtjhhlmmmkgnhmaaDoor
