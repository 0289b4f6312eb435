/- Plain: the reference's best schedule: all lists of rests, one after the other. -/
import Derived.Test.YtjhhlmmmkgnhmaaDoorRqy2
namespace Go.Proofs.YtjhhlmmmkgnhmaaDoor
set_option linter.unusedSimpArgs false
set_option linter.unusedVariables false
set_option linter.unusedSectionVars false
theorem iterIy {S E : Type} {B : S → Option (S ⊕ E)} (C : Nat → S → Prop) (Q : E → Prop)
    (h : ∀ m s, C m s → post (B s) fun x => (∀ s', x = .inl s' → ∃ m', m' < m ∧ C m' s') ∧ ∀ e, x = .inr e → Q e) : ∀ (n m : Nat) (s : S), C m s → m < n → post (iterF B n s) Q := by
  intro n
  induction n with
  | zero => intro m s _ hm; omega
  | succ n ih =>
    intro m s hs hm
    obtain ⟨x, hx, h1, h2⟩ := h m s hs
    simp only [iterF, hx]
    cases x with
    | inl s' =>
      obtain ⟨m', h3, h4⟩ := h1 s' rfl
      exact ih m' s' h4 (by omega)
    | inr e => exact ⟨e, rfl, h2 e rfl⟩
/-- A loop, with a count of its own. -/
theorem loopIy {S E : Type} {B : S → Option (S ⊕ E)} (C : Nat → S → Prop) {Q : E → Prop} {s : S} (m : Nat) (hs : C m s) (hm : m < 18446744073709551616)
    (h : ∀ m s, C m s → post (B s) fun x => (∀ s', x = .inl s' → ∃ m', m' < m ∧ C m' s') ∧ ∀ e, x = .inr e → Q e) : post (loopF B s) Q := iterIy C Q h _ m s hs hm
/-- The digits of a number. -/
def bitsB : Nat → Nat → List Bool
  | 0, _ => []
  | f + 1, j => bitsB f (j / 2) ++ [decide (j % 2 = 1)]
theorem bitsB_len : ∀ f j, (bitsB f j).length = f
  | 0, _ => rfl
  | f + 1, j => by rw [bitsB, List.length_append, bitsB_len f]; rfl
theorem bitsB_shift (f m : Nat) : ∀ d, bitsB (f + d) (m * 2 ^ d) = bitsB f m ++ List.replicate d false
  | 0 => by simp
  | d + 1 => by
    rw [show f + (d + 1) = (f + d) + 1 by omega, bitsB, Nat.pow_succ, ← Nat.mul_assoc, Nat.mul_div_cancel _ (by omega), bitsB_shift f m d, List.replicate_succ', List.append_assoc]
    congr 3
    rw [decide_eq_false]; omega
theorem bitsB_zero (f : Nat) : bitsB f 0 = List.replicate f false := by
  have := bitsB_shift 0 0 f
  simpa [bitsB] using this
theorem valB_bits (p : List Bool) : ∀ f j, j < 2 ^ f → valB (p ++ bitsB f j) = valB p * 2 ^ f + j
  | 0, j, h => by simp at h; simp [bitsB, h]
  | f + 1, j, h => by
    rw [Nat.pow_succ] at h
    rw [bitsB, ← List.append_assoc, valB_snoc, valB_bits p f (j / 2) (by omega), Nat.pow_succ, ← Nat.mul_assoc]
    by_cases hj : j % 2 = 1
    · rw [if_pos (decide_eq_true hj)]; omega
    · rw [if_neg (by simpa using hj)]; omega
theorem all_bits : ∀ (f : Nat) (s : List Bool), s.length = f → ∃ j, j < 2 ^ f ∧ s = bitsB f j
  | 0, s, h => ⟨0, by simp, List.length_eq_zero_iff.1 h⟩
  | f + 1, s, h => by
    obtain ⟨s0, c, rfl⟩ : ∃ s0 c, s = s0 ++ [c] := by
      rcases List.eq_nil_or_concat s with rfl | ⟨s0, c, rfl⟩
      · simp at h
      · exact ⟨s0, c, by simp⟩
    obtain ⟨j, hj, hs⟩ := all_bits f s0 (by simpa using h)
    subst hs
    cases c with
    | true =>
      refine ⟨2 * j + 1, by rw [Nat.pow_succ]; omega, ?_⟩
      rw [bitsB, show (2 * j + 1) / 2 = j by omega, decide_eq_true (by omega)]
    | false =>
      refine ⟨2 * j, by rw [Nat.pow_succ]; omega, ?_⟩
      rw [bitsB, show (2 * j) / 2 = j by omega, decide_eq_false (by omega)]
theorem valB_inj {a b : List Bool} (h : a.length = b.length) (hv : valB a = valB b) : a = b := by
  obtain ⟨i, hi, ha⟩ := all_bits b.length a h
  obtain ⟨j, hj, hb⟩ := all_bits b.length b rfl
  have h1 := valB_bits [] b.length i hi
  have h2 := valB_bits [] b.length j hj
  rw [List.nil_append, ← ha] at h1
  rw [List.nil_append, ← hb] at h2
  have h0 : valB ([] : List Bool) = 0 := rfl
  rw [h0, Nat.zero_mul, Nat.zero_add] at h1 h2
  have hij : i = j := by rw [← h1, ← h2]; exact hv
  exact ha.trans (by rw [hij]; exact hb.symm)
theorem set_mid {α : Type} {a b : List α} {x y : α} : (a ++ x :: b).set a.length y = a ++ y :: b := by
  rw [List.set_append_right _ _ (Nat.le_refl _), Nat.sub_self]; rfl
theorem ref_next_eq {p : List Bool} {f j : Nat} (hl : p.length + f ≤ 1048576) (hj : j < 2 ^ f) : lorryref18_next (p ++ bitsB f j) (lenI p) = some (if j + 1 < 2 ^ f then (p ++ bitsB f (j + 1), true) else ([], false)) := by
  apply post.eq
  unfold lorryref18_next
  have hlen : (p ++ bitsB f j).length = p.length + f := by rw [List.length_append, bitsB_len]
  refine post_chk (okN_of (by rw [hlen]; omega)) ?_
  have hst : subK .i64 (lenI (p ++ bitsB f j)) 1 = ((p.length + f : Nat) : Int) - 1 := by unfold lenI; rw [hlen, subI (by omega) (by omega)]
  rw [hst]
  refine post_bnd (R := fun e => e = if j + 1 < 2 ^ f then .inr (p ++ bitsB f (j + 1), true) else .inl ()) ?_ ?_
  · refine post_loop (fun s => ∃ g q d : Nat, f = g + d ∧ j + 1 = (q + 1) * 2 ^ d ∧ q < 2 ^ g ∧ s = (p ++ (bitsB g q ++ List.replicate d false), ((p.length + g : Nat) : Int) - 1)) (fun s => (s.2 + 1 - p.length).toNat) ⟨f, j, 0, rfl, by simp, hj, by simp⟩ (by simp; omega) ?_
    rintro _ ⟨g, q, d, hf, hq, hqg, rfl⟩
    show post (lorryref18_next_L1 (lenI p) (p ++ (bitsB g q ++ List.replicate d false)) (((p.length + g : Nat) : Int) - 1)) _
    unfold lorryref18_next_L1
    refine post_br (fun hb => ?_) (fun hb => post_inr ?_)
    · simp only [geI_t, lenI] at hb
      obtain ⟨g, rfl⟩ : ∃ g', g = g' + 1 := ⟨g - 1, by omega⟩
      have hi : ((p.length + (g + 1) : Nat) : Int) - 1 = ((p.length + g : Nat) : Int) := by omega
      have hsplit : p ++ (bitsB (g + 1) q ++ List.replicate d false) = (p ++ bitsB g (q / 2)) ++ decide (q % 2 = 1) :: List.replicate d false := by
        rw [bitsB]; simp
      have hpl : (p ++ bitsB g (q / 2)).length = p.length + g := by rw [List.length_append, bitsB_len]
      have hget : ((p ++ bitsB g (q / 2)) ++ decide (q % 2 = 1) :: List.replicate d false)[p.length + g]? = some (decide (q % 2 = 1)) := by
        rw [List.getElem?_append_right (by omega), hpl, Nat.sub_self]; rfl
      have hset : ∀ y, setI ((p ++ bitsB g (q / 2)) ++ decide (q % 2 = 1) :: List.replicate d false) ((p.length + g : Nat) : Int) y = (p ++ bitsB g (q / 2)) ++ y :: List.replicate d false := fun y => by
        unfold setI; rw [Int.toNat_natCast, ← hpl, set_mid]
      rw [hi, hsplit, getI_nat hget, bnd_some, hset, hset]
      refine post_br (fun h1 => post_inl ⟨⟨g, q / 2, d + 1, by omega, ?_, by rw [Nat.pow_succ] at hqg; omega, ?_⟩, ?_⟩) (fun h1 => post_inr ?_)
      · have h2 := of_decide_eq_true h1
        rw [hq, Nat.pow_succ, show q + 1 = (q / 2 + 1) * 2 by omega, Nat.mul_assoc, Nat.mul_comm 2]
      · rw [subI (by omega) (by omega)]
        simp [List.replicate_succ]
      · rw [subI (by omega) (by omega)]; simp only; omega
      · have h2 := of_decide_eq_false h1
        rw [Nat.pow_succ] at hqg
        have h3 : q + 1 < 2 ^ (g + 1) := by rw [Nat.pow_succ]; omega
        have h4 : j + 1 < 2 ^ f := by
          rw [hq, hf, Nat.pow_add]
          exact Nat.mul_lt_mul_of_pos_right h3 (Nat.pow_pos (by omega))
        rw [if_pos h4, hq, hf, bitsB_shift, bitsB, show (q + 1) / 2 = q / 2 by omega, decide_eq_true (show (q + 1) % 2 = 1 by omega)]
        simp
    · simp only [geI_f, lenI] at hb
      obtain rfl : g = 0 := by omega
      have : q = 0 := by simpa using hqg
      subst this
      have h4 : ¬ j + 1 < 2 ^ f := by rw [hq, hf]; simp
      rw [if_neg h4]
  · rintro e rfl
    split
    · rw [sel_inr]; exact post_some.2 rfl
    · rw [sel_inl]; exact post_some.2 rfl
section
variable {n : T_api_Network} {t : T_api_Type} {stops : List T_api_Stop} {start : Int} {rests : List Bool}
theorem runS_okB (b : List Bool) : runS n t stops start b = if (preB n t stops start b).2 ≠ 0 then (zSheet, (preB n t stops start b).2) else ((lbB n t stops start b).sheet, 0) := rfl
theorem runS_yes {b : List Bool} (h : okB n t stops start b) : runS n t stops start b = ((lbB n t stops start b).sheet, 0) := by rw [runS_okB, if_neg (show ¬ (preB n t stops start b).2 ≠ 0 from fun hh => hh h)]
theorem runS_no {b : List Bool} (h : ¬ okB n t stops start b) : (runS n t stops start b).2 ≠ 0 ∧ runS n t stops start b = (zSheet, (runS n t stops start b).2) := by
  rw [runS_okB, if_pos (show (preB n t stops start b).2 ≠ 0 from h)]; exact ⟨h, rfl⟩
theorem fol_bits {f j : Nat} : folB rests (rests ++ bitsB f j) := fun i x hx => by
  unfold chB
  rcases Nat.lt_or_ge i rests.length with hi | hi
  · rw [List.getElem?_append_left hi] at hx
    rw [hx]; simp
  · rw [List.getElem?_eq_none hi]
    cases x <;> simp
theorem fol_all {b : List Bool} {f : Nat} (hl : b.length = rests.length + f) (h : folB rests b) : ∃ j, j < 2 ^ f ∧ b = rests ++ bitsB f j := by
  obtain ⟨j, hj, hb⟩ := all_bits f (b.drop rests.length) (by rw [List.length_drop]; omega)
  refine ⟨j, hj, ?_⟩
  rw [← hb]
  have htk : b.take rests.length = rests := by
    apply List.ext_getElem?
    intro i
    rcases Nat.lt_or_ge i rests.length with hi | hi
    · rw [List.getElem?_take_of_lt hi]
      have e1 : b[i]? = some (b[i]'(by omega)) := List.getElem?_eq_getElem _
      have := h i _ e1
      unfold chB at this
      rw [List.getElem?_eq_getElem hi] at this
      rw [e1, List.getElem?_eq_getElem hi]
      simpa using this
    · rw [List.getElem?_eq_none (by rw [List.length_take]; omega), List.getElem?_eq_none hi]
  conv => lhs; rw [← List.take_append_drop rests.length b, htk]
end
/-- What the lists so far have come to. -/
def BstB (n : T_api_Network) (t : T_api_Type) (stops : List T_api_Stop) (start : Int) (rests : List Bool) (f j : Nat) (sh : T_api_Sheet) (found : Bool) : Prop :=
  (found = false → ∀ i, i < j → ¬ okB n t stops start (rests ++ bitsB f i)) ∧
  (found = true → ∃ i, i < j ∧ okB n t stops start (rests ++ bitsB f i) ∧ sh = (lbB n t stops start (rests ++ bitsB f i)).sheet ∧ ∀ i', i' < j → okB n t stops start (rests ++ bitsB f i') →
    endB n t stops start (rests ++ bitsB f i) ≤ endB n t stops start (rests ++ bitsB f i') ∧ (endB n t stops start (rests ++ bitsB f i') = endB n t stops start (rests ++ bitsB f i) → i ≤ i'))
theorem ref_best_post {x : T_api_Instance} {r : T_api_Route} (hx : InstOK x) (hR : RouteI r) (h9 : ¬ (9 < r.visits.length ∧ r.visits.length ≤ 20)) :
    post (lorryref18_Best x r) fun res => (¬ (possS x r = true ∧ r.rests.length ≤ r.visits.length + 1) ∧ res = (zSheet, 2)) ∨
      ((possS x r = true ∧ r.rests.length ≤ r.visits.length + 1) ∧ ((∃ b, fullB x.net (typS x r) (stopsOf x r) r.start r.rests b ∧ minB x.net (typS x r) (stopsOf x r) r.start r.rests b ∧ res = ((lbB x.net (typS x r) (stopsOf x r) r.start b).sheet, 0)) ∨
        ((∀ b, ¬ fullB x.net (typS x r) (stopsOf x r) r.start r.rests b) ∧ res = runS x.net (typS x r) (stopsOf x r) r.start (r.rests ++ List.replicate (r.visits.length + 1 - r.rests.length) false)))) := by
  have hv := hR.visits
  have hr := hR.rests
  unfold lorryref18_Best
  show post (bnd (lorryref18_Possible x r) _) _
  have hadd : addK .i64 (lenI r.visits) 1 = ((r.visits.length + 1 : Nat) : Int) := by unfold lenI; rw [addI (by omega) (by omega)]; omega
  rw [poss_eq, bnd_some, hadd]
  by_cases hp : possS x r = true
  · have h5 := of_decide_eq_true (poss_pre hp)
    have hsl := stops_len (x := x) (r := r)
    by_cases hc : r.rests.length ≤ r.visits.length + 1
    · rw [hp, br_neg (by simp only [Bool.not_true, Bool.false_or, gtI_f, lenI]; omega)]
      have hmk : mkI ((r.visits.length + 1 : Nat) : Int) ((r.visits.length + 1 : Nat) : Int) 1 false = some (List.replicate (r.visits.length + 1) false) := by
        unfold mkI; rw [if_pos (by omega)]; simp
      obtain ⟨f, hf⟩ : ∃ f, f = r.visits.length + 1 - r.rests.length := ⟨_, rfl⟩
      have hf2 : 2 ^ f ≤ 1024 := Nat.le_trans (Nat.pow_le_pow_right (by omega) (show f ≤ 10 by omega)) (by omega)
      have hf1 : 1 ≤ 2 ^ f := Nat.one_le_two_pow
      have hcpy : cpyL (List.replicate (r.visits.length + 1) false) r.rests = r.rests ++ bitsB f 0 := by
        rw [bitsB_zero]
        unfold cpyL cpyN
        rw [List.length_replicate, Nat.min_eq_left hc, List.take_length, List.drop_replicate, ← hf]
      have hB : ∀ j, (r.rests ++ bitsB f j).length = r.visits.length + 1 := fun j => by rw [List.length_append, bitsB_len]; omega
      have hrun : ∀ j, lorryref18_Run x r (r.rests ++ bitsB f j) = some (runS x.net (typS x r) (stopsOf x r) r.start (r.rests ++ bitsB f j)) := fun j => by
        rw [ref_Run_eq hx hv]; unfold runR; rw [if_pos ⟨hp, hB j⟩]
      have hnx : ∀ j, j < 2 ^ f → lorryref18_next (r.rests ++ bitsB f j) (lenI r.rests) = some (if j + 1 < 2 ^ f then (r.rests ++ bitsB f (j + 1), true) else ([], false)) := fun j hj => ref_next_eq (by omega) hj
      rw [hmk, bnd_some, hcpy, ← hf, ← bitsB_zero]
      show post (bnd (lorryref18_Run x r (r.rests ++ bitsB f 0)) _) _
      rw [hrun, bnd_some, hnx 0 (by omega), bnd_some]
      -- the first list
      have hB0 : BstB x.net (typS x r) (stopsOf x r) r.start r.rests f 1 (runS x.net (typS x r) (stopsOf x r) r.start (r.rests ++ bitsB f 0)).1 (eqI (runS x.net (typS x r) (stopsOf x r) r.start (r.rests ++ bitsB f 0)).2 0) := by
        refine ⟨fun h i hi hok => ?_, fun h => ⟨0, by omega, ?_, ?_, fun i hi _ => ?_⟩⟩
        · obtain rfl : i = 0 := by omega
          rw [runS_yes hok] at h; simp [eqI] at h
        · exact Classical.byContradiction fun hn => (runS_no hn).1 (by simpa using h)
        · have hok : okB x.net (typS x r) (stopsOf x r) r.start (r.rests ++ bitsB f 0) := Classical.byContradiction fun hn => (runS_no hn).1 (by simpa using h)
          rw [runS_yes hok]
        · obtain rfl : i = 0 := by omega
          exact ⟨Int.le_refl _, fun _ => Nat.le_refl _⟩
      refine post_bnd (R := fun e => BstB x.net (typS x r) (stopsOf x r) r.start r.rests f (2 ^ f) e.1 e.2) ?_ ?_
      · refine loopIy (fun m s => ∃ j : Nat, 1 ≤ j ∧ j ≤ 2 ^ f ∧ s.1 = r.rests ∧ (s.2.2.2.2 = true → j < 2 ^ f ∧ s.2.2.1 = r.rests ++ bitsB f j) ∧ (s.2.2.2.2 = false → j = 2 ^ f) ∧ BstB x.net (typS x r) (stopsOf x r) r.start r.rests f j s.2.1 s.2.2.2.1 ∧ m = 2 ^ f - j + (if s.2.2.2.2 = true then 1 else 0)) (2 ^ f - 1 + (if 0 + 1 < 2 ^ f then 1 else 0))
          ⟨1, Nat.le_refl _, hf1, rfl, fun h => ?_, fun h => ?_, hB0, ?_⟩ (by split <;> omega) ?_
        · by_cases h1 : 0 + 1 < 2 ^ f
          · rw [if_pos h1] at h ⊢; exact ⟨by omega, rfl⟩
          · rw [if_neg h1] at h; cases h
        · by_cases h1 : 0 + 1 < 2 ^ f
          · rw [if_pos h1] at h; cases h
          · omega
        · by_cases h1 : 0 + 1 < 2 ^ f
          · rw [if_pos h1, if_pos h1]; rfl
          · rw [if_neg h1, if_neg h1]; rfl
        rintro m ⟨rs, sh, cur, found, more⟩ ⟨j, hj1, hj2, hrs, hmt, hmf, hbst, hm⟩
        simp only at hrs hmt hmf hbst hm
        subst hrs
        show post (lorryref18_Best_L1 x r _ _ r.rests sh cur found more) _
        unfold lorryref18_Best_L1 lorryref18_Best_J1
        cases more with
        | false =>
          have := hmf rfl
          subst this
          exact ⟨_, rfl, fun _ h => by (cases h), fun e he => by cases he; exact hbst⟩
        | true =>
          obtain ⟨hjl, hcur⟩ := hmt rfl
          subst hcur
          rw [br_true]
          show post (bnd (lorryref18_Run x r (r.rests ++ bitsB f j)) _) _
          rw [hrun, bnd_some, hnx j hjl]
          have leaf : ∀ (sh' : T_api_Sheet) (fd : Bool), BstB x.net (typS x r) (stopsOf x r) r.start r.rests f (j + 1) sh' fd →
              post (bnd (some (if j + 1 < 2 ^ f then (r.rests ++ bitsB f (j + 1), true) else ([], false))) fun r5 => some (Sum.inl (r.rests, sh', r5.1, fd, r5.2) : (List Bool × T_api_Sheet × List Bool × Bool × Bool) ⊕ (T_api_Sheet × Bool))) fun y => (∀ s', y = .inl s' → ∃ m', m' < m ∧ ∃ j : Nat, 1 ≤ j ∧ j ≤ 2 ^ f ∧ s'.1 = r.rests ∧ (s'.2.2.2.2 = true → j < 2 ^ f ∧ s'.2.2.1 = r.rests ++ bitsB f j) ∧ (s'.2.2.2.2 = false → j = 2 ^ f) ∧ BstB x.net (typS x r) (stopsOf x r) r.start r.rests f j s'.2.1 s'.2.2.2.1 ∧ m' = 2 ^ f - j + (if s'.2.2.2.2 = true then 1 else 0)) ∧ ∀ e, y = .inr e → BstB x.net (typS x r) (stopsOf x r) r.start r.rests f (2 ^ f) e.1 e.2 := by
            intro sh' fd hb'
            rw [bnd_some]
            refine ⟨_, rfl, fun s' hs' => ?_, fun _ h => by cases h⟩
            cases hs'
            simp only [if_true] at hm
            by_cases h1 : j + 1 < 2 ^ f
            · simp only [if_pos h1]
              exact ⟨2 ^ f - (j + 1) + 1, by omega, j + 1, by omega, by omega, trivial, fun _ => ⟨h1, rfl⟩, fun h => (by cases h), hb', by simp⟩
            · simp only [if_neg h1]
              exact ⟨0, by omega, j + 1, by omega, by omega, trivial, fun h => (by cases h), fun _ => by omega, hb', by simp; omega⟩
          by_cases hok : okB x.net (typS x r) (stopsOf x r) r.start (r.rests ++ bitsB f j)
          · rw [runS_yes hok]
            refine post_br (fun hcond => leaf _ _ ⟨fun h => by (cases h), fun _ => ⟨j, by omega, hok, rfl, fun i hi hoi => ?_⟩⟩) (fun hcond => leaf _ _ ?_)
            · rcases Nat.lt_or_ge i j with hij | hij
              · simp only [andT, orT, ntT, ltI_t] at hcond
                cases hfd : found with
                | false => exact absurd hoi (hbst.1 hfd i hij)
                | true =>
                  obtain ⟨i0, k1, k2, k3, k4⟩ := hbst.2 hfd
                  rcases hcond.2 with h | h
                  · rw [hfd] at h; cases h
                  · rw [k3] at h
                    have := (k4 i hij hoi).1
                    unfold endB at this ⊢
                    exact ⟨by omega, fun he => by omega⟩
              · obtain rfl : i = j := by omega
                exact ⟨Int.le_refl _, fun _ => Nat.le_refl _⟩
            · have h0 : eqI (((lbB x.net (typS x r) (stopsOf x r) r.start (r.rests ++ bitsB f j)).sheet, 0) : T_api_Sheet × Int).2 0 = true := rfl
              rw [h0, Bool.true_and] at hcond
              simp only [orF, ntF, ltI_f] at hcond
              obtain ⟨hfd, hle⟩ := hcond
              refine ⟨fun h => by (rw [hfd] at h; cases h), fun _ => ?_⟩
              obtain ⟨i0, k1, k2, k3, k4⟩ := hbst.2 hfd
              refine ⟨i0, by omega, k2, k3, fun i hi hoi => ?_⟩
              rcases Nat.lt_or_ge i j with hij | hij
              · exact k4 i hij hoi
              · obtain rfl : i = j := by omega
                rw [k3] at hle
                exact ⟨hle, fun _ => by omega⟩
          · have hno := runS_no hok
            refine post_br (fun hcond => ?_) (fun _ => leaf _ _ ⟨fun h i hi => ?_, fun h => ?_⟩)
            · simp only [andT, eqI_t] at hcond
              exact absurd hcond.1 hno.1
            · rcases Nat.lt_or_ge i j with hij | hij
              · exact hbst.1 h i hij
              · obtain rfl : i = j := by omega
                exact hok
            · obtain ⟨i0, k1, k2, k3, k4⟩ := hbst.2 h
              refine ⟨i0, by omega, k2, k3, fun i hi hoi => ?_⟩
              rcases Nat.lt_or_ge i j with hij | hij
              · exact k4 i hij hoi
              · obtain rfl : i = j := by omega
                exact absurd hoi hok
      · rintro ⟨sh, found⟩ hbst
        have hall : ∀ b, fullB x.net (typS x r) (stopsOf x r) r.start r.rests b → ∃ j, j < 2 ^ f ∧ b = r.rests ++ bitsB f j := fun b hb => fol_all (by rw [hb.1]; omega) hb.2.1
        show post (br found _ _) _
        cases hfd : found with
        | true =>
          rw [br_true]
          obtain ⟨i0, k1, k2, k3, k4⟩ := hbst.2 hfd
          refine post_some.2 (.inr ⟨⟨rfl, hc⟩, .inl ⟨r.rests ++ bitsB f i0, ⟨by rw [hB]; omega, fol_bits, k2⟩, fun q hq => ?_, by rw [← k3]⟩⟩)
          obtain ⟨j, hj, rfl⟩ := hall q hq
          have := k4 j hj hq.2.2
          refine ⟨this.1, fun h => ?_⟩
          rw [valB_bits _ _ _ k1, valB_bits _ _ _ hj]
          have := this.2 h
          omega
        | false =>
          rw [br_false]
          have hnone : ∀ b, ¬ fullB x.net (typS x r) (stopsOf x r) r.start r.rests b := fun b hb => by
            obtain ⟨j, hj, rfl⟩ := hall b hb
            exact hbst.1 hfd j hj hb.2.2
          refine post_some.2 (.inr ⟨⟨rfl, hc⟩, .inr ⟨hnone, ?_⟩⟩)
          have hno : ¬ okB x.net (typS x r) (stopsOf x r) r.start (r.rests ++ bitsB f 0) := hbst.1 hfd 0 (by omega)
          rw [← bitsB_zero]
          exact (runS_no hno).2.symm
    · rw [br_pos (by simp only [orT, gtI_t, lenI]; right; omega)]
      exact post_some.2 (.inl ⟨fun h => hc h.2, rfl⟩)
  · rw [br_pos (by simp [hp])]
    exact post_some.2 (.inl ⟨fun h => hp h.1, rfl⟩)
end Go.Proofs.YtjhhlmmmkgnhmaaDoor
