/- Plain: NetworkEarliest answers true. -/
import Derived.Test.YtjhhlmmmkgnhmaaDoorGqp
import Derived.Test.YtjhhlmmmkgnhmaaDoorGqg
namespace Go.Proofs.YtjhhlmmmkgnhmaaDoor
set_option linter.unusedSimpArgs false
set_option linter.unusedVariables false
set_option linter.unusedSectionVars false

theorem goodA {np : Nat} {B : Int} {a : T_api_Arc} (h : ArcOK np a) : GoodA np B 73728 a :=
  ⟨h.from0, h.from1, h.to0, h.to1, fun t _ _ => arrA_ge h t, fun t h0 _ => arrA_le h h0⟩
/-- An arc is of use. -/
def use (prof : Int) (s : List Int) (a : T_api_Arc) : Prop := a.profile = prof ∧ 0 ≤ at_ s a.from_.toNat ∧ (at_ s a.to_.toNat < 0 ∨ arrA a (at_ s a.from_.toNat) < at_ s a.to_.toNat)
instance (prof : Int) (s : List Int) (a : T_api_Arc) : Decidable (use prof s a) := inferInstanceAs (Decidable (_ ∧ _ ∧ _))
theorem relax_use {prof : Int} {s : List Int} {a : T_api_Arc} (h : use prof s a) : relax prof s a = s.set a.to_.toNat (arrA a (at_ s a.from_.toNat)) := if_pos h
theorem relax_not {prof : Int} {s : List Int} {a : T_api_Arc} (h : ¬ use prof s a) : relax prof s a = s := if_neg h
theorem relax_len {prof : Int} {s : List Int} {a : T_api_Arc} : (relax prof s a).length = s.length := by unfold relax; split <;> simp
theorem passK_len {prof : Int} {arcs : List T_api_Arc} {s : List Int} {k : Nat} : (passK prof arcs s k).length = s.length := by
  unfold passK
  generalize arcs.take k = l
  induction l generalizing s with
  | nil => rfl
  | cons a l ih => rw [List.foldl_cons, ih, relax_len]
theorem use_ne {prof : Int} {s : List Int} {a : T_api_Arc} {np : Nat} (hl : s.length = np) (ha : ArcOK np a) (h : use prof s a) : relax prof s a ≠ s := fun e => by
  rw [relax_use h] at e
  have h1 := at_set (s := s) (d := a.to_.toNat) (v := a.to_.toNat) (x := arrA a (at_ s a.from_.toNat)) (by have := ha.to0; have := ha.to1; omega)
  rw [if_pos rfl, e] at h1
  have h2 := arrA_ge ha (at_ s a.from_.toNat)
  obtain ⟨_, h3, h4⟩ := h
  omega
theorem getI_at_ {s : List Int} {i : Int} (h0 : 0 ≤ i) (h1 : i < s.length) : getI s i = some (at_ s i.toNat) := by
  rw [getI_at h0 h1]
  unfold at_
  rw [List.getD_eq_getElem?_getD, List.getElem?_eq_getElem]; rfl
def usedK (prof : Int) (arcs : List T_api_Arc) (s : List Int) : Nat → Bool
  | 0 => false
  | k + 1 => usedK prof arcs s k || (match arcs[k]? with
    | some a => decide (use prof (passK prof arcs s k) a)
    | none => false)
theorem usedK_false {prof : Int} {arcs : List T_api_Arc} {s : List Int} : ∀ k, usedK prof arcs s k = false → passK prof arcs s k = s
  | 0, _ => rfl
  | k + 1, h => by
    simp only [usedK, orF] at h
    have ih := usedK_false k h.1
    cases ha : arcs[k]? with
    | none =>
      unfold passK at ih ⊢
      rw [List.take_of_length_le (by have := List.getElem?_eq_none_iff.1 ha; omega)] at ih ⊢
      exact ih
    | some a =>
      have h2 := h.2
      rw [ha] at h2
      rw [passK_succ ha, relax_not (of_decide_eq_false h2), ih]
theorem usedK_fix {prof : Int} {arcs : List T_api_Arc} {s : List Int} {np : Nat} (hl : s.length = np) (hok : ∀ a ∈ arcs, ArcOK np a) : ∀ k, (∀ j, j ≤ k → passK prof arcs s j = s) → usedK prof arcs s k = false
  | 0, _ => rfl
  | k + 1, h => by
    simp only [usedK, orF]
    refine ⟨usedK_fix hl hok k fun j hj => h j (by omega), ?_⟩
    cases ha : arcs[k]? with
    | none => rfl
    | some a =>
      refine decide_eq_false fun hu => ?_
      have h1 := h (k + 1) (by omega)
      have h2 := h k (by omega)
      rw [passK_succ ha, h2] at h1
      rw [h2] at hu
      exact use_ne hl (hok a (List.mem_of_getElem? ha)) hu h1

section
variable {n : T_api_Network} {profile from_ t : Int}
/-- All unreached but the first place. -/
def start (np : Nat) (from_ t : Int) : List Int := (List.replicate np (-1)).set from_.toNat t
theorem start_at {np : Nat} {v : Nat} (h0 : 0 ≤ from_) (h1 : from_ < np) : at_ (start np from_ t) v = if v = from_.toNat then t else -1 := by
  unfold start
  rw [at_set (by simp; omega)]
  congr 1
  unfold at_
  rw [List.getD_eq_getElem?_getD, List.getElem?_replicate]
  split <;> rfl
theorem start_inv {arcs : List T_api_Arc} {np : Nat} (h0 : 0 ≤ from_) (h1 : from_ < np) (ht : 0 ≤ t) : ∃ level path, Inv profile np 73728 t arcs 1 0 (start np from_ t) level path := by
  have key : ∀ v, 0 ≤ at_ (start np from_ t) v → v = from_.toNat ∧ at_ (start np from_ t) v = t := fun v hv => by
    rw [start_at h0 h1] at hv ⊢
    split at hv
    · rename_i h; exact ⟨h, by rw [if_pos h]⟩
    · omega
  refine ⟨fun _ => 0, fun v => [v], by simp [start], fun v _ => by simp, fun v _ => by simp, fun v hv u hu => ?_, fun v _ => by simp, fun v hv => ?_, fun a _ h => by omega, fun i a h => by omega⟩
  · simp only [List.mem_singleton] at hu
    subst hu
    have := (key u hv).1
    exact ⟨by omega, hv, Int.le_refl _⟩
  · rw [(key v hv).2]; simp
/-- The passes from the start: what an arc reads is a tick. -/
theorem passes_ok (hok : NetOK n) (h0 : 0 ≤ from_) (h1 : from_ < n.places.length) (ht : 0 ≤ t) (ht' : t ≤ 1048576) (j k : Nat) (hk : k ≤ n.arcs.length) :
    (∀ v, 0 ≤ at_ (passK profile n.arcs (iter profile n.arcs (start n.places.length from_ t) j) k) v → inT (at_ (passK profile n.arcs (iter profile n.arcs (start n.places.length from_ t) j) k) v)) ∧
    (n.places.length ≤ j + 1 → passK profile n.arcs (iter profile n.arcs (start n.places.length from_ t) j) k = iter profile n.arcs (start n.places.length from_ t) j) := by
  have hg : ∀ a ∈ n.arcs, GoodA n.places.length 1073741824 73728 a := fun a ha => goodA (hok.all a ha)
  have hp := hok.places
  have hB : t + 73728 * (n.places.length : Int) ≤ 1073741824 := by omega
  obtain ⟨hI, _⟩ := Inv.passes (prof := profile) (by omega) hB hg (start_inv (profile := profile) (arcs := n.arcs) h0 h1 ht) j
  obtain ⟨⟨level, path, h⟩, hfix⟩ := Inv.steps (by omega) hB hg hI k hk
  refine ⟨fun v hv => ⟨hv, ?_⟩, hfix⟩
  have h2 := h.val v hv
  have h3 := h.plen hv
  have : 73728 * ((path v).length : Int) ≤ 73728 * (n.places.length : Int) := by omega
  omega
theorem iter_len {arcs : List T_api_Arc} {s : List Int} : ∀ j, (iter profile arcs s j).length = s.length
  | 0 => rfl
  | j + 1 => by show (passK _ _ _ _).length = _; rw [passK_len, iter_len j]
theorem iter_fix {arcs : List T_api_Arc} {s : List Int} {j : Nat} (h : pass profile arcs (iter profile arcs s j) = iter profile arcs s j) : ∀ d, iter profile arcs s (j + d) = iter profile arcs s j
  | 0 => rfl
  | d + 1 => by show pass profile arcs (iter profile arcs s (j + d)) = _; rw [iter_fix h d, h]

/-- A pass of the reference. -/
theorem ref_pass {s : List Int} (hok : NetOK n) (hl : s.length = n.places.length) (hT : ∀ k, k ≤ n.arcs.length → ∀ v, 0 ≤ at_ (passK profile n.arcs s k) v → inT (at_ (passK profile n.arcs s k) v)) (r : Int) :
    loopF (fun x => lorryref09_Earliest_L3 n profile from_ r x.1 x.2) (s, 0) = some (pass profile n.arcs s) := by
  have hal := hok.arcs
  refine loop_for (B := fun x : List Int × Int => lorryref09_Earliest_L3 n profile from_ r x.1 x.2) n.arcs.length (fun i => (passK profile n.arcs s i, (i : Int))) (by omega) (fun i hi => ?_) ?_
  · have e1 : n.arcs[i]? = some n.arcs[i] := List.getElem?_eq_getElem hi
    have ha := hok.all _ (List.getElem_mem hi)
    show lorryref09_Earliest_L3 n profile from_ r (passK profile n.arcs s i) (i : Int) = some (.inl (passK profile n.arcs s (i + 1), ((i + 1 : Nat) : Int)))
    rw [passK_succ e1]
    unfold lorryref09_Earliest_L3
    rw [br_pos (by simp [lenI]; exact hi), getI_nat e1, bnd_some, inc (n := n.arcs.length) hi (by omega)]
    have hv := hT i (by omega)
    generalize n.arcs[i] = a at *
    have hlen : (passK profile n.arcs s i).length = n.places.length := by rw [passK_len, hl]
    generalize passK profile n.arcs s i = u at *
    have g1 := getI_at_ (s := u) ha.from0 (by rw [hlen]; exact ha.from1)
    have g2 := getI_at_ (s := u) ha.to0 (by rw [hlen]; exact ha.to1)
    have hcast : ((i + 1 : Nat) : Int) = (i : Int) + 1 := by omega
    rw [hcast]
    by_cases c1 : a.profile = profile
    · rw [br_pos (by simpa using c1), g1, bnd_some]
      by_cases c2 : 0 ≤ at_ u a.from_.toNat
      · rw [br_pos (by simpa using c2), ref09_Arrive_eq ha (hv _ c2), bnd_some, g2, bnd_some]
        by_cases c3 : at_ u a.to_.toNat < 0
        · rw [br_pos (by simpa using c3), relax_use ⟨c1, c2, .inl c3⟩]; rfl
        · rw [br_neg (by simpa using c3)]
          by_cases c4 : arrA a (at_ u a.from_.toNat) < at_ u a.to_.toNat
          · rw [br_pos (by simpa using c4), relax_use ⟨c1, c2, .inr c4⟩]; rfl
          · rw [br_neg (by simpa using c4), relax_not (fun h => by rcases h.2.2 with h | h; exact c3 h; exact c4 h)]
      · rw [br_neg (by simpa using c2), relax_not (fun h => c2 h.2.1)]
    · rw [br_neg (by simpa using c1), relax_not (fun h => c1 h.1)]
  · show lorryref09_Earliest_L3 n profile from_ r _ (n.arcs.length : Int) = _
    unfold lorryref09_Earliest_L3
    rw [br_neg (by simp [lenI])]
    rfl
theorem prog_pass {s : List Int} {l0 : List Int} (hok : NetOK n) (hl : s.length = n.places.length) (hT : ∀ k, k ≤ n.arcs.length → ∀ v, 0 ≤ at_ (passK profile n.arcs s k) v → inT (at_ (passK profile n.arcs s k) v)) :
    loopF (fun x => network_Earliest_L3 n profile from_ l0 x.1 x.2.1 x.2.2) (s, false, 0) = some (pass profile n.arcs s, usedK profile n.arcs s n.arcs.length) := by
  have hal := hok.arcs
  refine loop_for (B := fun x : List Int × Bool × Int => network_Earliest_L3 n profile from_ l0 x.1 x.2.1 x.2.2) n.arcs.length (fun i => (passK profile n.arcs s i, usedK profile n.arcs s i, (i : Int))) (by omega) (fun i hi => ?_) ?_
  · have e1 : n.arcs[i]? = some n.arcs[i] := List.getElem?_eq_getElem hi
    have ha := hok.all _ (List.getElem_mem hi)
    show network_Earliest_L3 n profile from_ l0 (passK profile n.arcs s i) (usedK profile n.arcs s i) (i : Int) = some (.inl (passK profile n.arcs s (i + 1), usedK profile n.arcs s i || (match n.arcs[i]? with
      | some a => decide (use profile (passK profile n.arcs s i) a)
      | none => false), ((i + 1 : Nat) : Int)))
    rw [passK_succ e1]
    unfold network_Earliest_L3
    rw [br_pos (by simp [lenI]; exact hi), getI_nat e1, bnd_some, inc (n := n.arcs.length) hi (by omega), e1]
    simp only
    have hv := hT i (by omega)
    generalize n.arcs[i] = a at *
    have hlen : (passK profile n.arcs s i).length = n.places.length := by rw [passK_len, hl]
    generalize passK profile n.arcs s i = u at *
    generalize usedK profile n.arcs s i = b
    have g1 := getI_at_ (s := u) ha.from0 (by rw [hlen]; exact ha.from1)
    have g2 := getI_at_ (s := u) ha.to0 (by rw [hlen]; exact ha.to1)
    have hcast : ((i + 1 : Nat) : Int) = (i : Int) + 1 := by omega
    rw [hcast, place_eq, bnd_some, place_eq, bnd_some, br_pos (show isPlace n a.from_ = true from decide_eq_true ⟨ha.from0, ha.from1⟩), br_pos (show isPlace n a.to_ = true from decide_eq_true ⟨ha.to0, ha.to1⟩)]
    have yes : use profile u a → (decide (use profile u a)) = true := decide_eq_true
    have no : ¬ use profile u a → (decide (use profile u a)) = false := decide_eq_false
    by_cases c1 : a.profile = profile
    · rw [br_neg (by simpa using c1), g1, bnd_some]
      by_cases c2 : 0 ≤ at_ u a.from_.toNat
      · rw [br_neg (by simpa using c2), arrival_eq ha (hv _ c2), bnd_some, g2, bnd_some]
        by_cases c3 : at_ u a.to_.toNat < 0
        · rw [br_pos (by simpa using c3), relax_use ⟨c1, c2, .inl c3⟩, yes ⟨c1, c2, .inl c3⟩, Bool.or_true]; rfl
        · rw [br_neg (by simpa using c3)]
          by_cases c4 : arrA a (at_ u a.from_.toNat) < at_ u a.to_.toNat
          · rw [br_pos (by simpa using c4), relax_use ⟨c1, c2, .inr c4⟩, yes ⟨c1, c2, .inr c4⟩, Bool.or_true]; rfl
          · have hn : ¬ use profile u a := fun h => by rcases h.2.2 with h | h; exact c3 h; exact c4 h
            rw [br_neg (by simpa using c4), relax_not hn, no hn, Bool.or_false]
      · have hn : ¬ use profile u a := fun h => c2 h.2.1
        rw [br_pos (by simpa using c2), relax_not hn, no hn, Bool.or_false]
    · have hn : ¬ use profile u a := fun h => c1 h.1
      rw [br_pos (by simpa using c1), relax_not hn, no hn, Bool.or_false]
  · show network_Earliest_L3 n profile from_ l0 _ _ (n.arcs.length : Int) = _
    unfold network_Earliest_L3
    rw [br_neg (by simp [lenI])]
    rfl

theorem iter_ix {S E : Type} {B : S → Option (S ⊕ E)} (C : Nat → S → Prop) (Q : E → Prop)
    (h : ∀ m s, C m s → post (B s) fun x => (∀ s', x = .inl s' → ∃ m', m' < m ∧ C m' s') ∧ ∀ e, x = .inr e → Q e) : ∀ (n m : Nat) (s : S), C m s → m < n → post (iterF B n s) Q := by
  intro n
  induction n with
  | zero => intro m s _ hm; omega
  | succ n ih =>
    intro m s hs hm
    obtain ⟨x, hx, h1, h2⟩ := h m s hs
    simp only [iterF, hx]
    cases x with
    | inl s' =>
      obtain ⟨m', h3, h4⟩ := h1 s' rfl
      exact ih m' s' h4 (by omega)
    | inr e => exact ⟨e, rfl, h2 e rfl⟩
/-- A loop, with a count of its own. -/
theorem post_loopIx {S E : Type} {B : S → Option (S ⊕ E)} (C : Nat → S → Prop) {Q : E → Prop} {s : S} (m : Nat) (hs : C m s) (hm : m < 18446744073709551616)
    (h : ∀ m s, C m s → post (B s) fun x => (∀ s', x = .inl s' → ∃ m', m' < m ∧ C m' s') ∧ ∀ e, x = .inr e → Q e) : post (loopF B s) Q := iter_ix C Q h _ m s hs hm
/-- What both come to. -/
def earS (n : T_api_Network) (profile from_ t : Int) : List Int :=
  if isPlace n from_ = true then iter profile n.arcs (start n.places.length from_ t) n.places.length else List.replicate n.places.length (-1)
theorem all_none {arcs : List T_api_Arc} (np k : Nat) : passK profile arcs (List.replicate np (-1)) k = List.replicate np (-1) := by
  unfold passK
  generalize arcs.take k = l
  induction l with
  | nil => rfl
  | cons a l ih =>
    rw [List.foldl_cons, relax_not, ih]
    intro h
    have h1 := h.2.1
    unfold at_ at h1
    rw [List.getD_eq_getElem?_getD, List.getElem?_replicate] at h1
    split at h1 <;> simp at h1
theorem all_none_at (np v : Nat) : at_ (List.replicate np (-1)) v = -1 := by
  unfold at_
  rw [List.getD_eq_getElem?_getD, List.getElem?_replicate]
  split <;> rfl
theorem earliest_eq (hok : NetOK n) (ht : 0 ≤ t) (ht' : t ≤ 1048576) : network_Earliest n profile from_ t = some (earS n profile from_ t) := by
  have hp := hok.places
  unfold network_Earliest
  rw [show mkI (lenI n.places) (lenI n.places) 8 (0 : Int) = some (List.replicate n.places.length 0) by unfold mkI lenI; rw [if_pos (by omega)]; simp, bnd_some]
  have l1 : loopF (fun s => network_Earliest_L1 n profile from_ t (List.replicate n.places.length 0) s.1 s.2) (List.replicate n.places.length 0, 0) = some (List.replicate n.places.length (-1)) := by
    have := loop_for (B := fun s : List Int × Int => network_Earliest_L1 n profile from_ t (List.replicate n.places.length 0) s.1 s.2) (e := List.replicate n.places.length (-1)) n.places.length (fun i => (List.replicate i (-1) ++ List.replicate (n.places.length - i) 0, (i : Int))) (by omega) (fun i hi => ?_) ?_
    · simpa using this
    · show network_Earliest_L1 n profile from_ t _ (List.replicate i (-1) ++ List.replicate (n.places.length - i) 0) (i : Int) = some (.inl (List.replicate (i + 1) (-1) ++ List.replicate (n.places.length - (i + 1)) 0, ((i + 1 : Nat) : Int)))
      unfold network_Earliest_L1
      have hd : List.replicate (n.places.length - i) (0 : Int) = 0 :: List.replicate (n.places.length - (i + 1)) 0 := by
        rw [show n.places.length - i = (n.places.length - (i + 1)) + 1 by omega]; rfl
      have hl : (List.replicate i (-1 : Int)).length = i := by simp
      have e1 : (List.replicate i (-1 : Int) ++ List.replicate (n.places.length - i) 0)[i]? = some 0 := by rw [List.getElem?_append_right (by omega), hl, Nat.sub_self, hd]; rfl
      rw [br_pos (by simp [lenI]; exact hi), getI_nat e1, bnd_some, inc (n := n.places.length) hi (by omega)]
      unfold setI
      rw [Int.toNat_natCast, List.set_append_right _ _ (by omega), hl, Nat.sub_self, hd, List.set_cons_zero, List.replicate_succ' (n := i)]
      simp
    · show network_Earliest_L1 n profile from_ t _ _ (n.places.length : Int) = _
      unfold network_Earliest_L1
      rw [br_neg (by simp [lenI])]
      simp
  rw [l1, bnd_some, place_eq, bnd_some]
  unfold earS
  by_cases hf : isPlace n from_ = true
  · rw [if_pos hf, br_pos hf]
    obtain ⟨h0, h1⟩ := of_decide_eq_true hf
    rw [getI_at_ h0 (by simpa using h1), bnd_some]
    apply post.eq
    refine post_bndE ?_
    have hst : setI (List.replicate n.places.length (-1)) from_ t = start n.places.length from_ t := rfl
    rw [hst]
    have hlen : ∀ j, (iter profile n.arcs (start n.places.length from_ t) j).length = n.places.length := fun j => by rw [iter_len]; simp [start]
    refine post_loopIx (fun m s => ∃ j : Nat, j ≤ n.places.length ∧ s.1 = iter profile n.arcs (start n.places.length from_ t) j ∧ (s.2 = true → j < n.places.length) ∧ (s.2 = false → pass profile n.arcs s.1 = s.1) ∧ m = (n.places.length - j) + (if s.2 = true then 1 else 0)) (n.places.length + 1)
      ⟨0, Nat.zero_le _, rfl, fun _ => by omega, fun h => by (cases h), by simp⟩ (by omega) ?_
    rintro m ⟨l, b⟩ ⟨j, hj, hl, hb, hb', hm⟩
    simp only at hl hb hb' hm
    subst hl
    show post (network_Earliest_L2 n profile from_ _ _ b) _
    unfold network_Earliest_L2
    have hpk := passes_ok (profile := profile) (t := t) hok h0 h1 ht ht' j
    cases b with
    | true =>
      have hj' := hb rfl
      rw [br_true, prog_pass hok (hlen j) (fun k hk => (hpk k hk).1), bnd_some]
      refine ⟨_, rfl, fun s' hs => ?_, fun _ h => by cases h⟩
      cases hs
      refine ⟨_, ?_, j + 1, by omega, rfl, fun hu => ?_, fun hu => ?_, rfl⟩
      · rw [hm]; simp only [if_true]; split <;> omega
      · rcases Nat.lt_or_ge (j + 1) n.places.length with h | h
        · exact h
        · exfalso
          have h2 := usedK_fix (prof := profile) (hlen j) hok.all n.arcs.length (fun i hi => (hpk i hi).2 h)
          simp only at hu
          rw [h2] at hu; cases hu
      · have h2 := usedK_false _ hu
        have h3 : pass profile n.arcs (iter profile n.arcs (start n.places.length from_ t) j) = iter profile n.arcs (start n.places.length from_ t) j := h2
        simp only
        rw [h3, h3]
    | false =>
      refine post_inr ?_
      have h2 := iter_fix (hb' rfl) (n.places.length - j)
      rw [show j + (n.places.length - j) = n.places.length by omega] at h2
      show post (some (iter profile n.arcs (start n.places.length from_ t) j)) _
      rw [h2]
      exact post_some.2 rfl
  · rw [if_neg hf, br_neg (by simpa using hf)]
theorem ref_earliest_eq (hok : NetOK n) (ht : 0 ≤ t) (ht' : t ≤ 1048576) : lorryref09_Earliest n profile from_ t = some (earS n profile from_ t) := by
  have hp := hok.places
  unfold lorryref09_Earliest
  have l1 : loopF (fun s => lorryref09_Earliest_L1 n profile from_ t s.1 s.2) ([], 0) = some (if isPlace n from_ = true then start n.places.length from_ t else List.replicate n.places.length (-1)) := by
    let f : Nat → Int := fun v => if (v : Int) = from_ then t else -1
    have := loop_for (B := fun s : List Int × Int => lorryref09_Earliest_L1 n profile from_ t s.1 s.2) (e := (List.range n.places.length).map f) n.places.length (fun i => ((List.range i).map f, (i : Int))) (by omega) (fun i hi => ?_) ?_
    · rw [show ([] : List Int) = (List.range 0).map f from rfl, show (0 : Int) = ((0 : Nat) : Int) from rfl, this]
      congr 1
      apply List.ext_getElem?
      intro v
      by_cases hv : v < n.places.length
      · rw [List.getElem?_map, List.getElem?_range hv]
        show some (f v) = _
        by_cases hf : isPlace n from_ = true
        · obtain ⟨h0, h1⟩ := of_decide_eq_true hf
          rw [if_pos hf]
          unfold start
          rw [List.getElem?_set]
          by_cases hc : (v : Int) = from_
          · rw [if_pos (by omega), if_pos (by simp; omega)]; simp [f, hc]
          · rw [if_neg (by omega), List.getElem?_replicate, if_pos hv]; simp [f, hc]
        · rw [if_neg hf, List.getElem?_replicate, if_pos hv]
          have hc : (v : Int) ≠ from_ := fun h => hf (decide_eq_true ⟨by omega, by omega⟩)
          simp [f, hc]
      · rw [List.getElem?_eq_none (by simp; omega), List.getElem?_eq_none]
        split
        · simp [start]; omega
        · simp; omega
    · show lorryref09_Earliest_L1 n profile from_ t ((List.range i).map f) (i : Int) = some (.inl ((List.range (i + 1)).map f, ((i + 1 : Nat) : Int)))
      unfold lorryref09_Earliest_L1
      rw [br_pos (by simp [lenI]; exact hi), inc (n := n.places.length) hi (by omega), List.range_succ, List.map_append]
      by_cases hc : (i : Int) = from_
      · rw [br_pos (by simpa using hc), chk_pos (okN_of (by simp; omega))]
        simp [f, hc]
      · rw [br_neg (by simpa using hc), chk_pos (okN_of (by simp; omega))]
        simp [f, hc]
    · show lorryref09_Earliest_L1 n profile from_ t _ (n.places.length : Int) = _
      unfold lorryref09_Earliest_L1
      rw [br_neg (by simp [lenI])]
  rw [l1, bnd_some]
  have key : ∀ s0 : List Int, s0.length = n.places.length → (∀ j k, k ≤ n.arcs.length → ∀ v, 0 ≤ at_ (passK profile n.arcs (iter profile n.arcs s0 j) k) v → inT (at_ (passK profile n.arcs (iter profile n.arcs s0 j) k) v)) →
      loopF (fun s => lorryref09_Earliest_L2 n profile from_ s.1 s.2) (s0, 0) = some (iter profile n.arcs s0 n.places.length) := by
    intro s0 hl hT
    refine loop_for (B := fun s : List Int × Int => lorryref09_Earliest_L2 n profile from_ s.1 s.2) n.places.length (fun i => (iter profile n.arcs s0 i, (i : Int))) (by omega) (fun i hi => ?_) ?_
    · show lorryref09_Earliest_L2 n profile from_ (iter profile n.arcs s0 i) (i : Int) = some (.inl (iter profile n.arcs s0 (i + 1), ((i + 1 : Nat) : Int)))
      unfold lorryref09_Earliest_L2
      rw [br_pos (by simp [lenI]; exact hi), ref_pass hok (by rw [iter_len]; exact hl) (fun k hk => hT i k hk), bnd_some, inc (n := n.places.length) hi (by omega)]
      rfl
    · show lorryref09_Earliest_L2 n profile from_ _ (n.places.length : Int) = _
      unfold lorryref09_Earliest_L2
      rw [br_neg (by simp [lenI])]
  unfold earS
  by_cases hf : isPlace n from_ = true
  · obtain ⟨h0, h1⟩ := of_decide_eq_true hf
    rw [if_pos hf, if_pos hf, key _ (by simp [start]) (fun j k hk => (passes_ok hok h0 h1 ht ht' j k hk).1), bnd_some]
  · have hit : ∀ j, iter profile n.arcs (List.replicate n.places.length (-1)) j = List.replicate n.places.length (-1) := fun j => by
      induction j with
      | zero => rfl
      | succ j ih => show passK _ _ (iter _ _ _ j) _ = _; rw [ih, all_none]
    rw [if_neg hf, if_neg hf, key _ (by simp) (fun j k hk v hv => by rw [hit, all_none, all_none_at] at hv; omega), hit, bnd_some]
theorem ints_refl {l : List Int} (hl : l.length ≤ 1048576) : lorrylaw09_ints l l = some true := by
  unfold lorrylaw09_ints
  rw [br_neg (by simp [neI])]
  have l1 : loopF (fun s => lorrylaw09_ints_L1 l l s) 0 = some (.inl ()) := by
    refine all_loop (fun _ => true) _ (Sum.inr false) hl (fun _ _ => rfl) (fun i x hx => ?_) ?_
    · show lorrylaw09_ints_L1 l l (i : Int) = _
      unfold lorrylaw09_ints_L1
      have := (List.getElem?_eq_some_iff.1 hx).1
      rw [br_pos (by simp [lenI]; omega), getI_nat hx, bnd_some, bnd_some, br_neg (by simp), br_true]
    · show lorrylaw09_ints_L1 l l (l.length : Int) = _
      unfold lorrylaw09_ints_L1
      rw [br_neg (by simp [lenI])]
  rw [l1, bnd_some, sel_inl]
theorem NetworkEarliest_plain (n : T_api_Network) (hn : NetI n) (profile from_ t : Int) : lorrylaw09_NetworkEarliest n profile from_ t = some true := by
  apply post.eq
  unfold lorrylaw09_NetworkEarliest
  rw [examples09_ok]
  refine post_bnd (right09 hn) fun r hr => post_br (fun h => ?_) (fun _ => post_some.2 rfl)
  obtain ⟨hok, h60⟩ := hr h
  rw [tick09, bnd_some]
  refine post_br (fun ht => ?_) (fun _ => post_some.2 rfl)
  obtain ⟨h0, h1⟩ := of_decide_eq_true ht
  have hlen : (earS n profile from_ t).length = n.places.length := by
    unfold earS; split
    · rw [iter_len]; simp [start]
    · simp
  rw [earliest_eq hok h0 h1, bnd_some, ref_earliest_eq hok h0 h1, bnd_some, ints_refl (by have := hok.places; omega), bnd_some]
  exact post_some.2 rfl
end
end Go.Proofs.YtjhhlmmmkgnhmaaDoor
